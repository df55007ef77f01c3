/-
  A list of statements that is being appended to: its own block; the contract of scope.stmts. No condition.
  A statement that is being made, in a block of its own. No condition.
  The switch of scope.stmts: its code, the frame behind it. No condition.
-/
import Derived.Test.YtgmaeflfiooigaaGreatDoorTreeO
import Derived.Deep.CutBlock
import Derived.Deep.DeepCutAuto
set_option linter.unusedVariables false
set_option linter.unusedSimpArgs false
namespace Go.Proofs.YtgmaeflfiooigaaGreatDoor
open Go.RowKit
set_option maxHeartbeats 4000000
set_option maxRecDepth 100000

theorem infoSt : (Tryz.prog.info? 49).map (fun i => (i.zero, i.size, i.bytes)) = some (some (.agg #[.int .i64 0, .string ⟨#[]⟩, .slice none 0 0, .slice none 0 0, .slice none 0 0]), 5, 96) := by kernel_rfl
theorem ExsAt.strongS {D : Nat → Prop} {w : World} {l : List Ex} {v : Value} (h : ExsAt D w l v) : ExsAt (fun b => D b ∧ b < w.heap.size) w l v := h.strong
theorem StsAt.strong {D : Nat → Prop} {w : World} {l : List St} {v : Value} (h : StsAt D w l v) : StsAt (fun b => D b ∧ b < w.heap.size) w l v := by
  induction h with
  | mk l a cap b off sa st se hcap hfit ha h0 h1 h2 h3 h4 ea _ _ ih1 ih2 =>
    refine .mk l a cap b off sa st se hcap hfit ?_ h0 h1 h2 h3 h4 (fun i hi => (ea i hi).strong) ih1 ih2
    rcases ha with ha | ⟨ha, hD⟩
    · exact .inl ha
    · rcases Nat.eq_zero_or_pos l.length with hz | hz
      · exact .inl hz
      · exact .inr ⟨ha, hD, World.block_lt_of_cell? _ _ (h0 0 hz)⟩
/-- A statement, and the values of its three slices. -/
structure StV where
  x : St
  a : Value
  t : Value
  e : Value
def stFlat (ps : List StV) : List Value := ps.flatMap fun p => stCells p.x p.a p.t p.e
theorem stFlat_len : ∀ ps, (stFlat ps).length = ps.length * 5
  | [] => rfl
  | p :: ps => by
    have := stFlat_len ps
    unfold stFlat at *
    simp only [List.flatMap_cons, List.length_append, List.length_cons]
    rw [this]; simp [stCells]; omega
theorem stFlat_at : ∀ (ps : List StV) (i q : Nat) (p : StV), ps[i]? = some p → q < 5 → (stFlat ps)[i * 5 + q]? = (stCells p.x p.a p.t p.e)[q]?
  | [], i, q, p, h, _ => by simp at h
  | x :: ps, 0, q, p, h, hq => by
    simp at h; subst h
    unfold stFlat
    rw [List.flatMap_cons, List.getElem?_append_left (by simp [stCells]; omega)]
    simp
  | x :: ps, i + 1, q, p, h, hq => by
    simp at h
    have := stFlat_at ps i q p h hq
    unfold stFlat at *
    rw [List.flatMap_cons, List.getElem?_append_right (by simp [stCells]; omega)]
    rw [← this]; congr 1; simp [stCells]; omega
theorem stFlat_app (a c : List StV) : stFlat (a ++ c) = stFlat a ++ stFlat c := by unfold stFlat; rw [List.flatMap_append]
/-- The parts of a statement lie in the blocks D. -/
def StParts (D : Nat → Prop) (w : World) (p : StV) : Prop := ExsAt D w p.x.args p.a ∧ StsAt D w p.x.thn p.t ∧ StsAt D w p.x.els p.e
theorem StParts.keep {D : Nat → Prop} {w w' : World} (hk : Keeps D w w') {p : StV} (h : StParts D w p) : StParts D w' p := ⟨h.1.keep hk, h.2.1.keep hk, h.2.2.keep hk⟩
theorem StParts.mono {D D' : Nat → Prop} {w : World} (hD : ∀ b, D b → D' b) {p : StV} (h : StParts D w p) : StParts D' w p := ⟨h.1.mono hD, h.2.1.mono hD, h.2.2.mono hD⟩
theorem StParts.strong {D : Nat → Prop} {w : World} {p : StV} (h : StParts D w p) : StParts (fun b => D b ∧ b < w.heap.size) w p := ⟨h.1.strong, h.2.1.strong, h.2.2.strong⟩
/-- v holds the statements of ps, in a block of its own; their parts lie elsewhere. -/
def StsOwn (w : World) (base : Nat) (ps : List StV) (v : Value) : Prop :=
  w.ownsRow base 49 5 v ps.length (stFlat ps) ∧ ∀ p, p ∈ ps → StParts (fun b => base ≤ b ∧ v.ownBlock ≠ some b) w p
theorem StsOwn.zero (w : World) (base : Nat) : StsOwn w base [] (.slice none 0 0) := ⟨⟨rfl, .inl ⟨rfl, rfl⟩⟩, fun p hp => by cases hp⟩
/-- Where only other blocks change. -/
theorem StsOwn.keep {w w' : World} {base : Nat} {ps : List StV} {v : Value} (h : StsOwn w base ps v) (hk : ∀ k, k < w.heap.size → base ≤ k → w'.heap[k]? = w.heap[k]?) : StsOwn w' base ps v := by
  refine ⟨⟨h.1.1, ?_⟩, fun p hp => (h.2 p hp).keep (fun b off x hb hx => by rw [World.cell?_of_block (w := w) (hk b (World.block_lt_of_cell? _ _ hx) hb.1)]; exact hx)⟩
  rcases h.1.2 with hn | ⟨g, cap, cur, rfl, hb, hg, r⟩
  · exact .inl hn
  · refine .inr ⟨g, cap, cur, rfl, hb, ?_, r⟩
    rw [hk g (by
      rcases Nat.lt_or_ge g w.heap.size with h' | h'
      · exact h'
      · simp [Array.getElem?_eq_none h'] at hg) hb]
    exact hg
theorem StsOwn.sfr {s : Nat} {w w' : World} {base : Nat} {ps : List StV} {v : Value} (h : StsOwn w base ps v) (hf : SFr s w w') (hs : s < base) : StsOwn w' base ps v := h.keep (fun k h1 h2 => hf.block k h1 (by omega))
theorem ExsOwn.sfr {s : Nat} {w w' : World} {base : Nat} {ps : List (Ex × Value)} {v : Value} (h : ExsOwn w base ps v) (hf : SFr s w w') (hs : s < base) : ExsOwn w' base ps v := h.keep (fun k h1 h2 => hf.block k h1 (by omega))
theorem ExsOwn.below {w w' : World} {base : Nat} {ps : List (Ex × Value)} {v : Value} (h : ExsOwn w base ps v) (hb : Below w.heap.size w w') : ExsOwn w' base ps v := h.keep (fun k h1 h2 => hb.block k h1)
theorem ExsOwn.other {w : World} {base : Nat} {ps : List (Ex × Value)} {v : Value} (h : ExsOwn w base ps v) {k : Nat} (hk : k < base) (i : Nat) (u : Value) : ExsOwn (w.setCell ⟨k, i, none⟩ u) base ps v := h.keep (fun b h1 h2 => Below.heap_setCell _ _ _ _ (by show b ≠ k; omega))
theorem StsOwn.shape {w : World} {base : Nat} {ps : List StV} {v : Value} (h : StsOwn w base ps v) : ∃ a cap, v = .slice a ps.length cap := by
  rcases h.1.2 with ⟨rfl, h0⟩ | ⟨g, cap, cur, rfl, _⟩
  · exact ⟨none, 0, by rw [h0]⟩
  · exact ⟨_, _, rfl⟩
theorem StsOwn.ge {w : World} {base : Nat} {ps : List StV} {v : Value} (h : StsOwn w base ps v) {k : Nat} (hk : v.ownBlock = some k) : base ≤ k ∧ k < w.heap.size := h.1.lt k hk
theorem StsOwn.sts {w : World} {base : Nat} {ps : List StV} {v : Value} (h : StsOwn w base ps v) (hf : Fits ps.length) : StsAt (base ≤ ·) w (ps.map (·.x)) v := by
  have hl : (ps.map (·.x)).length = ps.length := List.length_map _
  rcases h.1.2 with ⟨rfl, h0⟩ | ⟨g, cap, cur, rfl, hb, hg, hc, hm, hs, ht⟩
  · have : ps = [] := List.length_eq_zero_iff.1 h0
    subst this; exact StsAt.zero
  · have cell : ∀ i q p u, ps[i]? = some p → q < 5 → (stCells p.x p.a p.t p.e)[q]? = some u → w.cell? ⟨g, 0 + i * 5 + q, none⟩ = some u := by
      intro i q p u hp hq hu
      have h1 := h.1.cells (g := g) rfl (i * 5 + q) u (by rw [stFlat_at ps i q p hp hq]; exact hu)
      have h2 : (⟨g, 0, none⟩ : Addr).add (i * 5 + q) = ⟨g, 0 + i * 5 + q, none⟩ := by unfold Addr.add; split <;> simp_all <;> omega
      rwa [h2] at h1
    have gp : ∀ i, i < ps.length → ∃ p, ps[i]? = some p ∧ stAt (ps.map (·.x)) i = p.x ∧ p ∈ ps := by
      intro i hi
      refine ⟨ps[i], List.getElem?_eq_getElem hi, ?_, List.getElem_mem hi⟩
      simp [stAt, List.getElem?_eq_getElem hi]
    let z : StV := ⟨St.nil, undef, undef, undef⟩
    have e := StsAt.mk (D := (base ≤ ·)) (w := w) (ps.map (·.x)) (some ⟨g, 0, none⟩) cap g 0 (fun i => (ps.getD i z).a) (fun i => (ps.getD i z).t) (fun i => (ps.getD i z).e) (by rw [hl]; exact hc) (by rw [hl]; exact hf) (.inr ⟨rfl, hb⟩)
    rw [hl] at e
    have sv : ∀ i p, ps[i]? = some p → ps.getD i z = p := fun i p hp => by rw [List.getD_eq_getElem?_getD, hp]; rfl
    refine e (fun i hi => ?_) (fun i hi => ?_) (fun i hi => ?_) (fun i hi => ?_) (fun i hi => ?_) (fun i hi => ?_) (fun i hi => ?_) (fun i hi => ?_)
    all_goals
      obtain ⟨p, hp, hx, hm⟩ := gp i hi
      try rw [hx]
      try rw [sv i p hp]
    · exact cell i 0 p _ hp (by omega) rfl
    · exact cell i 1 p _ hp (by omega) rfl
    · exact cell i 2 p _ hp (by omega) rfl
    · exact cell i 3 p _ hp (by omega) rfl
    · exact cell i 4 p _ hp (by omega) rfl
    · exact (h.2 p hm).1.mono (fun b hb => hb.1)
    · exact (h.2 p hm).2.1.mono (fun b hb => hb.1)
    · exact (h.2 p hm).2.2.mono (fun b hb => hb.1)
/-- A statement behind the others. -/
theorem StsOwn.snoc {w w' : World} {base : Nat} {ps : List StV} {v : Value} (h : StsOwn w base ps v) (p : StV) (hx : StParts (fun b => base ≤ b ∧ v.ownBlock ≠ some b) w p) {g cap : Nat}
    (hown : w'.ownsRow base 49 5 (.slice (some ⟨g, 0, none⟩) (ps.length + 1) cap) (ps.length + 1) (stFlat ps ++ stCells p.x p.a p.t p.e)) (hgrow : w.grownBy w' v.ownBlock) (hg : v.ownBlock = some g ∨ g = w.heap.size) :
    StsOwn w' base (ps ++ [p]) (.slice (some ⟨g, 0, none⟩) (ps.length + 1) cap) := by
  have hl : (ps ++ [p]).length = ps.length + 1 := by simp
  have hfl : stFlat (ps ++ [p]) = stFlat ps ++ stCells p.x p.a p.t p.e := by rw [stFlat_app]; simp [stFlat]
  have keep : ∀ q : StV, StParts (fun b => base ≤ b ∧ v.ownBlock ≠ some b) w q → StParts (fun b => base ≤ b ∧ (Value.slice (some ⟨g, 0, none⟩) (ps.length + 1) cap).ownBlock ≠ some b) w' q := by
    intro q hu
    have h1 : StParts (fun b => (base ≤ b ∧ v.ownBlock ≠ some b) ∧ b < w.heap.size) w q := hu.strong
    have h2 : StParts (fun b => (base ≤ b ∧ v.ownBlock ≠ some b) ∧ b < w.heap.size) w' q := h1.keep (fun b off y hb hy => hgrow.cell hy (fun e => hb.1.2 e.symm))
    refine h2.mono (fun b hb => ⟨hb.1.1, ?_⟩)
    show some g ≠ some b
    intro e
    cases e
    rcases hg with hg | hg
    · exact hb.1.2 hg
    · omega
  refine ⟨by rw [hl, hfl]; exact hown, fun q hq => ?_⟩
  rcases List.mem_append.1 hq with hq | hq
  · exact keep _ (h.2 q hq)
  · rw [List.mem_singleton.1 hq]; exact keep _ hx
theorem st_one (x : St) (a b c : Option Addr) (n m k i j l : Nat) : ∀ u, u ∈ stCells x (.slice a n i) (.slice b m j) (.slice c k l) → u.oneCell' = true := by
  intro u hu
  simp only [stCells, List.mem_cons, List.not_mem_nil, or_false] at hu
  rcases hu with rfl | rfl | rfl | rfl | rfl <;> rfl
/-- What stmts leaves: new statements. -/
def GivesSts (w : World) (s : Nat) (raw : List Int) (x : List St × Nat) (r : Ending) (w' : World) : Prop :=
  ∃ v, r = .returned v ∧ SrcAt w' s raw x.2 ∧ SFr s w w' ∧ StsAt (w.heap.size ≤ ·) w' x.1 v
/-- The contract of stmts at a depth. -/
def StmtsTake (d : Nat) : Prop := ∀ (s : Nat) (raw : List Int) (a : Nat) (sc : Sc) (vv av fv : Value) (w : World), SrcAt w s raw a → ScAt s w sc vv av fv →
  Calls Tryz.prog 37 #[scV sc vv av fv, .pointer (some ⟨s, 0, none⟩), .int .i64 d] w (GivesSts w s raw (gStmts raw d sc a))
theorem ScAt.inLoop {s : Nat} {w : World} {sc : Sc} {vv av fv : Value} (h : ScAt s w sc vv av fv) : ScAt s w sc.inLoop vv av fv := ⟨h.vars, h.arrays, h.funcs, h.v1, h.a1, h.f1, h.p1⟩
/-- What stmts makes, by its rounds. -/
theorem gStmts_top (raw : List Int) (d : Nat) (sc : Sc) : ∃ gs gl, (∀ a, gStmts raw d sc a = gStsN (gSt sc raw gs gl d) (gNext raw a 5).1.toNat (gNext raw a 5).2) ∧ (2 ≤ d → gs = gStmts raw (d - 1) sc ∧ gl = gStmts raw (d - 1) sc.inLoop) := by
  cases d with
  | zero => exact ⟨_, _, fun a => rfl, fun h => by omega⟩
  | succ d => exact ⟨_, _, fun a => rfl, fun _ => ⟨rfl, rfl⟩⟩
theorem gStsN_succ (one : Nat → St × Nat) (c a : Nat) : gStsN one (c + 1) a = ((gStsN one c a).1 ++ [(one (gStsN one c a).2).1], (one (gStsN one c a).2).2) := rfl
/-- A statement's head: in the block X; of its parts. wr: the world in which the round began. -/
def HeadAt (wr : World) (X s : Nat) (raw : List Int) (x : St) (a : Nat) (wx : World) : Prop :=
  ∃ ps va vc xt xe, ps.map (·.1) = x.args ∧ SrcAt wx s raw a ∧ SFr s wr wx ∧ OwnAt wx X [.int .i64 x.kind, .string (strOf x.name), .slice va ps.length vc, xt, xe] 49 ∧
    ExsOwn wx (X + 1) ps (.slice va ps.length vc) ∧ StsAt (fun b => X + 1 ≤ b ∧ (Value.slice va ps.length vc).ownBlock ≠ some b) wx x.thn xt ∧ StsAt (fun b => X + 1 ≤ b ∧ (Value.slice va ps.length vc).ownBlock ≠ some b) wx x.els xe
end Go.Proofs.YtgmaeflfiooigaaGreatDoor

namespace Go.Proofs.YtgmaeflfiooigaaGreatDoor
open Go.RowKit
set_option maxHeartbeats 4000000
set_option maxRecDepth 100000

/-- The statement's cells. -/
abbrev hdCells (k : Int) (nm : Bs) (n : Nat) (va : Option Addr) (vc : Nat) (xt xe : Value) : List Value := [.int .i64 k, .string (strOf nm), .slice va n vc, xt, xe]
/-- Of which blocks its parts are. -/
def Beside (X : Nat) (v : Value) (b : Nat) : Prop := X + 1 ≤ b ∧ v.ownBlock ≠ some b
structure HeadIs (wr : World) (X s : Nat) (raw : List Int) (k : Int) (nm : Bs) (ps : List (Ex × Value)) (va : Option Addr) (vc : Nat) (t e : List St) (xt xe : Value) (a : Nat) (wx : World) : Prop where
  src : SrcAt wx s raw a
  fr : SFr s wr wx
  own : OwnAt wx X (hdCells k nm ps.length va vc xt xe) 49
  exs : ExsOwn wx (X + 1) ps (.slice va ps.length vc)
  thn : StsAt (Beside X (.slice va ps.length vc)) wx t xt
  els : StsAt (Beside X (.slice va ps.length vc)) wx e xe
  ge : wr.heap.size ≤ X
  gt : s < X
theorem HeadIs.lt {wr wx : World} {X s : Nat} {raw : List Int} {k : Int} {nm : Bs} {ps : List (Ex × Value)} {va : Option Addr} {vc : Nat} {t e : List St} {xt xe : Value} {a : Nat} (h : HeadIs wr X s raw k nm ps va vc t e xt xe a wx) : X < wx.heap.size := h.own.lt
theorem HeadIs.new {wr w : World} {s : Nat} {raw : List Int} {a : Nat} (k : Int) (hs : SrcAt w s raw a) (hf : SFr s wr w) : HeadIs wr w.heap.size s raw k [] [] none 0 [] [] (.slice none 0 0) (.slice none 0 0) a (w.alloc (.cells #[.int .i64 k, .string ⟨#[]⟩, .slice none 0 0, .slice none 0 0, .slice none 0 0] 49)) :=
  ⟨hs.alloc _, hf.trans (SFr.alloc _), OwnAt.new _ _ _, ExsOwn.zero _ _, StsAt.zero, StsAt.zero, hf.size, hs.lt⟩
theorem HeadIs.sfr {wr wx w' : World} {X s : Nat} {raw : List Int} {k : Int} {nm : Bs} {ps : List (Ex × Value)} {va : Option Addr} {vc : Nat} {t e : List St} {xt xe : Value} {a a' : Nat} (h : HeadIs wr X s raw k nm ps va vc t e xt xe a wx) (hs : SrcAt w' s raw a') (hf : SFr s wx w') : HeadIs wr X s raw k nm ps va vc t e xt xe a' w' :=
  ⟨hs, h.fr.trans hf, h.own.sfr hf (by have := h.gt; omega), h.exs.sfr hf (by have := h.gt; omega), h.thn.keep (hf.keepsD (fun b hb => by have := hb.1; have := h.gt; omega)), h.els.keep (hf.keepsD (fun b hb => by have := hb.1; have := h.gt; omega)), h.ge, h.gt⟩
theorem HeadIs.below {wr wx w' : World} {X s : Nat} {raw : List Int} {k : Int} {nm : Bs} {ps : List (Ex × Value)} {va : Option Addr} {vc : Nat} {t e : List St} {xt xe : Value} {a : Nat} (h : HeadIs wr X s raw k nm ps va vc t e xt xe a wx) (hb : Below wx.heap.size wx w') : HeadIs wr X s raw k nm ps va vc t e xt xe a w' :=
  h.sfr (h.src.old hb) (SFr.of_below hb)
/-- Another word in its block. -/
theorem HeadIs.kind {wr wx : World} {X s : Nat} {raw : List Int} {k : Int} {nm : Bs} {ps : List (Ex × Value)} {va : Option Addr} {vc : Nat} {t e : List St} {xt xe : Value} {a : Nat} (h : HeadIs wr X s raw k nm ps va vc t e xt xe a wx) (k' : Int) : HeadIs wr X s raw k' nm ps va vc t e xt xe a (wx.setCell ⟨X, 0, none⟩ (.int .i64 k')) :=
  ⟨h.src.other h.gt 0 _, h.fr.setNew h.ge 0 _, h.own.set 0 _, h.exs.other (by omega) 0 _, h.thn.keep (keeps_set _ (fun hb => by have := hb.1; omega) 0 _), h.els.keep (keeps_set _ (fun hb => by have := hb.1; omega) 0 _), h.ge, h.gt⟩
theorem HeadIs.name {wr wx : World} {X s : Nat} {raw : List Int} {k : Int} {nm : Bs} {ps : List (Ex × Value)} {va : Option Addr} {vc : Nat} {t e : List St} {xt xe : Value} {a : Nat} (h : HeadIs wr X s raw k nm ps va vc t e xt xe a wx) (nm' : Bs) : HeadIs wr X s raw k nm' ps va vc t e xt xe a (wx.setCell ⟨X, 1, none⟩ (.string (strOf nm'))) :=
  ⟨h.src.other h.gt 1 _, h.fr.setNew h.ge 1 _, h.own.set 1 _, h.exs.other (by omega) 1 _, h.thn.keep (keeps_set _ (fun hb => by have := hb.1; omega) 1 _), h.els.keep (keeps_set _ (fun hb => by have := hb.1; omega) 1 _), h.ge, h.gt⟩
theorem HeadIs.setThn {wr wx : World} {X s : Nat} {raw : List Int} {k : Int} {nm : Bs} {ps : List (Ex × Value)} {va : Option Addr} {vc : Nat} {t e : List St} {xt xe : Value} {a : Nat} (h : HeadIs wr X s raw k nm ps va vc t e xt xe a wx) (t' : List St) (xt' : Value) (ht : StsAt (Beside X (.slice va ps.length vc)) wx t' xt') : HeadIs wr X s raw k nm ps va vc t' e xt' xe a (wx.setCell ⟨X, 3, none⟩ xt') :=
  ⟨h.src.other h.gt 3 _, h.fr.setNew h.ge 3 _, h.own.set 3 _, h.exs.other (by omega) 3 _, ht.keep (keeps_set _ (fun hb => by have := hb.1; omega) 3 _), h.els.keep (keeps_set _ (fun hb => by have := hb.1; omega) 3 _), h.ge, h.gt⟩
theorem HeadIs.setEls {wr wx : World} {X s : Nat} {raw : List Int} {k : Int} {nm : Bs} {ps : List (Ex × Value)} {va : Option Addr} {vc : Nat} {t e : List St} {xt xe : Value} {a : Nat} (h : HeadIs wr X s raw k nm ps va vc t e xt xe a wx) (e' : List St) (xe' : Value) (he : StsAt (Beside X (.slice va ps.length vc)) wx e' xe') : HeadIs wr X s raw k nm ps va vc t e' xt xe' a (wx.setCell ⟨X, 4, none⟩ xe') :=
  ⟨h.src.other h.gt 4 _, h.fr.setNew h.ge 4 _, h.own.set 4 _, h.exs.other (by omega) 4 _, h.thn.keep (keeps_set _ (fun hb => by have := hb.1; omega) 4 _), he.keep (keeps_set _ (fun hb => by have := hb.1; omega) 4 _), h.ge, h.gt⟩
/-- New memory lies beside it. -/
theorem HeadIs.beside {wr wx : World} {X s : Nat} {raw : List Int} {k : Int} {nm : Bs} {ps : List (Ex × Value)} {va : Option Addr} {vc : Nat} {t e : List St} {xt xe : Value} {a : Nat} (h : HeadIs wr X s raw k nm ps va vc t e xt xe a wx) (b : Nat) (hb : wx.heap.size ≤ b) : Beside X (.slice va ps.length vc) b :=
  ⟨by have := h.lt; omega, fun e => by have := (h.exs.ge e).2; omega⟩
/-- An expression behind its others. -/
theorem HeadIs.more {wr w7 w8 : World} {X s : Nat} {raw : List Int} {k : Int} {nm : Bs} {ps : List (Ex × Value)} {va : Option Addr} {vc : Nat} {t e : List St} {xt xe : Value} {a : Nat} (h : HeadIs wr X s raw k nm ps va vc t e xt xe a w7) (x : Ex) (xv : Value) (hx : ExsAt (Beside X (.slice va ps.length vc)) w7 x.args xv) (hn : I64 x.n) {g cap : Nat}
    (hown : w8.ownsRow (X + 1) 31 5 (.slice (some ⟨g, 0, none⟩) (ps.length + 1) cap) (ps.length + 1) (exFlat ps ++ exCells x xv)) (hgrow : w7.grownBy w8 (Value.slice va ps.length vc).ownBlock) (hg : (Value.slice va ps.length vc).ownBlock = some g ∨ g = w7.heap.size) :
    HeadIs wr X s raw k nm (ps ++ [(x, xv)]) (some ⟨g, 0, none⟩) cap t e xt xe a (w8.setCell ⟨X, 2, none⟩ (.slice (some ⟨g, 0, none⟩) (ps.length + 1) cap)) := by
  have hge8 : ∀ k, (Value.slice va ps.length vc).ownBlock = some k → X + 1 ≤ k := fun k e => (h.exs.ge e).1
  have low : ∀ k, k ≤ X → w8.heap[k]? = w7.heap[k]? := fun k hk => hgrow.block k (Nat.lt_of_le_of_lt hk h.lt) (fun e => by have := hge8 k e.symm; omega)
  have hl : (ps ++ [(x, xv)]).length = ps.length + 1 := by simp
  have S8 : SrcAt w8 s raw a := h.src.low (fun k hk => low k (by have := h.gt; omega))
  have F8 : SFr s wr w8 := h.fr.grow hgrow (fun k e => by have := hge8 k e; have := h.ge; omega)
  have O8 : OwnAt w8 X (hdCells k nm ps.length va vc xt xe) 49 := h.own.low (low X (Nat.le_refl _))
  have E8 : ExsOwn w8 (X + 1) (ps ++ [(x, xv)]) (.slice (some ⟨g, 0, none⟩) (ps.length + 1) cap) := h.exs.snoc x xv hx hn hown hgrow hg
  have keepS : ∀ (l : List St) (u : Value), StsAt (Beside X (.slice va ps.length vc)) w7 l u → StsAt (Beside X (.slice (some ⟨g, 0, none⟩) (ps.length + 1) cap)) w8 l u := by
    intro l u hu
    have h1 := hu.strong
    have h2 : StsAt (fun b => Beside X (.slice va ps.length vc) b ∧ b < w7.heap.size) w8 l u := h1.keep (fun b off y hb hy => hgrow.cell hy (fun e => hb.1.2 e.symm))
    refine h2.mono (fun b hb => ⟨hb.1.1, ?_⟩)
    show some g ≠ some b
    intro e
    cases e
    rcases hg with hg | hg
    · exact hb.1.2 hg
    · omega
  have T8 := keepS t xt h.thn
  have L8 := keepS e xe h.els
  rw [← hl] at T8 L8 E8 ⊢
  refine ⟨S8.other h.gt 2 _, F8.setNew h.ge 2 _, ?_, E8.other (by omega) 2 _, T8.keep (keeps_set _ (fun hb => by have := hb.1; omega) 2 _), L8.keep (keeps_set _ (fun hb => by have := hb.1; omega) 2 _), h.ge, h.gt⟩
  exact O8.set 2 _
/-- What holds behind the switch. -/
def HeadAt' (wr : World) (X s : Nat) (raw : List Int) (x : St × Nat) (wx : World) : Prop := ∃ ps va vc xt xe, ps.map (·.1) = x.1.args ∧ HeadIs wr X s raw x.1.kind x.1.name ps va vc x.1.thn x.1.els xt xe x.2 wx
theorem HeadIs.to {wr wx : World} {X s : Nat} {raw : List Int} {k : Int} {nm : Bs} {ps : List (Ex × Value)} {va : Option Addr} {vc : Nat} {t e : List St} {xt xe : Value} {a : Nat} (h : HeadIs wr X s raw k nm ps va vc t e xt xe a wx) {l : List Ex} (hl : ps.map (·.1) = l) : HeadAt' wr X s raw (.mk k nm l t e, a) wx := ⟨ps, va, vc, xt, xe, hl, h⟩

/-- What the switch makes, kind by kind. -/
theorem head_set {sc : Sc} {raw : List Int} {gs gl : Nat → List St × Nat} {k : Int} {a : Nat} (hk : k < 4) (hv : sc.hasVars = true) : gStHead sc raw gs gl k a = (.mk 1 (gName sc.free sc.vars raw a).1 [] [] [], (gName sc.free sc.vars raw a).2) := by
  unfold gStHead; rw [if_pos ⟨hk, hv⟩]
theorem head_store {sc : Sc} {raw : List Int} {gs gl : Nat → List St × Nat} {a : Nat} (hv : sc.hasArrays = true) : gStHead sc raw gs gl 4 a = (.mk 2 (gArray sc.free sc.arrays raw a).1.name [(gExpr sc raw 3 (gArray sc.free sc.arrays raw a).2).1] [] [], (gExpr sc raw 3 (gArray sc.free sc.arrays raw a).2).2) := by
  unfold gStHead; rw [if_neg (fun h => absurd h.1 (by decide)), if_pos ⟨rfl, hv⟩]
theorem head_call {sc : Sc} {raw : List Int} {gs gl : Nat → List St × Nat} {a : Nat} (hv : sc.hasFuncs = true) : gStHead sc raw gs gl 5 a = (.mk 10 [] [(gCall sc raw (gExpr sc raw 2) a).1] [] [], (gCall sc raw (gExpr sc raw 2) a).2) := by
  unfold gStHead; rw [if_neg (fun h => absurd h.1 (by decide)), if_neg (fun h => absurd h.1 (by decide)), if_pos ⟨rfl, hv⟩]
theorem head_ret {sc : Sc} {raw : List Int} {gs gl : Nat → List St × Nat} {a : Nat} (h : (gNext raw a 3).1 = 2) : gStHead sc raw gs gl 6 a = (.mk (if (gNext raw (gNext raw a 3).2 2).1 = 0 then 7 else 9) [] [] [] [], (gNext raw (gNext raw a 3).2 2).2) := by
  unfold gStHead; rw [if_neg (fun h => absurd h.1 (by decide)), if_neg (fun h => absurd h.1 (by decide)), if_neg (fun h => absurd h.1 (by decide)), if_pos ⟨rfl, h⟩]
theorem head_ret_no {sc : Sc} {raw : List Int} {gs gl : Nat → List St × Nat} {a : Nat} (h : ¬ (gNext raw a 3).1 = 2) : gStHead sc raw gs gl 6 a = (.mk 8 [] [] [] [], (gNext raw a 3).2) := by
  unfold gStHead; rw [if_neg (fun h => absurd h.1 (by decide)), if_neg (fun h => absurd h.1 (by decide)), if_neg (fun h => absurd h.1 (by decide)), if_neg (fun q => h q.2), if_neg (by decide), if_neg (by decide), if_neg (fun h => absurd h.1 (by decide)), if_pos rfl]
theorem head_if {sc : Sc} {raw : List Int} {gs gl : Nat → List St × Nat} {k : Int} {a : Nat} (h : k = 7 ∨ k = 8) : gStHead sc raw gs gl k a = (.mk 3 [] [(gExpr sc raw 3 a).1] (gs (gExpr sc raw 3 a).2).1 (gs (gs (gExpr sc raw 3 a).2).2).1, (gs (gs (gExpr sc raw 3 a).2).2).2) := by
  unfold gStHead; rw [if_neg (fun h => by omega), if_neg (fun h => by omega), if_neg (fun h => by omega), if_neg (fun h => by omega), if_pos h]
theorem head_loop {sc : Sc} {raw : List Int} {gs gl : Nat → List St × Nat} {k : Int} {a : Nat} (h : k = 9 ∨ k = 10) : gStHead sc raw gs gl k a = (.mk 4 [] [(gExpr sc raw 3 a).1] (gl (gExpr sc raw 3 a).2).1 [], (gl (gExpr sc raw 3 a).2).2) := by
  unfold gStHead; rw [if_neg (fun h => by omega), if_neg (fun h => by omega), if_neg (fun h => by omega), if_neg (fun h => by omega), if_neg (by omega), if_pos h]
theorem head_brk {sc : Sc} {raw : List Int} {gs gl : Nat → List St × Nat} {a : Nat} (h1 : (sc.loop || sc.free) = true) (h : (gNext raw a 2).1 = 1) : gStHead sc raw gs gl 11 a = (.mk (if (gNext raw (gNext raw a 2).2 2).1 = 0 then 5 else 6) [] [] [] [], (gNext raw (gNext raw a 2).2 2).2) := by
  unfold gStHead; rw [if_neg (fun h => absurd h.1 (by decide)), if_neg (fun h => absurd h.1 (by decide)), if_neg (fun h => absurd h.1 (by decide)), if_neg (fun h => absurd h.1 (by decide)), if_neg (by decide), if_neg (by decide), if_pos ⟨rfl, h1, h⟩]
theorem head_brk_no {sc : Sc} {raw : List Int} {gs gl : Nat → List St × Nat} {a : Nat} (h1 : (sc.loop || sc.free) = true) (h : ¬ (gNext raw a 2).1 = 1) : gStHead sc raw gs gl 11 a = (.mk 8 [] [] [] [], (gNext raw a 2).2) := by
  unfold gStHead; rw [if_neg (fun h => absurd h.1 (by decide)), if_neg (fun h => absurd h.1 (by decide)), if_neg (fun h => absurd h.1 (by decide)), if_neg (fun h => absurd h.1 (by decide)), if_neg (by decide), if_neg (by decide), if_neg (fun q => h q.2.2), if_neg (by decide), if_pos ⟨rfl, h1⟩]
theorem head_none {sc : Sc} {raw : List Int} {gs gl : Nat → List St × Nat} {k : Int} {a : Nat} (h1 : k < 4 → sc.hasVars = false) (h2 : k = 4 → sc.hasArrays = false) (h3 : k = 5 → sc.hasFuncs = false) (h6 : k ≠ 6) (h7 : k < 7 ∨ 10 < k) (h8 : k = 11 → (sc.loop || sc.free) = false) : gStHead sc raw gs gl k a = (.mk 8 [] [] [] [], a) := by
  unfold gStHead
  rw [if_neg (fun h => by rw [h1 h.1] at h; cases h.2), if_neg (fun h => by rw [h2 h.1] at h; cases h.2), if_neg (fun h => by rw [h3 h.1] at h; cases h.2), if_neg (fun h => h6 h.1), if_neg (by omega), if_neg (by omega), if_neg (fun h => by rw [h8 h.1] at h; cases h.2.1), if_neg h6, if_neg (fun h => by rw [h8 h.1] at h; cases h.2)]
theorem manyOf_le (k : Int) : manyOf k ≤ 2 := by unfold manyOf; split <;> (try split) <;> omega
end Go.Proofs.YtgmaeflfiooigaaGreatDoor

namespace Go.Proofs.YtgmaeflfiooigaaGreatDoor
open Go.RowKit
set_option maxHeartbeats 8000000
set_option maxRecDepth 100000

/-- The first part of a code that is as asked. -/
def partOf (p : Code → Bool) : Code → Option Code
  | .loop c => if p (.loop c) then some (.loop c) else partOf p c
  | .seq a b => match partOf p a with
    | some c => some c
    | none => partOf p b
  | .block k c => if p (.block k c) then some (.block k c) else partOf p c
  | .scope c => partOf p c
  | .cond o a b => match partOf p a with
    | some c => some c
    | none => partOf p b
  | _ => none
def isBlock (n : Nat) : Code → Bool
  | .block k _ => k == n
  | _ => false
def isLoop : Code → Bool
  | .loop _ => true
  | _ => false
noncomputable def swCode : Code := ((Tryz.f37.body.bind (partOf (isBlock 2))).getD .skip)
noncomputable def fillCode : Code := ((Tryz.f37.body.bind (partOf (isBlock 3))).getD .skip)
/-- Behind the switch: the head is made; the slots that the switch writes hold something. -/
def SwR (d s : Nat) (C X : Nat) (K : Int) (HA HV HB : Bool) (wr : World) (raw : List Int) (x : St × Nat) (q0 q4 q5 q6 q7 q8 q9 q16 q17 q18 q19 q20 q21 q22 q23 q24 q25 q26 q27 q28 q29 q30 q31 q32 q33 q34 q35 q36 q37 q38 q39 q40 q41 q42 q43 q44 q45 q46 q47 q48 q49 q50 q51 q52 q53 q54 q55 q56 q57 q58 q59 q60 q197 q198 q199 q200 q201 q202 q203 q204 q205 q206 q207 q208 q209 q210 q211 q212 q213 q214 q215 q216 q217 q218 q219 q220 q221 q222 q223 q224 q225 : Value) (a' : Act) (w' : World) : Prop :=
  ∃ z15 z61 z62 z63 z64 z65 z66 z67 z68 z69 z70 z71 z72 z73 z74 z75 z76 z77 z78 z79 z80 z81 z82 z83 z84 z85 z86 z87 z88 z89 z90 z91 z92 z93 z94 z95 z96 z97 z98 z99 z100 z101 z102 z103 z104 z105 z106 z107 z108 z109 z110 z111 z112 z113 z114 z115 z116 z117 z118 z119 z120 z121 z122 z123 z124 z125 z126 z127 z128 z129 z130 z131 z132 z133 z134 z135 z136 z137 z138 z139 z140 z141 z142 z143 z144 z145 z146 z147 z148 z149 z150 z151 z152 z153 z154 z155 z156 z157 z158 z159 z160 z161 z162 z163 z164 z165 z166 z167 z168 z169 z170 z171 z172 z173 z174 z175 z176 z177 z178 z179 z180 z181 z182 z183 z184 z185 z186 z187 z188 z189 z190 z191 z192 z193 z194 z195 z196 : Value, HeadAt' wr X s raw x w' ∧ a' = ⟨[q0, .pointer (some ⟨s, 0, none⟩), .int .i64 d, .pointer (some ⟨C, 0, none⟩), q4, q5, q6, q7, q8, q9, .int .i64 K, .pointer (some ⟨X, 0, none⟩), .bool HA, .bool HV, .bool HB, z15, q16, q17, q18, q19, q20, q21, q22, q23, q24, q25, q26, q27, q28, q29, q30, q31, q32, q33, q34, q35, q36, q37, q38, q39, q40, q41, q42, q43, q44, q45, q46, q47, q48, q49, q50, q51, q52, q53, q54, q55, q56, q57, q58, q59, q60, z61, z62, z63, z64, z65, z66, z67, z68, z69, z70, z71, z72, z73, z74, z75, z76, z77, z78, z79, z80, z81, z82, z83, z84, z85, z86, z87, z88, z89, z90, z91, z92, z93, z94, z95, z96, z97, z98, z99, z100, z101, z102, z103, z104, z105, z106, z107, z108, z109, z110, z111, z112, z113, z114, z115, z116, z117, z118, z119, z120, z121, z122, z123, z124, z125, z126, z127, z128, z129, z130, z131, z132, z133, z134, z135, z136, z137, z138, z139, z140, z141, z142, z143, z144, z145, z146, z147, z148, z149, z150, z151, z152, z153, z154, z155, z156, z157, z158, z159, z160, z161, z162, z163, z164, z165, z166, z167, z168, z169, z170, z171, z172, z173, z174, z175, z176, z177, z178, z179, z180, z181, z182, z183, z184, z185, z186, z187, z188, z189, z190, z191, z192, z193, z194, z195, z196, q197, q198, q199, q200, q201, q202, q203, q204, q205, q206, q207, q208, q209, q210, q211, q212, q213, q214, q215, q216, q217, q218, q219, q220, q221, q222, q223, q224, q225].toArray, []⟩
/-- A head with arguments alone; the scope's block beside it. -/
def ArgAt (wr : World) (X s : Nat) (raw : List Int) (k : Int) (nm : Bs) (l : List Ex) (a C : Nat) (cs : List Value) (wx : World) : Prop :=
  (∃ ps va vc, ps.map (·.1) = l ∧ HeadIs wr X s raw k nm ps va vc [] [] (.slice none 0 0) (.slice none 0 0) a wx) ∧ OwnAt wx C cs 69
end Go.Proofs.YtgmaeflfiooigaaGreatDoor
