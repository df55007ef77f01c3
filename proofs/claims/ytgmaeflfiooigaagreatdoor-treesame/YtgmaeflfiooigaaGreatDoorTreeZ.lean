/-
  Prog: a round of the loop that makes bodies. Conditions: as what holds says.
  Prog: the loop that makes bodies. Conditions: as what holds says.
  Raw numbers that come in: a slice of ints, opened and shut. No condition.
  Prog: raw programs. Conditions: the raw numbers lie in memory.
-/
import Derived.Test.YtgmaeflfiooigaaGreatDoorTreeY
import Derived.Test.YtgmaeflfiooigaaGreatDoorTreeJ
import Derived.ChangeSlices
import Derived.OpenShut
import Derived.ProofKit
set_option linter.unusedVariables false
set_option linter.unusedSimpArgs false
namespace Go.Proofs.YtgmaeflfiooigaaGreatDoor
open Go.RowKit
set_option maxHeartbeats 8000000
set_option maxRecDepth 100000

theorem BKeeps.then {D : Nat → Prop} {w w1 w2 : World} (h : BKeeps D w w1) (k : ∀ b, D b → b < w.heap.size → w2.heap[b]? = w1.heap[b]?) : BKeeps D w w2 := fun b hb hl => (k b hb hl).trans (h b hb hl)
theorem ArsAt.strong {D : Nat → Prop} {w : World} {l : List Ar} {v : Value} (h : ArsAt D w l v) : ArsAt (fun b => D b ∧ b < w.heap.size) w l v := by
  obtain ⟨a, cap, b, off, hv, h1, h2, h3, h4⟩ := h
  refine ⟨a, cap, b, off, hv, h1, h2, ?_, h4⟩
  rcases h3 with h3 | ⟨ha, hD⟩
  · exact .inl h3
  · rcases Nat.eq_zero_or_pos l.length with hz | hz
    · exact .inl hz
    · exact .inr ⟨ha, hD, World.block_lt_of_cell? _ _ (h4 0 hz).1⟩
theorem FusAt.strong {D : Nat → Prop} {w : World} {l : List Fu} {v : Value} (h : FusAt D w l v) : FusAt (fun b => D b ∧ b < w.heap.size) w l v := by
  obtain ⟨a, cap, b, off, pv, lv, bv, hv, h1, h2, h3, h4⟩ := h
  refine ⟨a, cap, b, off, pv, lv, bv, hv, h1, h2, ?_, fun i hi => ⟨(h4 i hi).1, (h4 i hi).2.1.strong, (h4 i hi).2.2.1.strong, (h4 i hi).2.2.2.strong⟩⟩
  rcases h3 with h3 | ⟨ha, hD⟩
  · exact .inl h3
  · rcases Nat.eq_zero_or_pos l.length with hz | hz
    · exact .inl hz
    · exact .inr ⟨ha, hD, World.block_lt_of_cell? _ _ (h4 0 hz).1.1⟩
/-- The first function's body lies where nothing else does. -/
structure FusSep (w : World) (base : Nat) (ps : List FuV) (v : Value) : Prop where
  rest : ∀ d l, ps = d :: l → ∀ q, q ∈ l → FuParts (fun b => base ≤ b ∧ v.ownBlock ≠ some b ∧ d.b.ownBlock ≠ some b) w q
  fst : ∀ d l, ps = d :: l → StrsAt (fun b => base ≤ b ∧ v.ownBlock ≠ some b ∧ d.b.ownBlock ≠ some b) w d.x.params d.p ∧ StrsAt (fun b => base ≤ b ∧ v.ownBlock ≠ some b ∧ d.b.ownBlock ≠ some b) w d.x.locals d.l
theorem FusSep.zero (w : World) (base : Nat) (v : Value) : FusSep w base [] v := ⟨fun d l h => (by cases h), fun d l h => (by cases h)⟩
theorem FusSep.keep {w w' : World} {base : Nat} {ps : List FuV} {v : Value} (h : FusSep w base ps v) (hk : BKeeps (base ≤ ·) w w') (hz : w.heap.size ≤ w'.heap.size) : FusSep w' base ps v :=
  ⟨fun d l e q hq => (h.rest d l e q hq).keep (hk.mono (fun b hb => hb.1)) hz, fun d l e => ⟨(h.fst d l e).1.keep (hk.mono (fun b hb => hb.1)).keeps, (h.fst d l e).2.keep (hk.mono (fun b hb => hb.1)).keeps⟩⟩
theorem FusSep.base {w : World} {base b' : Nat} {ps : List FuV} {v : Value} (h : FusSep w base ps v) (hb : b' ≤ base) : FusSep w b' ps v :=
  ⟨fun d l e q hq => (h.rest d l e q hq).mono (fun b q _ => ⟨Nat.le_trans hb q.1, q.2⟩), fun d l e => ⟨(h.fst d l e).1.mono (fun b q => ⟨Nat.le_trans hb q.1, q.2⟩), (h.fst d l e).2.mono (fun b q => ⟨Nat.le_trans hb q.1, q.2⟩)⟩⟩
theorem FusSep.snoc {w w' : World} {base : Nat} {ps : List FuV} {v : Value} (h : FusSep w base ps v) (p : FuV) (hx : ∀ d l, ps = d :: l → FuParts (fun b => base ≤ b ∧ v.ownBlock ≠ some b ∧ d.b.ownBlock ≠ some b) w p)
    (h0 : ps = [] → StrsAt (fun b => base ≤ b ∧ v.ownBlock ≠ some b ∧ p.b.ownBlock ≠ some b) w p.x.params p.p ∧ StrsAt (fun b => base ≤ b ∧ v.ownBlock ≠ some b ∧ p.b.ownBlock ≠ some b) w p.x.locals p.l) {g cap n : Nat} (hgrow : w.grownBy w' v.ownBlock) (hg : v.ownBlock = some g ∨ g = w.heap.size) :
    FusSep w' base (ps ++ [p]) (.slice (some ⟨g, 0, none⟩) n cap) := by
  have far : ∀ b, v.ownBlock ≠ some b → b < w.heap.size → (Value.slice (some ⟨g, 0, none⟩) n cap).ownBlock ≠ some b := by
    intro b h1 h2 e
    have e : some g = some b := e
    cases e
    rcases hg with hg | hg
    · exact h1 hg
    · omega
  have keepF : ∀ (X : Value) (q : FuV), FuParts (fun b => base ≤ b ∧ v.ownBlock ≠ some b ∧ X.ownBlock ≠ some b) w q → FuParts (fun b => base ≤ b ∧ (Value.slice (some ⟨g, 0, none⟩) n cap).ownBlock ≠ some b ∧ X.ownBlock ≠ some b) w' q := by
    intro X q hu
    have h1 : FuParts (fun b => (base ≤ b ∧ v.ownBlock ≠ some b ∧ X.ownBlock ≠ some b) ∧ b < w.heap.size) w q := hu.mono (fun b hb hl => ⟨hb, hl⟩)
    have h2 := h1.keep (w' := w') (fun k hk hl => hgrow.block k hl (fun e => hk.1.2.1 e.symm)) hgrow.size
    exact h2.mono (fun b hb _ => ⟨hb.1.1, far b hb.1.2.1 hb.2, hb.1.2.2⟩)
  have keepS : ∀ (X : Value) (l : List Bs) (u : Value), StrsAt (fun b => base ≤ b ∧ v.ownBlock ≠ some b ∧ X.ownBlock ≠ some b) w l u → StrsAt (fun b => base ≤ b ∧ (Value.slice (some ⟨g, 0, none⟩) n cap).ownBlock ≠ some b ∧ X.ownBlock ≠ some b) w' l u := by
    intro X l u hu
    have h2 := hu.strong.keep (w' := w') (fun b off y hb hy => hgrow.cell hy (fun e => hb.1.2.1 e.symm))
    exact h2.mono (fun b hb => ⟨hb.1.1, far b hb.1.2.1 hb.2, hb.1.2.2⟩)
  constructor
  · intro d l e q hq
    cases ps with
    | nil => cases e; cases hq
    | cons d0 l0 =>
      cases e
      rcases List.mem_append.1 hq with hq | hq
      · exact keepF _ _ (h.rest d l0 rfl q hq)
      · rw [List.mem_singleton.1 hq]; exact keepF _ _ (hx d l0 rfl)
  · intro d l e
    cases ps with
    | nil => cases e; exact ⟨keepS _ _ _ (h0 rfl).1, keepS _ _ _ (h0 rfl).2⟩
    | cons d0 l0 => cases e; exact ⟨keepS _ _ _ (h.fst d l0 rfl).1, keepS _ _ _ (h.fst d l0 rfl).2⟩
/-- What holds at the head of the third loop. -/
structure BInv (w : World) (raw : List Int) (a : Nat) (free : Bool) (heads : List Fu) (la : List Ar) (M : Nat) (ca cf pa pf : Value) (ds : List FuV) (wr : World) : Prop where
  inv : PInv w raw a free ca cf pa pf wr
  ars : ArsAt (fun b => w.heap.size + 4 ≤ b ∧ b < M) wr la ca
  hds : FusAt (fun b => w.heap.size + 4 ≤ b ∧ b < M) wr heads cf
  fus : FusOwn wr (w.heap.size + 4) ds pf
  own : ∀ k, pf.ownBlock = some k → M ≤ k
  siz : M ≤ wr.heap.size
  sep : FusSep wr (w.heap.size + 4) ds pf
  lo : ∀ d l, ds = d :: l → ∀ k, d.b.ownBlock = some k → M ≤ k ∧ k < wr.heap.size
theorem pg_round4 (w wr : World) (rv : Value) (free : Bool) (raw : List Int) (a i M : Nat) (heads : List Fu) (la : List Ar) (ca cf pa pf : Value) (ds : List FuV) (hi : i < heads.length) (hh : heads.length ≤ 3) (hla : la.length ≤ 2) (hps : ∀ f, f ∈ heads → f.params.length ≤ 6) (hB : BInv w raw a free heads la M ca cf pa pf ds wr) (hl : ds.length ≤ 3)
    (q2 q3 q8 q9 q10 q11 q13 q14 q15 q16 q17 q18 q19 q20 q21 q22 q23 q24 q25 q26 q27 q28 q29 q30 q31 q32 q33 q34 q35 q36 q37 q38 q39 q40 q41 q42 q43 q44 q45 q46 q47 q48 q49 q50 q51 q52 q53 q54 q55 q56 q57 q58 q59 q60 q61 q62 q63 q64 q65 q66 q67 q68 q69 q70 q71 q72 q73 q74 q75 q76 q77 q78 q79 q80 q81 q82 q83 q84 q85 q86 q87 q88 q89 q90 q91 q92 q93 q94 q95 q96 q97 q98 q99 q100 q101 q102 q103 q104 q105 q106 q107 q108 q109 q110 q111 q112 q113 q114 q115 q116 q117 q118 q119 : Value) (J K' : Act → World → Prop)
    (hJ : ∀ a' w', PG12 w rv free (.int .i64 ((i : Int) + 1)) (fun w' => ∃ pf' p, p.x = (gBody raw ⟨[], la, heads, free, false⟩ (fuAt heads i) a).1 ∧ BInv w raw (gBody raw ⟨[], la, heads, free, false⟩ (fuAt heads i) a).2 free heads la M ca cf pa pf' (ds ++ [p]) w') a' w' → J a' w') (hM : ∀ a' w', Met J a' w' → K' a' w') :
    Code.wp Tryz.prog (pgBody 4) (Exit.then K' (fun _ _ _ => False)) ⟨[rv, .bool free, q2, q3, .pointer (some ⟨w.heap.size, 0, none⟩), .pointer (some ⟨w.heap.size + 1, 0, none⟩), .pointer (some ⟨w.heap.size + 2, 0, none⟩), .pointer (some ⟨w.heap.size + 3, 0, none⟩), q8, q9, q10, q11, .int .i64 (i : Int), q13, q14, q15, q16, q17, q18, q19, q20, q21, q22, q23, q24, q25, q26, q27, q28, q29, q30, q31, q32, q33, q34, q35, q36, q37, q38, q39, q40, q41, q42, q43, q44, q45, q46, q47, q48, q49, q50, q51, q52, q53, q54, q55, q56, q57, q58, q59, q60, q61, q62, q63, q64, q65, q66, q67, q68, q69, q70, q71, q72, q73, q74, q75, q76, q77, q78, q79, q80, q81, q82, q83, q84, q85, q86, q87, q88, q89, q90, q91, q92, q93, q94, q95, q96, q97, q98, q99, q100, q101, q102, q103, q104, q105, q106, q107, q108, q109, q110, q111, q112, q113, q114, q115, q116, q117, q118, q119].toArray, []⟩ wr := by
  obtain ⟨hP, hA, hH, hF, hpf, hM0, hsp0, hlo0⟩ := hB
  have HSP := Lib.hid hsp0; have HLO := Lib.hid hlo0
  clear hsp0 hlo0
  obtain ⟨oa, oc, rfl⟩ := hF.shape
  obtain ⟨aa, ac, rfl⟩ := hA.shape
  obtain ⟨c1, c2, rfl⟩ := hH.shape
  have hH0 := hH
  obtain ⟨eb, off, xp, xl, xb, rfl, hD, hbl, z0, z1, z2, z3, hxp, hxl, hxb⟩ := FusAt.cellAt hH i hi
  obtain ⟨p1, p2, rfl⟩ := hxp.shape
  obtain ⟨l1, l2, rfl⟩ := hxl.shape
  obtain ⟨y1, y2, rfl⟩ := hxb.shape
  have hx6 : (fuAt heads i).params.length ≤ 6 := hps _ (fuAt_mem hi)
  have E : gBody raw ⟨[], la, heads, free, false⟩ (fuAt heads i) a = (⟨(fuAt heads i).name, (fuAt heads i).params, lNames.take (gNext raw a 6).1.toNat, (gStmts raw 4 ⟨(fuAt heads i).params ++ lNames.take (gNext raw a 6).1.toNat, la, heads, free, false⟩ (gNext raw a 6).2).1⟩, (gStmts raw 4 ⟨(fuAt heads i).params ++ lNames.take (gNext raw a 6).1.toNat, la, heads, free, false⟩ (gNext raw a 6).2).2) := rfl
  rw [E] at hJ
  clear E
  generalize fuAt heads i = x at *
  have hNX : Hid (∀ w1, SrcAt w1 (w.heap.size + 1) raw a → Calls Tryz.prog 32 #[.pointer (some ⟨w.heap.size + 1, 0, none⟩), .int .i64 6] w1 (Takes w1 (w.heap.size + 1) raw (.int .i64 (gNext raw a 6).1) (gNext raw a 6).2)) := fun w1 h1 => next_any _ raw a 6 w1 h1 (by decide) (by decide)
  have hr := gNext_range raw a 6 (by decide)
  generalize gNext raw a 6 = g at *
  obtain ⟨g, a2⟩ := g
  obtain ⟨g0, g1⟩ := hr
  dsimp only at hNX hJ g0 g1
  obtain ⟨g, rfl⟩ := Int.eq_ofNat_of_zero_le g0
  rw [Int.toNat_natCast] at hJ
  have hg5 : g ≤ 5 := by omega
  have hST : Hid (∀ v w1, SrcAt w1 (w.heap.size + 1) raw a2 → ScAt (w.heap.size + 1) w1 ⟨x.params ++ lNames.take g, la, heads, free, false⟩ v (.slice aa la.length ac) (.slice (some ⟨eb, off, none⟩) heads.length c2) → Calls Tryz.prog 37 #[.agg #[v, .slice aa la.length ac, .slice (some ⟨eb, off, none⟩) heads.length c2, .bool free, .bool false], .pointer (some ⟨w.heap.size + 1, 0, none⟩), .int .i64 4] w1 (GivesOwn w1 (w.heap.size + 1) raw (gStmts raw 4 ⟨x.params ++ lNames.take g, la, heads, free, false⟩ a2))) := fun v w1 h1 h2 => stmts_own 4 (by decide) _ raw a2 _ _ _ _ w1 h1 h2
  generalize gStmts raw 4 ⟨x.params ++ lNames.take g, la, heads, free, false⟩ a2 = q at *
  obtain ⟨bs, a3⟩ := q
  dsimp only at hST hJ
  have hltI : (i : Int) < (heads.length : Int) := by omega
  have hi0 : (0 : Int) ≤ (i : Int) := by omega
  have hi9 : (i : Int) ≤ 10 := by omega
  have hPl := hP.lt
  have HPS := Lib.hid hps; have HA := Lib.hid hA; have HH := Lib.hid hH0; have HF := Lib.hid hF; have HPF := Lib.hid hpf; have HXP := Lib.hid hxp
  have HI := Lib.hid hi; have HLA := Lib.hid hla; have HHH := Lib.hid hh
  have hbA : Below wr.heap.size wr ((wr.alloc (.cells #[.string (strOf x.name), .slice p1 x.params.length p2, .slice l1 x.locals.length l2, .slice y1 x.body.length y2] 52)).alloc (.cells (strsOf lNames).toArray 9)) := ((Below.refl _ _).alloc (Nat.le_refl _) _).alloc (by simp) _
  have HP2 := Lib.hid (hP.old hbA)
  have HO2 := Lib.hid ((OwnAt.new wr [.string (strOf x.name), .slice p1 x.params.length p2, .slice l1 x.locals.length l2, .slice y1 x.body.length y2] 52).alloc (.cells (strsOf lNames).toArray 9))
  have hl2 := OwnAt.new (wr.alloc (.cells #[.string (strOf x.name), .slice p1 x.params.length p2, .slice l1 x.locals.length l2, .slice y1 x.body.length y2] 52)) (strsOf lNames) 9
  rw [show (wr.alloc (.cells #[.string (strOf x.name), .slice p1 x.params.length p2, .slice l1 x.locals.length l2, .slice y1 x.body.length y2] 52)).heap.size = wr.heap.size + 1 by simp] at hl2
  have HL2 := Lib.hid hl2
  have HK2 : Hid (BKeeps (w.heap.size + 4 ≤ ·) wr ((wr.alloc (.cells #[.string (strOf x.name), .slice p1 x.params.length p2, .slice l1 x.locals.length l2, .slice y1 x.body.length y2] 52)).alloc (.cells (strsOf lNames).toArray 9))) := BKeeps.below hbA
  have hsz2 := hbA.size
  have s0 := hP.scp.at 0 _ rfl
  have s1 := hP.scp.at 1 _ rfl
  have s2 := hP.scp.at 2 _ rfl
  have s3 := hP.scp.at 3 _ rfl
  have s4 := hP.scp.at 4 _ rfl
  clear hP hA hH hH0 hF hpf hxp hxl hxb hps hbA hl2 hla hh hi g0 g1 hD
  conv => arg 2; whnf
  go_wp2_with fail
  refine (hNX.out _ HP2.out.src).mono ?_
  rintro r w3 ⟨rfl, hs3, hf3⟩
  have hsz3 : wr.heap.size + 2 ≤ w3.heap.size := by have := hf3.size; simp at this; omega
  have HP3 := Lib.hid (HP2.out.sfr hs3 hf3); have ho3 := HO2.out.sfr hf3 (by omega); have hl3 := HL2.out.sfr hf3 (by omega)
  have hk3 : BKeeps (w.heap.size + 4 ≤ ·) wr w3 := HK2.out.then (fun b hb hl => hf3.block b (by simp; omega) (by have : w.heap.size + 4 ≤ b := hb; omega))
  have x2 := ho3.at 2 _ rfl
  have fx2 := ho3.fz 2
  have hfl := ho3.lt
  have hfs : ∀ (k : Nat) (i : Nat) (v : Value), k < wr.heap.size → (w3.setCell ⟨wr.heap.size, i, none⟩ v).heap[k]? = w3.heap[k]? := fun k i v hk => Below.heap_setCell _ _ _ _ (by show k ≠ wr.heap.size; omega)
  have HP4 := Lib.hid (HP3.out.other (show w.heap.size + 4 ≤ wr.heap.size by omega) 2 (.slice (some ⟨wr.heap.size + 1, 0, none⟩) g 5))
  have HO4 := Lib.hid (ho3.set 2 (.slice (some ⟨wr.heap.size + 1, 0, none⟩) g 5))
  have HL4 := Lib.hid (hl3.other (show wr.heap.size + 1 ≠ wr.heap.size by omega) 2 (.slice (some ⟨wr.heap.size + 1, 0, none⟩) g 5))
  have HK4 := Lib.hid (hk3.then (fun b hb hl => hfs b 2 (.slice (some ⟨wr.heap.size + 1, 0, none⟩) g 5) hl))
  clear s0 s1 s2 s3 s4 hs3 hf3 ho3 hl3 hk3 hfs HP2 HO2 HL2 HK2 HP3 hsz2
  have hn4 := OwnAt.new (w3.setCell ⟨wr.heap.size, 2, none⟩ (.slice (some ⟨wr.heap.size + 1, 0, none⟩) g 5)) [.slice none 0 0, .slice aa la.length ac, .slice (some ⟨eb, off, none⟩) heads.length c2, .bool free, .bool false] 69
  rw [show (w3.setCell ⟨wr.heap.size, 2, none⟩ (.slice (some ⟨wr.heap.size + 1, 0, none⟩) g 5)).heap.size = w3.heap.size by simp [World.setCell]] at hn4
  have hb5 : Below (w3.setCell ⟨wr.heap.size, 2, none⟩ (.slice (some ⟨wr.heap.size + 1, 0, none⟩) g 5)).heap.size (w3.setCell ⟨wr.heap.size, 2, none⟩ (.slice (some ⟨wr.heap.size + 1, 0, none⟩) g 5)) ((w3.setCell ⟨wr.heap.size, 2, none⟩ (.slice (some ⟨wr.heap.size + 1, 0, none⟩) g 5)).alloc (.cells #[.slice none 0 0, .slice aa la.length ac, .slice (some ⟨eb, off, none⟩) heads.length c2, .bool free, .bool false] 69)) := (Below.refl _ _).alloc (Nat.le_refl _) _
  have HP5 := Lib.hid (HP4.out.old hb5); have HO5 := Lib.hid (HO4.out.old hb5); have HL5 := Lib.hid (HL4.out.old hb5); have HN5 := Lib.hid hn4
  have HK5 := Lib.hid (HK4.out.then (fun b hb hl => hb5.block b (by simp [World.setCell]; omega)))
  have s0 := HP4.out.scp.at 0 _ rfl
  have s1 := HP4.out.scp.at 1 _ rfl
  have s2 := HP4.out.scp.at 2 _ rfl
  have s3 := HP4.out.scp.at 3 _ rfl
  have s4 := HP4.out.scp.at 4 _ rfl
  clear hb5 hn4
  go_upto_region 26 with (fail)
  generalize hW5 : (w3.setCell ⟨wr.heap.size, 2, none⟩ (.slice (some ⟨wr.heap.size + 1, 0, none⟩) g 5)).alloc (.cells #[.slice none 0 0, .slice aa la.length ac, .slice (some ⟨eb, off, none⟩) heads.length c2, .bool free, .bool false] 69) = W5 at *
  clear hW5 s0 s1 s2 s3 s4 x2 fx2 HP4 HO4 HL4 HK4
  have hn5l := HN5.out.lt
  refine wp_cut (fun a' w' => R26 wr.heap.size w3.heap.size x.name x.params (lNames.take g) (.slice p1 x.params.length p2) (.slice (some ⟨wr.heap.size + 1, 0, none⟩) g 5) (.slice y1 x.body.length y2) (.slice aa la.length ac) (.slice (some ⟨eb, off, none⟩) heads.length c2) (.bool free) (.bool false) W5 _ _ _ _ _ _ _ _ _ _ _ _ _ _ _ _ _ _ _ _ _ _ _ _ _ _ _ _ _ _ _ _ _ _ _ _ _ _ _ _ _ _ _ _ _ _ _ _ _ _ _ _ _ _ _ _ _ _ _ _ _ _ _ _ _ _ _ _ _ _ _ _ _ _ _ _ _ _ _ _ _ _ _ _ _ _ _ _ _ _ _ _ _ _ _ _ _ _ _ _ _ _ _ _ _ _ _ _ _ _ _ a' w') ?rest (fun J K' hJ hM => then_any (pg_reg26 wr.heap.size w3.heap.size x.name x.params (lNames.take g) (.slice p1 x.params.length p2) (.slice (some ⟨wr.heap.size + 1, 0, none⟩) g 5) (.slice y1 x.body.length y2) (.slice aa la.length ac) (.slice (some ⟨eb, off, none⟩) heads.length c2) (.bool free) (.bool false) W5 HO5.out HN5.out (by omega) ((HXP.out.keep (HK5.out.mono (fun b hb => hb.1)).keeps).mono (fun b hb => by show b ≠ w3.heap.size; have := hb.2; omega)) (take_strs lNames HL5.out (by show wr.heap.size + 1 ≠ w3.heap.size; omega) g (by show g ≤ 5; exact hg5) (by decide)) (by rw [List.length_take]; have : Min.min g lNames.length ≤ 5 := Nat.le_trans (Nat.min_le_left _ _) hg5; omega) _ _ _ _ _ _ _ _ _ _ _ _ _ _ _ _ _ _ _ _ _ _ _ _ _ _ _ _ _ _ _ _ _ _ _ _ _ _ _ _ _ _ _ _ _ _ _ _ _ _ _ _ _ _ _ _ _ _ _ _ _ _ _ _ _ _ _ _ _ _ _ _ _ _ _ _ _ _ _ _ _ _ _ _ _ _ _ _ _ _ _ _ _ _ _ _ _ _ _ _ _ _ _ _ _ _ _ _ _ _ _ _ _ _ _ _ _ _ J K' hJ hM))
  case rest =>
  intro a' w6 hT
  obtain ⟨z102, hT⟩ := hT
  obtain ⟨z103, hT⟩ := hT
  obtain ⟨z104, hT⟩ := hT
  obtain ⟨z105, hT⟩ := hT
  obtain ⟨z106, hT⟩ := hT
  obtain ⟨z107, hT⟩ := hT
  obtain ⟨z108, hT⟩ := hT
  obtain ⟨⟨v, hn6, hv6, hf6⟩, ha'⟩ := hT
  subst ha'
  have hz6 := hf6.size
  have HP6 := Lib.hid (HP5.out.sfrN hf6 (show w.heap.size + 4 ≤ w3.heap.size by omega)); have HO6 := Lib.hid (HO5.out.sfr hf6 (by omega)); have HL6 := Lib.hid (HL5.out.sfr hf6 (by omega))
  have HK6 := Lib.hid (HK5.out.then (fun b hb hl => hf6.block b (by omega) (by omega)))
  have hsc : ScAt (w.heap.size + 1) w6 ⟨x.params ++ lNames.take g, la, heads, free, false⟩ v (.slice aa la.length ac) (.slice (some ⟨eb, off, none⟩) heads.length c2) :=
    ⟨hv6.mono (fun b hb => by show b ≠ w.heap.size + 1; have : W5.heap.size ≤ b := hb; omega), (HA.out.keep (HK6.out.mono (fun b hb => hb.1)).keeps).mono (fun b hb => by show b ≠ w.heap.size + 1; have := hb.1; omega), (FusAt.keep (HK6.out.mono (fun b hb => hb.1)).keeps HH.out).mono (fun b hb => by show b ≠ w.heap.size + 1; have := hb.1; omega), by rw [List.length_append, List.length_take]; have : Min.min g lNames.length ≤ 5 := Nat.le_trans (Nat.min_le_left _ _) hg5; omega, by have := HLA.out; show la.length ≤ 1000000; omega, by have := HHH.out; show heads.length ≤ 1000000; omega, fun f hf => by have := HPS.out f hf; omega⟩
  have HSC := Lib.hid hsc
  have n0 := hn6.at 0 _ rfl
  have n1 := hn6.at 1 _ rfl
  have n2 := hn6.at 2 _ rfl
  have n3 := hn6.at 3 _ rfl
  have n4 := hn6.at 4 _ rfl
  clear hsc hn6 hv6 hf6 HP5 HO5 HL5 HK5 HN5
  go_wp2_with fail
  refine (hST.out v _ HP6.out.src HSC.out).mono ?_
  rintro r w7 ⟨bv, bls, rfl, hs7, hf7, hbls, hb4, hown7⟩
  obtain ⟨ba, bc, rfl⟩ := hown7.shape
  have hz7 := hf7.size
  have hp7 := HP6.out.sfr hs7 hf7; have ho7 := HO6.out.sfr hf7 (by omega); have hl7 := HL6.out.sfr hf7 (by omega)
  have hk7 : BKeeps (w.heap.size + 4 ≤ ·) wr w7 := HK6.out.then (fun b hb hl => hf7.block b (by omega) (by have : w.heap.size + 4 ≤ b := hb; omega))
  have x3 := ho7.at 3 _ rfl
  have fx3 := ho7.fz 3
  have hfl7 := ho7.lt
  have hfs : ∀ (k : Nat) (i : Nat) (v : Value), k < wr.heap.size → (w7.setCell ⟨wr.heap.size, i, none⟩ v).heap[k]? = w7.heap[k]? := fun k i v hk => Below.heap_setCell _ _ _ _ (by show k ≠ wr.heap.size; omega)
  have HP8 := Lib.hid (hp7.other (show w.heap.size + 4 ≤ wr.heap.size by omega) 3 (.slice ba bls.length bc))
  have HO8 := Lib.hid (ho7.set 3 (.slice ba bls.length bc))
  have HL8 := Lib.hid (hl7.other (show wr.heap.size + 1 ≠ wr.heap.size by omega) 3 (.slice ba bls.length bc))
  have HK8 := Lib.hid (hk7.then (fun b hb hl => hfs b 3 (.slice ba bls.length bc) hl))
  have HB8 := Lib.hid (hown7.toD.keep (BKeeps.set w7 (show ¬ (w6.heap.size + 1 ≤ wr.heap.size) by omega) 3 (.slice ba bls.length bc)) (by simp [World.setCell]))
  have HBL := Lib.hid hbls
  have hz8 : w7.heap.size ≤ (w7.setCell ⟨wr.heap.size, 3, none⟩ (.slice ba bls.length bc)).heap.size := by simp [World.setCell]
  have HZ8 := Lib.hid hz8
  clear n0 n1 n2 n3 n4 hs7 hf7 hown7 hp7 ho7 hl7 hk7 hfs HP6 HO6 HL6 HK6 HSC hbls hz8
  go_upto_region 28 with (fail)
  generalize hW8 : w7.setCell ⟨wr.heap.size, 3, none⟩ (.slice ba bls.length bc) = W8 at *
  clear hW8 x3 fx3
  have hz8 := HZ8.out
  have hob : ∀ k, (Value.slice oa ds.length oc).ownBlock = some k → k < wr.heap.size := fun k e => (HF.out.ge e).2
  have hpar : FuParts (fun k => w.heap.size + 4 ≤ k ∧ (Value.slice oa ds.length oc).ownBlock ≠ some k) W8 ⟨⟨x.name, x.params, lNames.take g, bs⟩, .slice p1 x.params.length p2, .slice (some ⟨wr.heap.size + 1, 0, none⟩) g 5, .slice ba bls.length bc⟩ :=
    ⟨(HXP.out.keep (HK8.out.mono (fun b hb => hb.1)).keeps).mono (fun b hb => ⟨hb.1, fun e => by have := HPF.out b e; have := hb.2; omega⟩), take_strs lNames HL8.out ⟨by omega, fun e => by have := hob _ e; omega⟩ g hg5 (by decide), bls, HBL.out, hb4, HB8.out.mono (fun b hb _ => ⟨by have : w6.heap.size + 1 ≤ b := hb; omega, fun e => by have := hob b e; have : w6.heap.size + 1 ≤ b := hb; omega⟩)⟩
  have hbo : ∀ k, (Value.slice ba bls.length bc).ownBlock = some k → w6.heap.size + 1 ≤ k ∧ k < W8.heap.size := fun k e => HB8.out.2.1 k e
  have hpar2 : ∀ d l, ds = d :: l → FuParts (fun k => w.heap.size + 4 ≤ k ∧ (Value.slice oa ds.length oc).ownBlock ≠ some k ∧ d.b.ownBlock ≠ some k) W8 ⟨⟨x.name, x.params, lNames.take g, bs⟩, .slice p1 x.params.length p2, .slice (some ⟨wr.heap.size + 1, 0, none⟩) g 5, .slice ba bls.length bc⟩ := fun d l e =>
    have lo := HLO.out d l e
    ⟨(HXP.out.keep (HK8.out.mono (fun b hb => hb.1)).keeps).mono (fun b hb => ⟨hb.1, fun e => by have := HPF.out b e; have := hb.2; omega, fun e => by have := (lo b e).1; have := hb.2; omega⟩), take_strs lNames HL8.out ⟨by omega, fun e => by have := hob _ e; omega, fun e => by have := (lo _ e).2; omega⟩ g hg5 (by decide), bls, HBL.out, hb4, HB8.out.mono (fun b hb _ => ⟨by have : w6.heap.size + 1 ≤ b := hb; omega, fun e => by have := hob b e; have : w6.heap.size + 1 ≤ b := hb; omega, fun e => by have := (lo b e).2; have : w6.heap.size + 1 ≤ b := hb; omega⟩)⟩
  have hfst1 : StrsAt (fun k => w.heap.size + 4 ≤ k ∧ (Value.slice oa ds.length oc).ownBlock ≠ some k ∧ (Value.slice ba bls.length bc).ownBlock ≠ some k) W8 x.params (.slice p1 x.params.length p2) :=
    (HXP.out.keep (HK8.out.mono (fun b hb => hb.1)).keeps).mono (fun b hb => ⟨hb.1, fun e => by have := HPF.out b e; have := hb.2; omega, fun e => by have := (hbo b e).1; have := hb.2; omega⟩)
  have hfst2 : StrsAt (fun k => w.heap.size + 4 ≤ k ∧ (Value.slice oa ds.length oc).ownBlock ≠ some k ∧ (Value.slice ba bls.length bc).ownBlock ≠ some k) W8 (lNames.take g) (.slice (some ⟨wr.heap.size + 1, 0, none⟩) g 5) :=
    take_strs lNames HL8.out ⟨by omega, fun e => by have := hob _ e; omega, fun e => by have := (hbo _ e).1; omega⟩ g hg5 (by decide)
  have hS8 := HSP.out.keep HK8.out (by omega)
  have hF8 := HF.out.keep HK8.out (by omega)
  have hb9 : Below W8.heap.size W8 (W8.alloc (.cells #[.string (strOf x.name), .slice p1 x.params.length p2, .slice (some ⟨wr.heap.size + 1, 0, none⟩) g 5, .slice ba bls.length bc] 52)) := (Below.refl _ _).alloc (Nat.le_refl _) _
  have HP9 := Lib.hid (HP8.out.old hb9); have HF9 := Lib.hid (hF8.keep (BKeeps.below hb9) hb9.size); have HX9 := Lib.hid (hpar.keep (BKeeps.below hb9) hb9.size)
  have HS9 := Lib.hid (hS8.keep (BKeeps.below hb9) hb9.size); have HX92 := Lib.hid (fun d l e => (hpar2 d l e).keep (BKeeps.below hb9) hb9.size); have HXF := Lib.hid (fun (_ : ds = []) => And.intro (hfst1.keep (keeps_below hb9)) (hfst2.keep (keeps_below hb9))); have HBO := Lib.hid hbo; have HZW : Hid (wr.heap.size ≤ W8.heap.size) := (by show _ ≤ _; omega)
  have HN9 := Lib.hid (RowAt.new W8 (fvCells ⟨⟨x.name, x.params, lNames.take g, bs⟩, .slice p1 x.params.length p2, .slice (some ⟨wr.heap.size + 1, 0, none⟩) g 5, .slice ba bls.length bc⟩) 52)
  have HK9 := Lib.hid (HK8.out.then (fun b hb hl => hb9.block b (by omega)))
  obtain ⟨i0, hi1, hz0, hz1, hz2⟩ := info_parts infoFu
  have HI0 := Lib.hid hi1; have HZ0 := Lib.hid hz0; have HZ1 := Lib.hid hz1; have HZ2 := Lib.hid hz2; have HL := Lib.hid hl
  have pr0 := HP8.out.prg.at 0 _ rfl
  have pr1 := HP8.out.prg.at 1 _ rfl
  have o0 := HO8.out.at 0 _ rfl
  have o1 := HO8.out.at 1 _ rfl
  have o2 := HO8.out.at 2 _ rfl
  have o3 := HO8.out.at 3 _ rfl
  have hPl8 := HP8.out.lt
  have hOl8 := HO8.out.lt
  clear hb9 hpar hpar2 hfst1 hfst2 hS8 hbo hF8 hob hi1 hz0 hz1 hz2 hl HP8 HO8 HL8 HK8 HB8 HBL
  go_wp2_with (at_builtin; (refine wpList_append_lies (P := Tryz.prog) _ rfl _ _ 25 rfl (w.heap.size + 4) 52 i0 _ 4 88 Tryz.underlying25 HI0.out HZ0.out HZ1.out HZ2.out rfl (by decide) (.slice oa ds.length oc) ds.length (ds.flatMap fvCells) rfl HF9.out.1 ⟨W8.heap.size, 0, none⟩ 1 1 (fvCells ⟨⟨x.name, x.params, lNames.take g, bs⟩, .slice p1 x.params.length p2, .slice (some ⟨wr.heap.size + 1, 0, none⟩) g 5, .slice ba bls.length bc⟩) rfl rfl (news_at HN9.out) (fu_one' [] _ _ _ _ _ _ _ _ _ _) (by decide) (by have := HL.out; unfold maxLen; omega) (by have := HL.out; omega) (by have := HP9.out.lt; omega) _ rfl ?_; intro g' cap w11 hown hgrow hat hlt11; have hp11 := HP9.out.grow hgrow (fun k e => (HF9.out.ge e).1); have HP11 := Lib.hid hp11; have y1 := hp11.prg.at 1 _ rfl; have fy1 := hp11.prg.fz 1; have hPl11 := hp11.lt; have HF11 := Lib.hid (HF9.out.snoc _ HX9.out hown hgrow hat); have HS11 := Lib.hid (HS9.out.snoc (n := ds.length + 1) (g := g') (cap := cap) _ HX92.out HXF.out hgrow hat); have HK11 : Hid (BKeeps (fun b => w.heap.size + 4 ≤ b ∧ b < M) wr w11) := ((HK9.out.mono (fun b (hb : w.heap.size + 4 ≤ b ∧ b < M) => hb.1)).then (fun b hb hl => hgrow.block b (by simp; omega) (fun e => by have := HPF.out b e.symm; have := hb.2; omega))); have HQ11 : Hid (M ≤ g') := (by show M ≤ g'; rcases hat with hat | hat; exact HPF.out g' hat; have h4 : W8.heap.size ≤ g' := (by rw [hat]; first | (simp; done) | omega); omega); have hz11 := hgrow.size; have HZ11 : Hid (M ≤ w11.heap.size) := (by show M ≤ w11.heap.size; simp at hz11; omega); have HZ12 : Hid (W8.heap.size ≤ w11.heap.size) := (by show _ ≤ _; simp at hz11; omega); clear hown hgrow hat hp11 hz11))
  have HF12 := Lib.hid (HF11.out.keep (BKeeps.set w11 (show ¬ (w.heap.size + 4 ≤ w.heap.size + 3) by omega) 1 (.slice (some ⟨g', 0, none⟩) (ds.length + 1) cap)) (by simp [World.setCell]))
  have HK12 := Lib.hid (HK11.out.then (w2 := w11.setCell ⟨w.heap.size + 3, 1, none⟩ (.slice (some ⟨g', 0, none⟩) (ds.length + 1) cap)) (fun b hb hl => Below.heap_setCell _ _ _ _ (by show b ≠ w.heap.size + 3; have := hb.1; omega)))
  go_meet
  exact ⟨_, ⟨⟨x.name, x.params, lNames.take g, bs⟩, .slice p1 x.params.length p2, .slice (some ⟨wr.heap.size + 1, 0, none⟩) g 5, .slice ba bls.length bc⟩, rfl, ⟨HP11.out.setPf _, HA.out.keep HK12.out.keeps, FusAt.keep HK12.out.keeps HH.out, HF12.out, fun k e => by cases e; exact HQ11.out, by have := HZ11.out; simpa [World.setCell] using this,
    HS11.out.keep (BKeeps.set w11 (show ¬ (w.heap.size + 4 ≤ w.heap.size + 3) by omega) 1 (.slice (some ⟨g', 0, none⟩) (ds.length + 1) cap)) (by simp [World.setCell]), fun d l e k ek => by
      have hz : (w11.setCell ⟨w.heap.size + 3, 1, none⟩ (.slice (some ⟨g', 0, none⟩) (ds.length + 1) cap)).heap.size = w11.heap.size := by simp [World.setCell]
      rw [hz]
      have z1 := HZ12.out; have z2 := HZW.out
      cases ds with
      | nil => cases e; have := HBO.out k ek; omega
      | cons d0 l0 => cases e; have := HLO.out d l0 rfl k ek; omega⟩⟩
end Go.Proofs.YtgmaeflfiooigaaGreatDoor

namespace Go.Proofs.YtgmaeflfiooigaaGreatDoor
open Go.RowKit
set_option maxHeartbeats 8000000
set_option maxRecDepth 100000

theorem gBodies_snoc (raw : List Int) (sc : Sc) : ∀ (l : List Fu) (f : Fu) (a : Nat), gBodies raw sc (l ++ [f]) a = ((gBodies raw sc l a).1 ++ [(gBody raw sc f (gBodies raw sc l a).2).1], (gBody raw sc f (gBodies raw sc l a).2).2)
  | [], f, a => rfl
  | g :: l, f, a => by
    rw [List.cons_append, gBodies, gBodies_snoc raw sc l f, gBodies]; rfl
theorem gBodies_len (raw : List Int) (sc : Sc) : ∀ (l : List Fu) (a : Nat), (gBodies raw sc l a).1.length = l.length
  | [], a => rfl
  | g :: l, a => by rw [gBodies, List.length_cons, List.length_cons, gBodies_len raw sc l]
theorem pg_loop4 (w w2 : World) (rv : Value) (free : Bool) (raw : List Int) (a0 M : Nat) (heads : List Fu) (la : List Ar) (ca cf pa : Value) (hh : heads.length ≤ 3) (hla : la.length ≤ 2) (hps : ∀ f, f ∈ heads → f.params.length ≤ 6) (hB : BInv w raw a0 free heads la M ca cf pa (.slice none 0 0) [] w2) (q2 q3 q8 q9 q10 q11 q13 q14 q15 q16 q17 q18 q19 q20 q21 q22 q23 q24 q25 q26 q27 q28 q29 q30 q31 q32 q33 q34 q35 q36 q37 q38 q39 q40 q41 q42 q43 q44 q45 q46 q47 q48 q49 q50 q51 q52 q53 q54 q55 q56 q57 q58 q59 q60 q61 q62 q63 q64 q65 q66 q67 q68 q69 q70 q71 q72 q73 q74 q75 q76 q77 q78 q79 q80 q81 q82 q83 q84 q85 q86 q87 q88 q89 q90 q91 q92 q93 q94 q95 q96 q97 q98 q99 q100 q101 q102 q103 q104 q105 q106 q107 q108 q109 q110 q111 q112 q113 q114 q115 q116 q117 q118 q119 : Value) (J K' : Act → World → Prop)
    (hJ : ∀ a' w', PG12 w rv free (.int .i64 (heads.length : Int)) (fun w' => ∃ pf ds, ds.map (·.x) = (gBodies raw ⟨[], la, heads, free, false⟩ heads a0).1 ∧ BInv w raw (gBodies raw ⟨[], la, heads, free, false⟩ heads a0).2 free heads la M ca cf pa pf ds w') a' w' → J a' w') (hM : ∀ a' w', Met J a' w' → K' a' w') :
    Code.wp Tryz.prog (pgBlock 4) (Exit.then K' (fun _ _ _ => False)) ⟨[rv, .bool free, q2, q3, .pointer (some ⟨w.heap.size, 0, none⟩), .pointer (some ⟨w.heap.size + 1, 0, none⟩), .pointer (some ⟨w.heap.size + 2, 0, none⟩), .pointer (some ⟨w.heap.size + 3, 0, none⟩), q8, q9, q10, q11, .int .i64 0, q13, q14, q15, q16, q17, q18, q19, q20, q21, q22, q23, q24, q25, q26, q27, q28, q29, q30, q31, q32, q33, q34, q35, q36, q37, q38, q39, q40, q41, q42, q43, q44, q45, q46, q47, q48, q49, q50, q51, q52, q53, q54, q55, q56, q57, q58, q59, q60, q61, q62, q63, q64, q65, q66, q67, q68, q69, q70, q71, q72, q73, q74, q75, q76, q77, q78, q79, q80, q81, q82, q83, q84, q85, q86, q87, q88, q89, q90, q91, q92, q93, q94, q95, q96, q97, q98, q99, q100, q101, q102, q103, q104, q105, q106, q107, q108, q109, q110, q111, q112, q113, q114, q115, q116, q117, q118, q119].toArray, []⟩ w2 := by
  conv => arg 2; whnf
  refine wp_block (wp_loop (fun a' w' => ∃ i : Nat, i ≤ heads.length ∧ PG12 w rv free (.int .i64 (i : Int)) (fun w' => ∃ pf ds, ds.map (·.x) = (gBodies raw ⟨[], la, heads, free, false⟩ (heads.take i) a0).1 ∧ BInv w raw (gBodies raw ⟨[], la, heads, free, false⟩ (heads.take i) a0).2 free heads la M ca cf pa pf ds w') a' w') (fun a' _ => heads.length - (intOf (a'.tmps.getD 12 undef)).toNat) ⟨0, Nat.zero_le _, q2, q3, q8, q9, q10, q11, q13, q14, q15, q16, q17, q18, q19, q20, q21, q22, q23, q24, q25, q26, q27, q28, q29, q30, q31, q32, q33, q34, q35, q36, q37, q38, q39, q40, q41, q42, q43, q44, q45, q46, q47, q48, q49, q50, q51, q52, q53, q54, q55, q56, q57, q58, q59, q60, q61, q62, q63, q64, q65, q66, q67, q68, q69, q70, q71, q72, q73, q74, q75, q76, q77, q78, q79, q80, q81, q82, q83, q84, q85, q86, q87, q88, q89, q90, q91, q92, q93, q94, q95, q96, q97, q98, q99, q100, q101, q102, q103, q104, q105, q106, q107, q108, q109, q110, q111, q112, q113, q114, q115, q116, q117, q118, q119, ⟨.slice none 0 0, [], rfl, hB⟩, rfl⟩ ?_)
  intro a' w' hI
  obtain ⟨i, hin, hI⟩ := hI
  have hme := hI.meas
  obtain ⟨z2, hI⟩ := hI
  obtain ⟨z3, hI⟩ := hI
  obtain ⟨z8, hI⟩ := hI
  obtain ⟨z9, hI⟩ := hI
  obtain ⟨z10, hI⟩ := hI
  obtain ⟨z11, hI⟩ := hI
  obtain ⟨z13, hI⟩ := hI
  obtain ⟨z14, hI⟩ := hI
  obtain ⟨z15, hI⟩ := hI
  obtain ⟨z16, hI⟩ := hI
  obtain ⟨z17, hI⟩ := hI
  obtain ⟨z18, hI⟩ := hI
  obtain ⟨z19, hI⟩ := hI
  obtain ⟨z20, hI⟩ := hI
  obtain ⟨z21, hI⟩ := hI
  obtain ⟨z22, hI⟩ := hI
  obtain ⟨z23, hI⟩ := hI
  obtain ⟨z24, hI⟩ := hI
  obtain ⟨z25, hI⟩ := hI
  obtain ⟨z26, hI⟩ := hI
  obtain ⟨z27, hI⟩ := hI
  obtain ⟨z28, hI⟩ := hI
  obtain ⟨z29, hI⟩ := hI
  obtain ⟨z30, hI⟩ := hI
  obtain ⟨z31, hI⟩ := hI
  obtain ⟨z32, hI⟩ := hI
  obtain ⟨z33, hI⟩ := hI
  obtain ⟨z34, hI⟩ := hI
  obtain ⟨z35, hI⟩ := hI
  obtain ⟨z36, hI⟩ := hI
  obtain ⟨z37, hI⟩ := hI
  obtain ⟨z38, hI⟩ := hI
  obtain ⟨z39, hI⟩ := hI
  obtain ⟨z40, hI⟩ := hI
  obtain ⟨z41, hI⟩ := hI
  obtain ⟨z42, hI⟩ := hI
  obtain ⟨z43, hI⟩ := hI
  obtain ⟨z44, hI⟩ := hI
  obtain ⟨z45, hI⟩ := hI
  obtain ⟨z46, hI⟩ := hI
  obtain ⟨z47, hI⟩ := hI
  obtain ⟨z48, hI⟩ := hI
  obtain ⟨z49, hI⟩ := hI
  obtain ⟨z50, hI⟩ := hI
  obtain ⟨z51, hI⟩ := hI
  obtain ⟨z52, hI⟩ := hI
  obtain ⟨z53, hI⟩ := hI
  obtain ⟨z54, hI⟩ := hI
  obtain ⟨z55, hI⟩ := hI
  obtain ⟨z56, hI⟩ := hI
  obtain ⟨z57, hI⟩ := hI
  obtain ⟨z58, hI⟩ := hI
  obtain ⟨z59, hI⟩ := hI
  obtain ⟨z60, hI⟩ := hI
  obtain ⟨z61, hI⟩ := hI
  obtain ⟨z62, hI⟩ := hI
  obtain ⟨z63, hI⟩ := hI
  obtain ⟨z64, hI⟩ := hI
  obtain ⟨z65, hI⟩ := hI
  obtain ⟨z66, hI⟩ := hI
  obtain ⟨z67, hI⟩ := hI
  obtain ⟨z68, hI⟩ := hI
  obtain ⟨z69, hI⟩ := hI
  obtain ⟨z70, hI⟩ := hI
  obtain ⟨z71, hI⟩ := hI
  obtain ⟨z72, hI⟩ := hI
  obtain ⟨z73, hI⟩ := hI
  obtain ⟨z74, hI⟩ := hI
  obtain ⟨z75, hI⟩ := hI
  obtain ⟨z76, hI⟩ := hI
  obtain ⟨z77, hI⟩ := hI
  obtain ⟨z78, hI⟩ := hI
  obtain ⟨z79, hI⟩ := hI
  obtain ⟨z80, hI⟩ := hI
  obtain ⟨z81, hI⟩ := hI
  obtain ⟨z82, hI⟩ := hI
  obtain ⟨z83, hI⟩ := hI
  obtain ⟨z84, hI⟩ := hI
  obtain ⟨z85, hI⟩ := hI
  obtain ⟨z86, hI⟩ := hI
  obtain ⟨z87, hI⟩ := hI
  obtain ⟨z88, hI⟩ := hI
  obtain ⟨z89, hI⟩ := hI
  obtain ⟨z90, hI⟩ := hI
  obtain ⟨z91, hI⟩ := hI
  obtain ⟨z92, hI⟩ := hI
  obtain ⟨z93, hI⟩ := hI
  obtain ⟨z94, hI⟩ := hI
  obtain ⟨z95, hI⟩ := hI
  obtain ⟨z96, hI⟩ := hI
  obtain ⟨z97, hI⟩ := hI
  obtain ⟨z98, hI⟩ := hI
  obtain ⟨z99, hI⟩ := hI
  obtain ⟨z100, hI⟩ := hI
  obtain ⟨z101, hI⟩ := hI
  obtain ⟨z102, hI⟩ := hI
  obtain ⟨z103, hI⟩ := hI
  obtain ⟨z104, hI⟩ := hI
  obtain ⟨z105, hI⟩ := hI
  obtain ⟨z106, hI⟩ := hI
  obtain ⟨z107, hI⟩ := hI
  obtain ⟨z108, hI⟩ := hI
  obtain ⟨z109, hI⟩ := hI
  obtain ⟨z110, hI⟩ := hI
  obtain ⟨z111, hI⟩ := hI
  obtain ⟨z112, hI⟩ := hI
  obtain ⟨z113, hI⟩ := hI
  obtain ⟨z114, hI⟩ := hI
  obtain ⟨z115, hI⟩ := hI
  obtain ⟨z116, hI⟩ := hI
  obtain ⟨z117, hI⟩ := hI
  obtain ⟨z118, hI⟩ := hI
  obtain ⟨z119, hI⟩ := hI
  obtain ⟨⟨pf, ds, hds, hb⟩, ha'⟩ := hI
  subst ha'
  have hdl : ds.length = i := by have := congrArg List.length hds; rw [List.length_map, gBodies_len, List.length_take] at this; omega
  by_cases hi : i < heads.length
  · have hsn : heads.take (i + 1) = heads.take i ++ [fuAt heads i] := by rw [List.take_succ_eq_append_getElem hi]; simp [fuAt, List.getElem?_eq_getElem hi]
    refine then_any (pg_round4 w w' rv free raw _ i M heads la ca cf pa pf ds hi hh hla hps hb (by omega) z2 z3 z8 z9 z10 z11 z13 z14 z15 z16 z17 z18 z19 z20 z21 z22 z23 z24 z25 z26 z27 z28 z29 z30 z31 z32 z33 z34 z35 z36 z37 z38 z39 z40 z41 z42 z43 z44 z45 z46 z47 z48 z49 z50 z51 z52 z53 z54 z55 z56 z57 z58 z59 z60 z61 z62 z63 z64 z65 z66 z67 z68 z69 z70 z71 z72 z73 z74 z75 z76 z77 z78 z79 z80 z81 z82 z83 z84 z85 z86 z87 z88 z89 z90 z91 z92 z93 z94 z95 z96 z97 z98 z99 z100 z101 z102 z103 z104 z105 z106 z107 z108 z109 z110 z111 z112 z113 z114 z115 z116 z117 z118 z119 _ _ (fun a' w' hT => ⟨⟨i + 1, hi, ?_⟩, ?_⟩) (fun _ _ h => h))
    · rw [show ((i + 1 : Nat) : Int) = (i : Int) + 1 by omega, hsn, gBodies_snoc]
      obtain ⟨y2, hT⟩ := hT
      obtain ⟨y3, hT⟩ := hT
      obtain ⟨y8, hT⟩ := hT
      obtain ⟨y9, hT⟩ := hT
      obtain ⟨y10, hT⟩ := hT
      obtain ⟨y11, hT⟩ := hT
      obtain ⟨y13, hT⟩ := hT
      obtain ⟨y14, hT⟩ := hT
      obtain ⟨y15, hT⟩ := hT
      obtain ⟨y16, hT⟩ := hT
      obtain ⟨y17, hT⟩ := hT
      obtain ⟨y18, hT⟩ := hT
      obtain ⟨y19, hT⟩ := hT
      obtain ⟨y20, hT⟩ := hT
      obtain ⟨y21, hT⟩ := hT
      obtain ⟨y22, hT⟩ := hT
      obtain ⟨y23, hT⟩ := hT
      obtain ⟨y24, hT⟩ := hT
      obtain ⟨y25, hT⟩ := hT
      obtain ⟨y26, hT⟩ := hT
      obtain ⟨y27, hT⟩ := hT
      obtain ⟨y28, hT⟩ := hT
      obtain ⟨y29, hT⟩ := hT
      obtain ⟨y30, hT⟩ := hT
      obtain ⟨y31, hT⟩ := hT
      obtain ⟨y32, hT⟩ := hT
      obtain ⟨y33, hT⟩ := hT
      obtain ⟨y34, hT⟩ := hT
      obtain ⟨y35, hT⟩ := hT
      obtain ⟨y36, hT⟩ := hT
      obtain ⟨y37, hT⟩ := hT
      obtain ⟨y38, hT⟩ := hT
      obtain ⟨y39, hT⟩ := hT
      obtain ⟨y40, hT⟩ := hT
      obtain ⟨y41, hT⟩ := hT
      obtain ⟨y42, hT⟩ := hT
      obtain ⟨y43, hT⟩ := hT
      obtain ⟨y44, hT⟩ := hT
      obtain ⟨y45, hT⟩ := hT
      obtain ⟨y46, hT⟩ := hT
      obtain ⟨y47, hT⟩ := hT
      obtain ⟨y48, hT⟩ := hT
      obtain ⟨y49, hT⟩ := hT
      obtain ⟨y50, hT⟩ := hT
      obtain ⟨y51, hT⟩ := hT
      obtain ⟨y52, hT⟩ := hT
      obtain ⟨y53, hT⟩ := hT
      obtain ⟨y54, hT⟩ := hT
      obtain ⟨y55, hT⟩ := hT
      obtain ⟨y56, hT⟩ := hT
      obtain ⟨y57, hT⟩ := hT
      obtain ⟨y58, hT⟩ := hT
      obtain ⟨y59, hT⟩ := hT
      obtain ⟨y60, hT⟩ := hT
      obtain ⟨y61, hT⟩ := hT
      obtain ⟨y62, hT⟩ := hT
      obtain ⟨y63, hT⟩ := hT
      obtain ⟨y64, hT⟩ := hT
      obtain ⟨y65, hT⟩ := hT
      obtain ⟨y66, hT⟩ := hT
      obtain ⟨y67, hT⟩ := hT
      obtain ⟨y68, hT⟩ := hT
      obtain ⟨y69, hT⟩ := hT
      obtain ⟨y70, hT⟩ := hT
      obtain ⟨y71, hT⟩ := hT
      obtain ⟨y72, hT⟩ := hT
      obtain ⟨y73, hT⟩ := hT
      obtain ⟨y74, hT⟩ := hT
      obtain ⟨y75, hT⟩ := hT
      obtain ⟨y76, hT⟩ := hT
      obtain ⟨y77, hT⟩ := hT
      obtain ⟨y78, hT⟩ := hT
      obtain ⟨y79, hT⟩ := hT
      obtain ⟨y80, hT⟩ := hT
      obtain ⟨y81, hT⟩ := hT
      obtain ⟨y82, hT⟩ := hT
      obtain ⟨y83, hT⟩ := hT
      obtain ⟨y84, hT⟩ := hT
      obtain ⟨y85, hT⟩ := hT
      obtain ⟨y86, hT⟩ := hT
      obtain ⟨y87, hT⟩ := hT
      obtain ⟨y88, hT⟩ := hT
      obtain ⟨y89, hT⟩ := hT
      obtain ⟨y90, hT⟩ := hT
      obtain ⟨y91, hT⟩ := hT
      obtain ⟨y92, hT⟩ := hT
      obtain ⟨y93, hT⟩ := hT
      obtain ⟨y94, hT⟩ := hT
      obtain ⟨y95, hT⟩ := hT
      obtain ⟨y96, hT⟩ := hT
      obtain ⟨y97, hT⟩ := hT
      obtain ⟨y98, hT⟩ := hT
      obtain ⟨y99, hT⟩ := hT
      obtain ⟨y100, hT⟩ := hT
      obtain ⟨y101, hT⟩ := hT
      obtain ⟨y102, hT⟩ := hT
      obtain ⟨y103, hT⟩ := hT
      obtain ⟨y104, hT⟩ := hT
      obtain ⟨y105, hT⟩ := hT
      obtain ⟨y106, hT⟩ := hT
      obtain ⟨y107, hT⟩ := hT
      obtain ⟨y108, hT⟩ := hT
      obtain ⟨y109, hT⟩ := hT
      obtain ⟨y110, hT⟩ := hT
      obtain ⟨y111, hT⟩ := hT
      obtain ⟨y112, hT⟩ := hT
      obtain ⟨y113, hT⟩ := hT
      obtain ⟨y114, hT⟩ := hT
      obtain ⟨y115, hT⟩ := hT
      obtain ⟨y116, hT⟩ := hT
      obtain ⟨y117, hT⟩ := hT
      obtain ⟨y118, hT⟩ := hT
      obtain ⟨y119, hT⟩ := hT
      obtain ⟨⟨pf2, p, hpx, h1⟩, h5⟩ := hT
      exact ⟨y2, y3, y8, y9, y10, y11, y13, y14, y15, y16, y17, y18, y19, y20, y21, y22, y23, y24, y25, y26, y27, y28, y29, y30, y31, y32, y33, y34, y35, y36, y37, y38, y39, y40, y41, y42, y43, y44, y45, y46, y47, y48, y49, y50, y51, y52, y53, y54, y55, y56, y57, y58, y59, y60, y61, y62, y63, y64, y65, y66, y67, y68, y69, y70, y71, y72, y73, y74, y75, y76, y77, y78, y79, y80, y81, y82, y83, y84, y85, y86, y87, y88, y89, y90, y91, y92, y93, y94, y95, y96, y97, y98, y99, y100, y101, y102, y103, y104, y105, y106, y107, y108, y109, y110, y111, y112, y113, y114, y115, y116, y117, y118, y119, ⟨pf2, ds ++ [p], by rw [List.map_append, hds, ← hpx]; rfl, h1⟩, h5⟩
    · rw [hT.meas, hme]; simp [intOf]; omega
  · obtain rfl : i = heads.length := by omega
    rw [List.take_length] at hds hb
    have c2 := hb.inv.scp.at 2 _ rfl
    obtain ⟨e1, e2, e3⟩ := hb.hds.shape
    have HB := Lib.hid hb; have HD := Lib.hid hds
    subst e3
    have hCl := hb.inv.lt
    clear hme hb hds hB hdl hi hin hps
    go_wp2_with fail
    go_meet
    exact ⟨pf, ds, HD.out, HB.out⟩
end Go.Proofs.YtgmaeflfiooigaaGreatDoor

namespace Go.Proofs.YtgmaeflfiooigaaGreatDoor
open Go.ChangeShapes Go.WideShapes Go.ChangeAt Go.RowKit
set_option maxHeartbeats 4000000
set_option maxRecDepth 100000

/-- A slice of ints in the blocks D, of whatever length. -/
def RawAt (D : Nat → Prop) (w : World) (l : List Int) (v : Value) : Prop :=
  ∃ a cap b off, v = .slice a l.length cap ∧ l.length ≤ cap ∧ cap ≤ 9223372036854775807 ∧ (l.length = 0 ∨ (a = some ⟨b, off, none⟩ ∧ D b)) ∧
    (∀ i, i < l.length → w.cell? ⟨b, off + i, none⟩ = some (.int .i64 (l.getD i 0))) ∧ ∀ i, i < l.length → I64 (l.getD i 0)
theorem RawAt.keep {D : Nat → Prop} {w w' : World} (hk : Keeps D w w') {l : List Int} {v : Value} (h : RawAt D w l v) : RawAt D w' l v := by
  obtain ⟨a, cap, b, off, hv, h1, h2, h3, h4, h5⟩ := h
  refine ⟨a, cap, b, off, hv, h1, h2, h3, fun i hi => ?_, h5⟩
  rcases h3 with h3 | ⟨_, hD⟩
  · omega
  · exact hk _ _ _ hD (h4 i hi)
theorem RawAt.mono {D D' : Nat → Prop} (hD : ∀ b, D b → D' b) {w : World} {l : List Int} {v : Value} (h : RawAt D w l v) : RawAt D' w l v := by
  obtain ⟨a, cap, b, off, hv, h1, h2, h3, h4, h5⟩ := h
  exact ⟨a, cap, b, off, hv, h1, h2, h3.imp id (fun q => ⟨q.1, hD _ q.2⟩), h4, h5⟩
theorem RawAt.old {w w' : World} {l : List Int} {v : Value} (hb : Below w.heap.size w w') (h : RawAt (· < w.heap.size) w l v) : RawAt (· < w'.heap.size) w' l v :=
  (h.keep (keeps_below hb)).mono (fun b hl => Nat.lt_of_lt_of_le hl hb.size)
theorem RawAt.shape {D : Nat → Prop} {w : World} {l : List Int} {v : Value} (h : RawAt D w l v) : ∃ a cap, v = .slice a l.length cap := by
  obtain ⟨a, cap, b, off, hv, _⟩ := h; exact ⟨a, cap, hv⟩
theorem RawAt.len {D : Nat → Prop} {w : World} {l : List Int} {v : Value} (h : RawAt D w l v) : l.length ≤ 9223372036854775807 := by
  obtain ⟨a, cap, b, off, hv, h1, h2, _⟩ := h; omega
theorem RawAt.take {D : Nat → Prop} {w : World} {l : List Int} {a : Option Addr} {n cap : Nat} (h : RawAt D w l (.slice a n cap)) (k : Nat) (hk : k ≤ l.length) (h4 : k ≤ 1000) : IntsAt D w (l.take k) (.slice a k cap) := by
  obtain ⟨a', cap', b, off, hv, h1, h2, h3, h5, h6⟩ := h
  cases hv
  have e : (l.take k).length = k := by rw [List.length_take]; omega
  refine ⟨a, cap, b, off, by rw [e], by rw [e]; omega, by rw [e]; show k ≤ _; omega, ?_, fun i hi => ?_, fun i hi => ?_⟩
  · rcases h3 with h3 | h3
    · left; rw [e]; omega
    · exact .inr h3
  · rw [e] at hi
    have := h5 i (by omega)
    rw [List.getD_eq_getElem?_getD, List.getElem?_take, if_pos hi, ← List.getD_eq_getElem?_getD]; exact this
  · rw [e] at hi
    have := h6 i (by omega)
    rw [List.getD_eq_getElem?_getD, List.getElem?_take, if_pos hi, ← List.getD_eq_getElem?_getD]; exact this
theorem i64_of_wf {n : Int} (h : (Lit.int .i64 n).wf = true) : I64 n := by
  simp only [Lit.wf, Bool.and_eq_true, decide_eq_true_eq] at h
  exact h
theorem cellsInt : Tryz.prog.cellsOf 3 = 1 := by kernel_rfl
/-- A slice of ints that comes in: its numbers; it is read again where old memory is as it was. -/
theorem open_raw {H : Type} {enc : TypeId × Value → H} {W : World} {base : Nat} {x : Value} {d : DataW H} {p : List MemPlace} (hv : Value.okWide Tryz.prog W .any base 22 x) (h : DataW.Trod enc Tryz.prog W 0 (fun _ => true) true 22 x d p) :
    ∃ raw, RawAt (· < W.heap.size) W raw x ∧ ∀ (W' : World) (sp : Nat → Bool) (hd : Bool), Below W.heap.size W W' → (∀ q, q ∈ p → sp q.block = true) → DataW.Trod enc Tryz.prog W' 0 sp hd 22 x d p := by
  obtain ⟨a0, len, cap, rfl⟩ := okWide_slice Tryz.underlying22 hv
  obtain ⟨fuel, hf⟩ := h
  rcases open_ints Tryz.underlying22 Tryz.underlying3 cellsInt hf with ⟨hcs, hx⟩ | ⟨a, len', cap', zs, hcs, hb, hl, hm, hz, hx, hcell, hwz⟩
  · cases hcs; cases hx
    exact ⟨[], ⟨none, 0, 0, 0, rfl, Nat.le_refl _, Nat.zero_le _, .inl rfl, fun i hi => (by cases hi), fun i hi => (by cases hi)⟩, fun W' sp hd _ _ => ⟨2, rfl⟩⟩
  · cases hcs; cases hx
    rw [if_pos rfl] at hz
    have e : (zs.take len).length = len := by rw [List.length_take]; omega
    have hmax : cap ≤ 9223372036854775807 := by unfold maxLen at hm; omega
    have wf0 : ∀ i, i < zs.length → I64 (zs.getD i 0) := fun i hi => i64_of_wf (hwz _ (by rw [List.getD_eq_getElem?_getD, List.getElem?_eq_getElem hi]; exact List.getElem_mem hi))
    rcases Nat.eq_zero_or_pos zs.length with h0 | h0
    · have hl0 : len = 0 := by omega
      subst hl0
      refine ⟨[], ⟨some a, cap, 0, 0, rfl, Nat.zero_le _, hmax, .inl rfl, fun i hi => (by cases hi), fun i hi => (by cases hi)⟩, fun W' sp hd _ _ => ⟨2, ?_⟩⟩
      exact shut_ints 0 Tryz.underlying22 Tryz.underlying3 cellsInt (Nat.zero_le _) hl hm (by split <;> omega) (fun i hi => by omega) hwz
    · obtain ⟨b, off, rfl, hc⟩ := ints_at hcell h0
      have hbl : b < W.heap.size := World.block_lt_of_cell? _ _ (hc 0 h0)
      refine ⟨zs.take len, ⟨some ⟨b, off, none⟩, cap, b, off, by rw [e], by rw [e]; exact hl, hmax, .inr ⟨rfl, hbl⟩, fun i hi => ?_, fun i hi => ?_⟩, fun W' sp hd hB hsp => ⟨2, ?_⟩⟩
      · rw [e] at hi
        have := hc i (by omega)
        rw [List.getD_eq_getElem?_getD, List.getElem?_take, if_pos hi, ← List.getD_eq_getElem?_getD]; exact this
      · rw [e] at hi
        have := wf0 i (by omega)
        rw [List.getD_eq_getElem?_getD, List.getElem?_take, if_pos hi, ← List.getD_eq_getElem?_getD]; exact this
      · have hs : sp b = true := hsp (.cell b (off + 0)) (MemPlace.mem_row.2 ⟨0, h0, rfl⟩)
        exact shut_ints' 0 Tryz.underlying22 Tryz.underlying3 cellsInt (Nat.zero_le _) hl hm (by rw [hs]; simpa using hz) (fun i hi => below_keeps hB (hc i hi)) hwz
end Go.Proofs.YtgmaeflfiooigaaGreatDoor

namespace Go.Proofs.YtgmaeflfiooigaaGreatDoor
open Go.RowKit
set_option maxHeartbeats 8000000
set_option maxRecDepth 100000

/-- What Prog leaves. -/
def GivesPrS (w : World) (p : Pr) (r : Ending) (w' : World) : Prop :=
  ∃ va vf ds, r = .returned (.agg #[va, vf]) ∧ Below w.heap.size w w' ∧ ArsAt (w.heap.size ≤ ·) w' p.arrays va ∧ ds.map (·.x) = p.funcs ∧ ds.length ≤ 3 ∧ FusOwn w' w.heap.size ds vf ∧ FusSep w' w.heap.size ds vf ∧ ArsAt (fun b => vf.ownBlock ≠ some b ∧ ∀ d l, ds = d :: l → d.b.ownBlock ≠ some b) w' p.arrays va
def GivesPr (w : World) (p : Pr) (r : Ending) (w' : World) : Prop :=
  ∃ va vf ds, r = .returned (.agg #[va, vf]) ∧ Below w.heap.size w w' ∧ ArsAt (w.heap.size ≤ ·) w' p.arrays va ∧ ds.map (·.x) = p.funcs ∧ ds.length ≤ 3 ∧ FusOwn w' w.heap.size ds vf
theorem FusOwn.base {w : World} {base b' : Nat} {ps : List FuV} {v : Value} (h : FusOwn w base ps v) (hb : b' ≤ base) : FusOwn w b' ps v :=
  ⟨row_base h.1 (fun k e => Nat.le_trans hb (h.ge e).1), fun p hp => (h.2 p hp).mono (fun b q _ => ⟨Nat.le_trans hb q.1, q.2⟩)⟩
theorem gArrs_len (free : Bool) (raw : List Int) : ∀ n a, (gArrs free raw n a).1.length = n
  | 0, a => rfl
  | n + 1, a => by rw [gArrs, List.length_cons, gArrs_len free raw n]
theorem gFuns_len (raw : List Int) : ∀ n a, (gFuns raw n a).1.length = n
  | 0, a => rfl
  | n + 1, a => by rw [gFuns, List.length_cons, gFuns_len raw n]
/-- Behind the source's making. -/
def Pre0 (w : World) (raw : List Int) (wx : World) : Prop := SrcAt wx (w.heap.size + 1) raw 0 ∧ Below w.heap.size w wx ∧ OwnAt wx w.heap.size [.slice none 0 0, .slice none 0 0] 27 ∧ wx.heap.size = w.heap.size + 2
theorem pre0_of (w : World) (raw : List Int) (v : Value) (h : IntsAt (· < w.heap.size) w raw v) : Pre0 w raw ((w.alloc (.cells #[.slice none 0 0, .slice none 0 0] 27)).alloc (.cells #[v, .int .i64 0] 67)) := by
  have hb : Below w.heap.size w ((w.alloc (.cells #[.slice none 0 0, .slice none 0 0] 27)).alloc (.cells #[v, .int .i64 0] 67)) := ((Below.refl _ _).alloc (Nat.le_refl _) _).alloc (by simp) _
  have hs := OwnAt.new (w.alloc (.cells #[.slice none 0 0, .slice none 0 0] 27)) [v, .int .i64 0] 67
  rw [show (w.alloc (.cells #[.slice none 0 0, .slice none 0 0] 27)).heap.size = w.heap.size + 1 by simp] at hs
  refine ⟨⟨v, hs, ?_, Nat.zero_le _⟩, hb, (OwnAt.new w _ _).alloc _, by simp⟩
  have h2 := h.keep (keeps_below hb)
  obtain ⟨a', cap', b, off, hv, h1, h2, h3, h4, h5⟩ := h2
  exact ⟨a', cap', b, off, hv, h1, h2, h3.imp id (fun q => ⟨q.1, by have := q.2; omega⟩), h4, h5⟩
theorem pinv_of {w : World} {raw : List Int} {wx : World} (free : Bool) (h : Pre0 w raw wx) : PInv w raw 0 free (.slice none 0 0) (.slice none 0 0) (.slice none 0 0) (.slice none 0 0) ((wx.alloc (.cells #[.slice none 0 0, .slice none 0 0, .slice none 0 0, .bool free, .bool false] 69)).alloc (.cells #[.slice none 0 0, .slice none 0 0] 27)) := by
  obtain ⟨h1, h2, h3, h4⟩ := h
  have hb : Below wx.heap.size wx ((wx.alloc (.cells #[.slice none 0 0, .slice none 0 0, .slice none 0 0, .bool free, .bool false] 69)).alloc (.cells #[.slice none 0 0, .slice none 0 0] 27)) := ((Below.refl _ _).alloc (Nat.le_refl _) _).alloc (by simp) _
  have q1 := (OwnAt.new wx [.slice none 0 0, .slice none 0 0, .slice none 0 0, .bool free, .bool false] 69).alloc (.cells #[.slice none 0 0, .slice none 0 0] 27)
  have q2 := OwnAt.new (wx.alloc (.cells #[.slice none 0 0, .slice none 0 0, .slice none 0 0, .bool free, .bool false] 69)) [.slice none 0 0, .slice none 0 0] 27
  rw [show (wx.alloc (.cells #[.slice none 0 0, .slice none 0 0, .slice none 0 0, .bool free, .bool false] 69)).heap.size = wx.heap.size + 1 by simp, h4] at q2
  rw [h4] at q1
  exact ⟨h2.trans (hb.mono (by omega)), h1.old hb, h3.old hb, q1, q2⟩
theorem prog_sep (raw0 : List Int) (free : Bool) (rv : Value) (w : World) (hr : RawAt (· < w.heap.size) w raw0 rv) : Calls Tryz.prog 13 #[rv, .bool free] w (GivesPrS w (gProg raw0 free)) := by
  obtain ⟨ra, rc, rfl⟩ := hr.shape
  have hfit := hr.len
  have HR := Lib.hid hr
  obtain ⟨raw, hraw⟩ : ∃ raw, raw = raw0.take 400 := ⟨_, rfl⟩
  have HRAW := Lib.hid hraw
  have hgp : gProg raw0 free = ⟨(gProgA raw free).1, (gBodies raw (gProgSc raw free) (gProgSc raw free).funcs (gProgF raw (gProgA raw free).2).2).1⟩ := by rw [hraw]; rfl
  have hh := gProg_heads raw free
  have hsc : gProgSc raw free = ⟨[], (gProgA raw free).1, fMain :: (gProgF raw (gProgA raw free).2).1, free, false⟩ := rfl
  rw [hsc] at hgp hh
  have hga : gProgA raw free = gArrs free raw (gNext raw 0 3).1.toNat (gNext raw 0 3).2 := rfl
  have hgf : ∀ a, gProgF raw a = gFuns raw (gNext raw a 3).1.toNat (gNext raw a 3).2 := fun _ => rfl
  generalize gProgA raw free = A at *
  obtain ⟨la, aA⟩ := A
  have hgf2 := hgf aA
  clear hgf hsc
  dsimp only at hgp hh
  generalize gProgF raw aA = B at *
  obtain ⟨lf, aF⟩ := B
  dsimp only at hgp hh
  have hgl : la.length ≤ 2 := by
    have h1 := congrArg (fun q => q.1.length) hga
    have h2 := gNext_range raw 0 3 (by decide)
    simp only [gArrs_len] at h1; omega
  have hfl : lf.length ≤ 2 := by
    have h1 := congrArg (fun q => q.1.length) hgf2
    have h2 := gNext_range raw aA 3 (by decide)
    simp only [gFuns_len] at h1; omega
  have HGA := Lib.hid hga; have HGF := Lib.hid hgf2; have HHD := Lib.hid hh
  rw [hgp]
  clear hgp hraw hr hga hgf2 hh
  have hrow : OwnAt (w.alloc (.cells #[.slice none 0 0, .slice none 0 0] 27)) w.heap.size [.slice none 0 0, .slice none 0 0] 27 := OwnAt.new _ _ _
  clear hrow
  go_enter Tryz.func13, Tryz.ntmps13
  go_upto_if 20 with (fail)
  go_cut [] (fun wx => Pre0 w raw wx)
  case first =>
    by_cases h400 : 400 < raw0.length
    · have hlt : (400 : Int) < (raw0.length : Int) := by omega
      have hle : (400 : Int) ≤ (rc : Int) := by
        obtain ⟨a', cap', b, off, hv, h1, _⟩ := HR.out
        cases hv; omega
      go_wp2_with fail
      go_meet
      have hq := HR.out.take 400 (by omega) (by decide)
      rw [← HRAW.out] at hq
      have h1 : raw.length = 400 := by rw [HRAW.out, List.length_take]; omega
      exact pre0_of w raw _ hq
    · have hlt : (raw0.length : Int) ≤ 400 := by omega
      have HQ : Hid (IntsAt (· < w.heap.size) w raw (.slice ra raw0.length rc)) := by
        have e : raw = raw0 := by rw [HRAW.out]; exact List.take_of_length_le (by omega)
        show IntsAt _ _ _ _
        rw [e]; have := HR.out.take raw0.length (Nat.le_refl _) (by omega); rwa [List.take_length] at this
      go_wp2_with fail
      go_meet
      exact pre0_of w raw _ HQ.out
  case rest =>
  have HP0 := Lib.hid hcut
  have hn0 := hcut.2.2.2
  clear hcut HR HRAW hfit
  have HNX := Lib.hid (fun w1 a h1 => next_any (w.heap.size + 1) raw a 3 w1 h1 (by decide) (by decide))
  have HPI := Lib.hid (pinv_of free HP0.out)
  have hr := gNext_range raw 0 3 (by decide)
  have HN0 := Lib.hid (fun w1 h1 => HNX.out w1 0 h1)
  generalize gNext raw 0 3 = g at *
  obtain ⟨n, a0⟩ := g
  obtain ⟨g0, g1⟩ := hr
  dsimp only at HN0 HGA g0 g1
  obtain ⟨n, rfl⟩ := Int.eq_ofNat_of_zero_le g0
  rw [Int.toNat_natCast] at HGA
  have hn2 : n ≤ 2 := by omega
  have HN2 := Lib.hid hn2
  clear g0 g1 HP0 hn2
  go_wp2_with fail
  refine (HN0.out _ HPI.out.src).mono ?_
  rintro r w3 ⟨rfl, hs3, hf3⟩
  have HP3 := Lib.hid (HPI.out.sfr hs3 hf3)
  clear hs3 hf3 HPI HN0 hn0
  go_upto_block 0 with (fail)
  refine wp_cut (fun a' w' => PG8 w (.slice ra raw0.length rc) free (.int .i64 0) (fun w' => ∃ pa, PInv w raw (gArrs free raw n a0).2 free (.slice none 0 0) (.slice none 0 0) pa (.slice none 0 0) w' ∧ ArsOwn w' (w.heap.size + 4) (gArrs free raw n a0).1 pa) a' w') ?rest (fun J K' hJ hM => then_any (pg_loop0 w w3 (.slice ra raw0.length rc) free raw a0 n HN2.out HP3.out _ _ _ _ _ _ _ _ _ _ _ _ _ _ _ _ _ _ _ _ _ _ _ _ _ _ _ _ _ _ _ _ _ _ _ _ _ _ _ _ _ _ _ _ _ _ _ _ _ _ _ _ _ _ _ _ _ _ _ _ _ _ _ _ _ _ _ _ _ _ _ _ _ _ _ _ _ _ _ _ _ _ _ _ _ _ _ _ _ _ _ _ _ _ _ _ _ _ _ _ _ _ _ _ _ _ _ _ _ _ _ _ _ J K' hJ hM))
  case rest =>
  intro a' w4 hT
  obtain ⟨z2, hT⟩ := hT
  obtain ⟨z3, hT⟩ := hT
  obtain ⟨z9, hT⟩ := hT
  obtain ⟨z10, hT⟩ := hT
  obtain ⟨z11, hT⟩ := hT
  obtain ⟨z12, hT⟩ := hT
  obtain ⟨z13, hT⟩ := hT
  obtain ⟨z14, hT⟩ := hT
  obtain ⟨z15, hT⟩ := hT
  obtain ⟨z16, hT⟩ := hT
  obtain ⟨z17, hT⟩ := hT
  obtain ⟨z18, hT⟩ := hT
  obtain ⟨z19, hT⟩ := hT
  obtain ⟨z20, hT⟩ := hT
  obtain ⟨z21, hT⟩ := hT
  obtain ⟨z22, hT⟩ := hT
  obtain ⟨z23, hT⟩ := hT
  obtain ⟨z24, hT⟩ := hT
  obtain ⟨z25, hT⟩ := hT
  obtain ⟨z26, hT⟩ := hT
  obtain ⟨z27, hT⟩ := hT
  obtain ⟨z28, hT⟩ := hT
  obtain ⟨z29, hT⟩ := hT
  obtain ⟨z30, hT⟩ := hT
  obtain ⟨z31, hT⟩ := hT
  obtain ⟨z32, hT⟩ := hT
  obtain ⟨z33, hT⟩ := hT
  obtain ⟨z34, hT⟩ := hT
  obtain ⟨z35, hT⟩ := hT
  obtain ⟨z36, hT⟩ := hT
  obtain ⟨z37, hT⟩ := hT
  obtain ⟨z38, hT⟩ := hT
  obtain ⟨z39, hT⟩ := hT
  obtain ⟨z40, hT⟩ := hT
  obtain ⟨z41, hT⟩ := hT
  obtain ⟨z42, hT⟩ := hT
  obtain ⟨z43, hT⟩ := hT
  obtain ⟨z44, hT⟩ := hT
  obtain ⟨z45, hT⟩ := hT
  obtain ⟨z46, hT⟩ := hT
  obtain ⟨z47, hT⟩ := hT
  obtain ⟨z48, hT⟩ := hT
  obtain ⟨z49, hT⟩ := hT
  obtain ⟨z50, hT⟩ := hT
  obtain ⟨z51, hT⟩ := hT
  obtain ⟨z52, hT⟩ := hT
  obtain ⟨z53, hT⟩ := hT
  obtain ⟨z54, hT⟩ := hT
  obtain ⟨z55, hT⟩ := hT
  obtain ⟨z56, hT⟩ := hT
  obtain ⟨z57, hT⟩ := hT
  obtain ⟨z58, hT⟩ := hT
  obtain ⟨z59, hT⟩ := hT
  obtain ⟨z60, hT⟩ := hT
  obtain ⟨z61, hT⟩ := hT
  obtain ⟨z62, hT⟩ := hT
  obtain ⟨z63, hT⟩ := hT
  obtain ⟨z64, hT⟩ := hT
  obtain ⟨z65, hT⟩ := hT
  obtain ⟨z66, hT⟩ := hT
  obtain ⟨z67, hT⟩ := hT
  obtain ⟨z68, hT⟩ := hT
  obtain ⟨z69, hT⟩ := hT
  obtain ⟨z70, hT⟩ := hT
  obtain ⟨z71, hT⟩ := hT
  obtain ⟨z72, hT⟩ := hT
  obtain ⟨z73, hT⟩ := hT
  obtain ⟨z74, hT⟩ := hT
  obtain ⟨z75, hT⟩ := hT
  obtain ⟨z76, hT⟩ := hT
  obtain ⟨z77, hT⟩ := hT
  obtain ⟨z78, hT⟩ := hT
  obtain ⟨z79, hT⟩ := hT
  obtain ⟨z80, hT⟩ := hT
  obtain ⟨z81, hT⟩ := hT
  obtain ⟨z82, hT⟩ := hT
  obtain ⟨z83, hT⟩ := hT
  obtain ⟨z84, hT⟩ := hT
  obtain ⟨z85, hT⟩ := hT
  obtain ⟨z86, hT⟩ := hT
  obtain ⟨z87, hT⟩ := hT
  obtain ⟨z88, hT⟩ := hT
  obtain ⟨z89, hT⟩ := hT
  obtain ⟨z90, hT⟩ := hT
  obtain ⟨z91, hT⟩ := hT
  obtain ⟨z92, hT⟩ := hT
  obtain ⟨z93, hT⟩ := hT
  obtain ⟨z94, hT⟩ := hT
  obtain ⟨z95, hT⟩ := hT
  obtain ⟨z96, hT⟩ := hT
  obtain ⟨z97, hT⟩ := hT
  obtain ⟨z98, hT⟩ := hT
  obtain ⟨z99, hT⟩ := hT
  obtain ⟨z100, hT⟩ := hT
  obtain ⟨z101, hT⟩ := hT
  obtain ⟨z102, hT⟩ := hT
  obtain ⟨z103, hT⟩ := hT
  obtain ⟨z104, hT⟩ := hT
  obtain ⟨z105, hT⟩ := hT
  obtain ⟨z106, hT⟩ := hT
  obtain ⟨z107, hT⟩ := hT
  obtain ⟨z108, hT⟩ := hT
  obtain ⟨z109, hT⟩ := hT
  obtain ⟨z110, hT⟩ := hT
  obtain ⟨z111, hT⟩ := hT
  obtain ⟨z112, hT⟩ := hT
  obtain ⟨z113, hT⟩ := hT
  obtain ⟨z114, hT⟩ := hT
  obtain ⟨z115, hT⟩ := hT
  obtain ⟨z116, hT⟩ := hT
  obtain ⟨z117, hT⟩ := hT
  obtain ⟨z118, hT⟩ := hT
  obtain ⟨z119, hT⟩ := hT
  obtain ⟨⟨pa, hp4, ha4⟩, ha'⟩ := hT
  subst ha'
  rw [← HGA.out] at hp4 ha4
  dsimp only at hp4 ha4
  clear HGA HP3 HN2
  obtain ⟨oa, oc, rfl⟩ := ha4.shape
  have HL := Lib.hid hgl
  -- the scope's arrays; main
  have hp5 := hp4.setC (.slice oa la.length oc)
  have ha5 := ha4.keep (BKeeps.set w4 (show ¬ (w.heap.size + 4 ≤ w.heap.size + 2) by omega) 1 (.slice oa la.length oc))
  have hb6 : Below (w4.setCell ⟨w.heap.size + 2, 1, none⟩ (.slice oa la.length oc)).heap.size (w4.setCell ⟨w.heap.size + 2, 1, none⟩ (.slice oa la.length oc)) ((w4.setCell ⟨w.heap.size + 2, 1, none⟩ (.slice oa la.length oc)).alloc (.cells #[.string ⟨#[109, 97, 105, 110]⟩, .slice none 0 0, .slice none 0 0, .slice none 0 0] 52)) := (Below.refl _ _).alloc (Nat.le_refl _) _
  have HP6 := Lib.hid (hp5.old hb6); have HA6 := Lib.hid (ha5.keep (BKeeps.below hb6))
  have hn6 := RowAt.new (w4.setCell ⟨w.heap.size + 2, 1, none⟩ (.slice oa la.length oc)) (fvCells ⟨fMain, .slice none 0 0, .slice none 0 0, .slice none 0 0⟩) 52
  rw [show (w4.setCell ⟨w.heap.size + 2, 1, none⟩ (.slice oa la.length oc)).heap.size = w4.heap.size by simp [World.setCell]] at hn6
  have HN6 := Lib.hid hn6
  have c1 := hp4.scp.at 1 _ rfl
  have fc1 := hp4.scp.fz 1
  have c2 := hp5.scp.at 2 _ rfl
  have p0 := hp4.prg.at 0 _ rfl
  have hPl := hp4.lt
  have HAO : Hid (∀ k, (Value.slice oa la.length oc).ownBlock = some k → k < w4.heap.size) := fun k e => (ha4.ge e).2
  obtain ⟨i0, hi1, hz0, hz1, hz2⟩ := info_parts infoFu
  have HI0 := Lib.hid hi1; have HZ0 := Lib.hid hz0; have HZ1 := Lib.hid hz1; have HZ2 := Lib.hid hz2
  clear hb6 hn6 hp4 ha4 hp5 ha5 hi1 hz0 hz1 hz2
  go_upto_region 15 with (at_builtin; (refine wpList_append_lies (P := Tryz.prog) _ rfl _ _ 25 rfl (w.heap.size + 4) 52 i0 _ 4 88 Tryz.underlying25 HI0.out HZ0.out HZ1.out HZ2.out rfl (by decide) (.slice none 0 0) 0 [] rfl (FusOwn.zero _ _).1 ⟨w4.heap.size, 0, none⟩ 1 1 (fvCells ⟨fMain, .slice none 0 0, .slice none 0 0, .slice none 0 0⟩) rfl rfl (news_at HN6.out) (fu_one' [] _ _ _ _ _ _ _ _ _ _) (by decide) (by unfold maxLen; omega) (by omega) (by have := HP6.out.lt; omega) _ rfl ?_; intro g cap w11 hown hgrow hat hlt11; have hp11 := HP6.out.grow hgrow (fun k e => by cases e); have HP11 := Lib.hid hp11; have y2 := hp11.scp.at 2 _ rfl; have fy2 := hp11.scp.fz 2; have hPl11 := hp11.lt; have HF11 := Lib.hid ((FusOwn.zero _ (w.heap.size + 4)).snoc ⟨fMain, .slice none 0 0, .slice none 0 0, .slice none 0 0⟩ ⟨StrsAt.zero, StrsAt.zero, [], rfl, by decide, StsOwnD.zero _ _⟩ hown hgrow hat); have HA11 : Hid (ArsOwn w11 (w.heap.size + 4) la (.slice oa la.length oc)) := (row_keep HA6.out (D := fun _ => True) (fun k e => trivial) (fun k hk hl => hgrow.block k hl (fun e => by cases e))); have HQ11 : Hid (∀ x, (Value.slice oa la.length oc).ownBlock = some x → (Value.slice (some ⟨g, 0, none⟩) (0 + 1) cap).ownBlock ≠ some x) := (fun x e e2 => by cases e2; rcases hat with hat | hat; cases hat; have h3 : g < w4.heap.size := HAO.out g e; have h4 : w4.heap.size ≤ g := (by rw [hat]; simp [World.setCell]); omega); clear hown hgrow hat hp11))
  have HP12 := Lib.hid (HP11.out.setCf (.slice (some ⟨g, 0, none⟩) (0 + 1) cap))
  have HF12 := Lib.hid (HF11.out.keep (BKeeps.set w11 (show ¬ (w.heap.size + 4 ≤ w.heap.size + 2) by omega) 2 (.slice (some ⟨g, 0, none⟩) (0 + 1) cap)) (by simp [World.setCell]))
  have HA12 := Lib.hid (HA11.out.keep (BKeeps.set w11 (show ¬ (w.heap.size + 4 ≤ w.heap.size + 2) by omega) 2 (.slice (some ⟨g, 0, none⟩) (0 + 1) cap)))
  have hr2 := gNext_range raw aA 3 (by decide)
  have HN1 := Lib.hid (fun w1 h1 => HNX.out w1 aA h1)
  generalize gNext raw aA 3 = g2 at *
  obtain ⟨n2, a2⟩ := g2
  obtain ⟨g0, g1⟩ := hr2
  dsimp only at HN1 HGF g0 g1
  obtain ⟨n2, rfl⟩ := Int.eq_ofNat_of_zero_le g0
  rw [Int.toNat_natCast] at HGF
  have hn2 : n2 ≤ 2 := by omega
  have HN2 := Lib.hid hn2
  clear g0 g1 hn2 c1 fc1 c2 p0 hPl
  go_wp2_with fail
  refine (HN1.out _ HP12.out.src).mono ?_
  rintro r w13 ⟨rfl, hs13, hf13⟩
  have HP13 := Lib.hid (HP12.out.sfr hs13 hf13)
  have HA13 := Lib.hid (HA12.out.keep (BKeeps.sfr hf13 (fun b hb => by have : w.heap.size + 4 ≤ b := hb; omega)))
  have HF13 := Lib.hid (HF12.out.keep (BKeeps.sfr hf13 (fun b hb => by have : w.heap.size + 4 ≤ b := hb; omega)) hf13.size)
  clear hs13 hf13 HP12 HA12 HF12 HN1 HP11 HF11 HA11
  go_upto_block 2 with (fail)
  refine wp_cut (fun a' w' => PG10 w (.slice ra raw0.length rc) free (.int .i64 0) (fun w' => ∃ cf' ps, ps.map (·.x) = ([fMain] ++ (gFuns raw n2 a2).1) ∧ PInv w raw (gFuns raw n2 a2).2 free (.slice oa la.length oc) cf' (.slice oa la.length oc) (.slice none 0 0) w' ∧ ArsOwn w' (w.heap.size + 4) la (.slice oa la.length oc) ∧ FusOwn w' (w.heap.size + 4) ps cf' ∧ ∀ x, (Value.slice oa la.length oc).ownBlock = some x → cf'.ownBlock ≠ some x) a' w') ?rest (fun J K' hJ hM => then_any (pg_loop2 w w13 (.slice ra raw0.length rc) free raw a2 n2 HN2.out [fMain] (by decide) la _ _ _ _ rfl HP13.out HA13.out HF13.out HQ11.out _ _ _ _ _ _ _ _ _ _ _ _ _ _ _ _ _ _ _ _ _ _ _ _ _ _ _ _ _ _ _ _ _ _ _ _ _ _ _ _ _ _ _ _ _ _ _ _ _ _ _ _ _ _ _ _ _ _ _ _ _ _ _ _ _ _ _ _ _ _ _ _ _ _ _ _ _ _ _ _ _ _ _ _ _ _ _ _ _ _ _ _ _ _ _ _ _ _ _ _ _ _ _ _ _ _ _ _ _ _ _ _ _ J K' hJ hM))
  case rest =>
  intro a' w14 hT
  obtain ⟨z2, hT⟩ := hT
  obtain ⟨z3, hT⟩ := hT
  obtain ⟨z8, hT⟩ := hT
  obtain ⟨z9, hT⟩ := hT
  obtain ⟨z11, hT⟩ := hT
  obtain ⟨z12, hT⟩ := hT
  obtain ⟨z13, hT⟩ := hT
  obtain ⟨z14, hT⟩ := hT
  obtain ⟨z15, hT⟩ := hT
  obtain ⟨z16, hT⟩ := hT
  obtain ⟨z17, hT⟩ := hT
  obtain ⟨z18, hT⟩ := hT
  obtain ⟨z19, hT⟩ := hT
  obtain ⟨z20, hT⟩ := hT
  obtain ⟨z21, hT⟩ := hT
  obtain ⟨z22, hT⟩ := hT
  obtain ⟨z23, hT⟩ := hT
  obtain ⟨z24, hT⟩ := hT
  obtain ⟨z25, hT⟩ := hT
  obtain ⟨z26, hT⟩ := hT
  obtain ⟨z27, hT⟩ := hT
  obtain ⟨z28, hT⟩ := hT
  obtain ⟨z29, hT⟩ := hT
  obtain ⟨z30, hT⟩ := hT
  obtain ⟨z31, hT⟩ := hT
  obtain ⟨z32, hT⟩ := hT
  obtain ⟨z33, hT⟩ := hT
  obtain ⟨z34, hT⟩ := hT
  obtain ⟨z35, hT⟩ := hT
  obtain ⟨z36, hT⟩ := hT
  obtain ⟨z37, hT⟩ := hT
  obtain ⟨z38, hT⟩ := hT
  obtain ⟨z39, hT⟩ := hT
  obtain ⟨z40, hT⟩ := hT
  obtain ⟨z41, hT⟩ := hT
  obtain ⟨z42, hT⟩ := hT
  obtain ⟨z43, hT⟩ := hT
  obtain ⟨z44, hT⟩ := hT
  obtain ⟨z45, hT⟩ := hT
  obtain ⟨z46, hT⟩ := hT
  obtain ⟨z47, hT⟩ := hT
  obtain ⟨z48, hT⟩ := hT
  obtain ⟨z49, hT⟩ := hT
  obtain ⟨z50, hT⟩ := hT
  obtain ⟨z51, hT⟩ := hT
  obtain ⟨z52, hT⟩ := hT
  obtain ⟨z53, hT⟩ := hT
  obtain ⟨z54, hT⟩ := hT
  obtain ⟨z55, hT⟩ := hT
  obtain ⟨z56, hT⟩ := hT
  obtain ⟨z57, hT⟩ := hT
  obtain ⟨z58, hT⟩ := hT
  obtain ⟨z59, hT⟩ := hT
  obtain ⟨z60, hT⟩ := hT
  obtain ⟨z61, hT⟩ := hT
  obtain ⟨z62, hT⟩ := hT
  obtain ⟨z63, hT⟩ := hT
  obtain ⟨z64, hT⟩ := hT
  obtain ⟨z65, hT⟩ := hT
  obtain ⟨z66, hT⟩ := hT
  obtain ⟨z67, hT⟩ := hT
  obtain ⟨z68, hT⟩ := hT
  obtain ⟨z69, hT⟩ := hT
  obtain ⟨z70, hT⟩ := hT
  obtain ⟨z71, hT⟩ := hT
  obtain ⟨z72, hT⟩ := hT
  obtain ⟨z73, hT⟩ := hT
  obtain ⟨z74, hT⟩ := hT
  obtain ⟨z75, hT⟩ := hT
  obtain ⟨z76, hT⟩ := hT
  obtain ⟨z77, hT⟩ := hT
  obtain ⟨z78, hT⟩ := hT
  obtain ⟨z79, hT⟩ := hT
  obtain ⟨z80, hT⟩ := hT
  obtain ⟨z81, hT⟩ := hT
  obtain ⟨z82, hT⟩ := hT
  obtain ⟨z83, hT⟩ := hT
  obtain ⟨z84, hT⟩ := hT
  obtain ⟨z85, hT⟩ := hT
  obtain ⟨z86, hT⟩ := hT
  obtain ⟨z87, hT⟩ := hT
  obtain ⟨z88, hT⟩ := hT
  obtain ⟨z89, hT⟩ := hT
  obtain ⟨z90, hT⟩ := hT
  obtain ⟨z91, hT⟩ := hT
  obtain ⟨z92, hT⟩ := hT
  obtain ⟨z93, hT⟩ := hT
  obtain ⟨z94, hT⟩ := hT
  obtain ⟨z95, hT⟩ := hT
  obtain ⟨z96, hT⟩ := hT
  obtain ⟨z97, hT⟩ := hT
  obtain ⟨z98, hT⟩ := hT
  obtain ⟨z99, hT⟩ := hT
  obtain ⟨z100, hT⟩ := hT
  obtain ⟨z101, hT⟩ := hT
  obtain ⟨z102, hT⟩ := hT
  obtain ⟨z103, hT⟩ := hT
  obtain ⟨z104, hT⟩ := hT
  obtain ⟨z105, hT⟩ := hT
  obtain ⟨z106, hT⟩ := hT
  obtain ⟨z107, hT⟩ := hT
  obtain ⟨z108, hT⟩ := hT
  obtain ⟨z109, hT⟩ := hT
  obtain ⟨z110, hT⟩ := hT
  obtain ⟨z111, hT⟩ := hT
  obtain ⟨z112, hT⟩ := hT
  obtain ⟨z113, hT⟩ := hT
  obtain ⟨z114, hT⟩ := hT
  obtain ⟨z115, hT⟩ := hT
  obtain ⟨z116, hT⟩ := hT
  obtain ⟨z117, hT⟩ := hT
  obtain ⟨z118, hT⟩ := hT
  obtain ⟨z119, hT⟩ := hT
  obtain ⟨⟨cf, hs, hhs, hp14, ha14, hf14, _⟩, ha'⟩ := hT
  subst ha'
  rw [← HGF.out] at hhs hp14
  dsimp only at hhs hp14
  have hsl : hs.length ≤ 3 := by have := congrArg List.length hhs; rw [List.length_map, List.length_append, List.length_singleton] at this; omega
  have hfs := hf14.fus (show hs.length ≤ 140737488355328 by omega)
  rw [hhs] at hfs
  have HB : Hid (BInv w raw aF free (fMain :: lf) la w14.heap.size (.slice oa la.length oc) cf (.slice oa la.length oc) (.slice none 0 0) [] w14) :=
    ⟨hp14, (ha14.ars (show la.length ≤ 140737488355328 by omega)).strong, FusAt.strong hfs, FusOwn.zero _ _, fun k e => (by cases e), Nat.le_refl _, FusSep.zero _ _ _, fun d l e => (by cases e)⟩
  clear hhs hp14 ha14 hf14 hsl hfs HP13 HA13 HF13 HQ11 HGF HN2 hs
  have HFL := Lib.hid hfl
  clear hfl
  go_upto_block 4 with (fail)
  refine wp_cut (fun a' w' => PG12 w (.slice ra raw0.length rc) free (.int .i64 ((fMain :: lf).length : Int)) (fun w' => ∃ pf ds, ds.map (·.x) = (gBodies raw ⟨[], la, fMain :: lf, free, false⟩ (fMain :: lf) aF).1 ∧ BInv w raw (gBodies raw ⟨[], la, fMain :: lf, free, false⟩ (fMain :: lf) aF).2 free (fMain :: lf) la w14.heap.size (.slice oa la.length oc) cf (.slice oa la.length oc) pf ds w') a' w') ?rest (fun J K' hJ hM => then_any (pg_loop4 w w14 (.slice ra raw0.length rc) free raw aF w14.heap.size (fMain :: lf) la (.slice oa la.length oc) cf (.slice oa la.length oc) (by have := HFL.out; rw [List.length_cons]; omega) HL.out (fun f hf => (HHD.out f hf).2.1) HB.out _ _ _ _ _ _ _ _ _ _ _ _ _ _ _ _ _ _ _ _ _ _ _ _ _ _ _ _ _ _ _ _ _ _ _ _ _ _ _ _ _ _ _ _ _ _ _ _ _ _ _ _ _ _ _ _ _ _ _ _ _ _ _ _ _ _ _ _ _ _ _ _ _ _ _ _ _ _ _ _ _ _ _ _ _ _ _ _ _ _ _ _ _ _ _ _ _ _ _ _ _ _ _ _ _ _ _ _ _ _ _ _ _ J K' hJ hM))
  case rest =>
  intro a' w15 hT
  obtain ⟨z2, hT⟩ := hT
  obtain ⟨z3, hT⟩ := hT
  obtain ⟨z8, hT⟩ := hT
  obtain ⟨z9, hT⟩ := hT
  obtain ⟨z10, hT⟩ := hT
  obtain ⟨z11, hT⟩ := hT
  obtain ⟨z13, hT⟩ := hT
  obtain ⟨z14, hT⟩ := hT
  obtain ⟨z15, hT⟩ := hT
  obtain ⟨z16, hT⟩ := hT
  obtain ⟨z17, hT⟩ := hT
  obtain ⟨z18, hT⟩ := hT
  obtain ⟨z19, hT⟩ := hT
  obtain ⟨z20, hT⟩ := hT
  obtain ⟨z21, hT⟩ := hT
  obtain ⟨z22, hT⟩ := hT
  obtain ⟨z23, hT⟩ := hT
  obtain ⟨z24, hT⟩ := hT
  obtain ⟨z25, hT⟩ := hT
  obtain ⟨z26, hT⟩ := hT
  obtain ⟨z27, hT⟩ := hT
  obtain ⟨z28, hT⟩ := hT
  obtain ⟨z29, hT⟩ := hT
  obtain ⟨z30, hT⟩ := hT
  obtain ⟨z31, hT⟩ := hT
  obtain ⟨z32, hT⟩ := hT
  obtain ⟨z33, hT⟩ := hT
  obtain ⟨z34, hT⟩ := hT
  obtain ⟨z35, hT⟩ := hT
  obtain ⟨z36, hT⟩ := hT
  obtain ⟨z37, hT⟩ := hT
  obtain ⟨z38, hT⟩ := hT
  obtain ⟨z39, hT⟩ := hT
  obtain ⟨z40, hT⟩ := hT
  obtain ⟨z41, hT⟩ := hT
  obtain ⟨z42, hT⟩ := hT
  obtain ⟨z43, hT⟩ := hT
  obtain ⟨z44, hT⟩ := hT
  obtain ⟨z45, hT⟩ := hT
  obtain ⟨z46, hT⟩ := hT
  obtain ⟨z47, hT⟩ := hT
  obtain ⟨z48, hT⟩ := hT
  obtain ⟨z49, hT⟩ := hT
  obtain ⟨z50, hT⟩ := hT
  obtain ⟨z51, hT⟩ := hT
  obtain ⟨z52, hT⟩ := hT
  obtain ⟨z53, hT⟩ := hT
  obtain ⟨z54, hT⟩ := hT
  obtain ⟨z55, hT⟩ := hT
  obtain ⟨z56, hT⟩ := hT
  obtain ⟨z57, hT⟩ := hT
  obtain ⟨z58, hT⟩ := hT
  obtain ⟨z59, hT⟩ := hT
  obtain ⟨z60, hT⟩ := hT
  obtain ⟨z61, hT⟩ := hT
  obtain ⟨z62, hT⟩ := hT
  obtain ⟨z63, hT⟩ := hT
  obtain ⟨z64, hT⟩ := hT
  obtain ⟨z65, hT⟩ := hT
  obtain ⟨z66, hT⟩ := hT
  obtain ⟨z67, hT⟩ := hT
  obtain ⟨z68, hT⟩ := hT
  obtain ⟨z69, hT⟩ := hT
  obtain ⟨z70, hT⟩ := hT
  obtain ⟨z71, hT⟩ := hT
  obtain ⟨z72, hT⟩ := hT
  obtain ⟨z73, hT⟩ := hT
  obtain ⟨z74, hT⟩ := hT
  obtain ⟨z75, hT⟩ := hT
  obtain ⟨z76, hT⟩ := hT
  obtain ⟨z77, hT⟩ := hT
  obtain ⟨z78, hT⟩ := hT
  obtain ⟨z79, hT⟩ := hT
  obtain ⟨z80, hT⟩ := hT
  obtain ⟨z81, hT⟩ := hT
  obtain ⟨z82, hT⟩ := hT
  obtain ⟨z83, hT⟩ := hT
  obtain ⟨z84, hT⟩ := hT
  obtain ⟨z85, hT⟩ := hT
  obtain ⟨z86, hT⟩ := hT
  obtain ⟨z87, hT⟩ := hT
  obtain ⟨z88, hT⟩ := hT
  obtain ⟨z89, hT⟩ := hT
  obtain ⟨z90, hT⟩ := hT
  obtain ⟨z91, hT⟩ := hT
  obtain ⟨z92, hT⟩ := hT
  obtain ⟨z93, hT⟩ := hT
  obtain ⟨z94, hT⟩ := hT
  obtain ⟨z95, hT⟩ := hT
  obtain ⟨z96, hT⟩ := hT
  obtain ⟨z97, hT⟩ := hT
  obtain ⟨z98, hT⟩ := hT
  obtain ⟨z99, hT⟩ := hT
  obtain ⟨z100, hT⟩ := hT
  obtain ⟨z101, hT⟩ := hT
  obtain ⟨z102, hT⟩ := hT
  obtain ⟨z103, hT⟩ := hT
  obtain ⟨z104, hT⟩ := hT
  obtain ⟨z105, hT⟩ := hT
  obtain ⟨z106, hT⟩ := hT
  obtain ⟨z107, hT⟩ := hT
  obtain ⟨z108, hT⟩ := hT
  obtain ⟨z109, hT⟩ := hT
  obtain ⟨z110, hT⟩ := hT
  obtain ⟨z111, hT⟩ := hT
  obtain ⟨z112, hT⟩ := hT
  obtain ⟨z113, hT⟩ := hT
  obtain ⟨z114, hT⟩ := hT
  obtain ⟨z115, hT⟩ := hT
  obtain ⟨z116, hT⟩ := hT
  obtain ⟨z117, hT⟩ := hT
  obtain ⟨z118, hT⟩ := hT
  obtain ⟨z119, hT⟩ := hT
  obtain ⟨⟨pf, ds, hds, hb⟩, ha'⟩ := hT
  subst ha'
  obtain ⟨pa, pc, rfl⟩ := hb.fus.shape
  have hdl : ds.length ≤ 3 := by have := congrArg List.length hds; rw [List.length_map, gBodies_len, List.length_cons] at this; have := HFL.out; omega
  have HDS := Lib.hid hds; have HDL := Lib.hid hdl
  have p0 := hb.inv.prg.at 0 _ rfl
  have p1 := hb.inv.prg.at 1 _ rfl
  have r0 := hb.inv.res.at 0 _ rfl
  have r1 := hb.inv.res.at 1 _ rfl
  have fr0 := hb.inv.res.fz 0
  have fr1 := hb.inv.res.fz 1
  have hPl := hb.inv.lt
  have HRE := Lib.hid ((hb.inv.res.set 0 (.slice oa la.length oc)).set 1 (.slice pa ds.length pc))
  have HBE := Lib.hid ((hb.inv.bel.setCell (p := ⟨w.heap.size, 0, none⟩) (by show w.heap.size ≤ w.heap.size; omega) (.slice oa la.length oc)).setCell (p := ⟨w.heap.size, 1, none⟩) (by show w.heap.size ≤ w.heap.size; omega) (.slice pa ds.length pc))
  have HAE := Lib.hid (((hb.ars.keep (keeps_set w15 (show ¬ (w.heap.size + 4 ≤ w.heap.size ∧ w.heap.size < w14.heap.size) by omega) 0 (.slice oa la.length oc))).keep (keeps_set _ (show ¬ (w.heap.size + 4 ≤ w.heap.size ∧ w.heap.size < w14.heap.size) by omega) 1 (.slice pa ds.length pc))).mono (fun b hb => (by have := hb.1; omega : w.heap.size ≤ b)))
  have HFE := Lib.hid (((hb.fus.keep (BKeeps.set w15 (show ¬ (w.heap.size + 4 ≤ w.heap.size) by omega) 0 (.slice oa la.length oc)) (by simp [World.setCell])).keep (BKeeps.set _ (show ¬ (w.heap.size + 4 ≤ w.heap.size) by omega) 1 (.slice pa ds.length pc)) (by simp [World.setCell])).base (b' := w.heap.size) (by omega))
  have HAS := Lib.hid (((hb.ars.keep (keeps_set w15 (show ¬ (w.heap.size + 4 ≤ w.heap.size ∧ w.heap.size < w14.heap.size) by omega) 0 (.slice oa la.length oc))).keep (keeps_set _ (show ¬ (w.heap.size + 4 ≤ w.heap.size ∧ w.heap.size < w14.heap.size) by omega) 1 (.slice pa ds.length pc))).mono (D' := fun b => (Value.slice pa ds.length pc).ownBlock ≠ some b ∧ ∀ d l, ds = d :: l → d.b.ownBlock ≠ some b) (fun b hb' => ⟨fun e => by have := hb.own b e; have := hb'.2; omega, fun d l e e2 => by have := (hb.lo d l e b e2).1; have := hb'.2; omega⟩))
  have HSE := Lib.hid (((hb.sep.keep (BKeeps.set w15 (show ¬ (w.heap.size + 4 ≤ w.heap.size) by omega) 0 (.slice oa la.length oc)) (by simp [World.setCell])).keep (BKeeps.set _ (show ¬ (w.heap.size + 4 ≤ w.heap.size) by omega) 1 (.slice pa ds.length pc)) (by simp [World.setCell])).base (b' := w.heap.size) (by omega))
  clear hb hds hdl HB
  go_wp2_with fail
  have d0 := HRE.out.at 0 _ rfl
  have d1 := HRE.out.at 1 _ rfl
  exact bodyPost_ret (v := .agg #[.slice oa la.length oc, .slice pa ds.length pc]) (by simp [results, Tryz.results13, go_sem, d0, d1]) rfl ⟨_, _, ds, rfl, HBE.out, HAE.out, HDS.out, HDL.out, HFE.out, HSE.out, HAS.out⟩
theorem prog_any (raw0 : List Int) (free : Bool) (rv : Value) (w : World) (hr : RawAt (· < w.heap.size) w raw0 rv) : Calls Tryz.prog 13 #[rv, .bool free] w (GivesPr w (gProg raw0 free)) :=
  (prog_sep raw0 free rv w hr).mono fun _ _ ⟨va, vf, ds, h1, h2, h3, h4, h5, h6, _⟩ => ⟨va, vf, ds, h1, h2, h3, h4, h5, h6⟩
end Go.Proofs.YtgmaeflfiooigaaGreatDoor
