/-
  Rows of plain elements that the parser appends to: names, arrays. No condition.
  function and its closure: a name behind the others, in whatever order. Conditions: the parser and the variables lie in memory.
-/
import Derived.Test.YtcfpfnoldgnloaaGreatDoorPn11
set_option linter.unusedVariables false
set_option linter.unusedSimpArgs false
namespace Go.Proofs.YtcfpfnoldgnloaaGreatDoor
open Go.RowKit
set_option maxRecDepth 100000
set_option maxHeartbeats 4000000

def YOwn {α : Type} (e : TypeId) (cf : α → List Value) (k : Nat) (w : World) (base : Nat) (L : List α) (v : Value) : Prop := w.ownsRow base e k v L.length (L.flatMap cf)
section
variable {α : Type} {e : TypeId} {cf : α → List Value} {k : Nat} {w w' : World} {base : Nat} {L : List α} {v : Value}
theorem YOwn.zero (e : TypeId) (cf : α → List Value) (k : Nat) (w : World) (base : Nat) : YOwn e cf k w base [] (.slice none 0 0) := World.ownsRow_nil _ _ _ _
theorem YOwn.lt (h : YOwn e cf k w base L v) : ∀ g, v.ownBlock = some g → base ≤ g ∧ g < w.heap.size := World.ownsRow.lt h
theorem YOwn.grown (h : YOwn e cf k w base L v) {row : Option Nat} (hg : w.grownBy w' row) (hne : v.ownBlock = none ∨ v.ownBlock ≠ row) : YOwn e cf k w' base L v := World.ownsRow.kept h hg hne
theorem YOwn.sfr (h : YOwn e cf k w base L v) {p : Nat} (hf : SFr p w w') (hp : p < base) : YOwn e cf k w' base L v := by
  refine ⟨h.1, ?_⟩
  rcases h.2 with hn | ⟨g, cap, cur, rfl, hg, hh, r⟩
  · exact .inl hn
  · refine .inr ⟨g, cap, cur, rfl, hg, ?_, r⟩
    rw [hf.block g (by
      rcases Nat.lt_or_ge g w.heap.size with h' | h'
      · exact h'
      · simp [Array.getElem?_eq_none h'] at hh) (by omega)]
    exact hh
theorem YOwn.old (h : YOwn e cf k w base L v) (hb : Below w.heap.size w w') : YOwn e cf k w' base L v := by
  refine ⟨h.1, ?_⟩
  rcases h.2 with hn | ⟨g, cap, cur, rfl, hg, hh, r⟩
  · exact .inl hn
  · refine .inr ⟨g, cap, cur, rfl, hg, ?_, r⟩
    rw [hb.block g (by
      rcases Nat.lt_or_ge g w.heap.size with h' | h'
      · exact h'
      · simp [Array.getElem?_eq_none h'] at hh)]
    exact hh
theorem YOwn.low (h : YOwn e cf k w base L v) {b : Nat} (hb : b < base) (i : Nat) (x : Value) : YOwn e cf k (w.setCell ⟨b, i, none⟩ x) base L v := by
  refine ⟨h.1, ?_⟩
  rcases h.2 with hn | ⟨g, cap, cur, rfl, hg, hh, r⟩
  · exact .inl hn
  · refine .inr ⟨g, cap, cur, rfl, hg, ?_, r⟩
    rw [Below.heap_setCell _ _ _ _ (show g ≠ b by omega)]
    exact hh
theorem YOwn.shape (h : YOwn e cf k w base L v) : ∃ a cap, v = .slice a L.length cap := by
  rcases h.2 with ⟨h1, h2⟩ | ⟨g, cap, cur, rfl, _⟩
  · exact ⟨none, 0, by rw [h1, h2]⟩
  · exact ⟨_, _, rfl⟩
end
section
variable (w : World) {o : Oper} {a : Act} {K : Act → World → Prop} {Q : Exit → Act → World → Prop}
theorem wp_ysnoc {α : Type} (s x : Operand) (t : TypeId) (ho : o.op = .call { callee := .builtin .append, args := #[s, x], argTypes := #[t, t] })
    (e : TypeId) (ht : Tryz.prog.underlying t = some (.slice e)) (z : Value) (k bytes : Nat) (hinfo : (Tryz.prog.info? e).map (fun i => (i.zero, i.size, i.bytes)) = some (some z, k, bytes)) (hzs : z.cells.size = k) (hk : 0 < k)
    (cf : α → List Value) (hf : ∀ x, (cf x).length = k) (h1 : ∀ x u, u ∈ cf x → u.oneCell' = true)
    (base : Nat) (L : List α) (v : Value) (hs : a.eval s = v) (hown : YOwn e cf k w base L v) (y : α) (b c : Nat) (hx : a.eval x = .slice (some ⟨b, 0, none⟩) 1 c) (hnew : OwnAt w b (cf y) e)
    (hlen : (L.length + 1) * bytes ≤ 140737488355328) (hl2 : L.length + 1 ≤ 140737488355328) (hbase : base ≤ w.heap.size)
    (h : ∀ g cap w', YOwn e cf k w' base (L ++ [y]) (.slice (some ⟨g, 0, none⟩) (L.length + 1) cap) → w.grownBy w' v.ownBlock → (v.ownBlock = some g ∨ g = w.heap.size) → g < w'.heap.size → K (a.put o.dst (.slice (some ⟨g, 0, none⟩) (L.length + 1) cap)) w') : o.wp Tryz.prog a w K Q := by
  obtain ⟨i0, hi, hz0, hz1, hz2⟩ := info_parts hinfo
  refine wp_append_lies (P := Tryz.prog) w s x t ho base e i0 z k bytes ht hi hz0 hz1 hz2 hzs hk v L.length (L.flatMap cf) hs hown ⟨b, 0, none⟩ 1 c (cf y) hx (by rw [hf, Nat.one_mul]) hnew.newsY (h1 y) (by decide) (by unfold maxLen; omega) hlen hbase _ rfl ?_
  intro g cap w' hown' hg hat hlt
  refine h g cap w' ?_ hg hat hlt
  unfold YOwn
  simpa using hown'
end
theorem infoYS : (Tryz.prog.info? 9).map (fun i => (i.zero, i.size, i.bytes)) = some (some (.string ⟨#[]⟩), 1, 16) := by kernel_rfl
theorem infoYA : (Tryz.prog.info? 85).map (fun i => (i.zero, i.size, i.bytes)) = some (some (.agg #[.string ⟨#[]⟩, .int .i64 0]), 2, 24) := by kernel_rfl
theorem infoYF : (Tryz.prog.info? 58).map (fun i => (i.zero, i.size, i.bytes)) = some (some (.agg #[.string ⟨#[]⟩, .slice none 0 0, .slice none 0 0, .slice none 0 0]), 4, 88) := by kernel_rfl
def ysCells (s : Bs) : List Value := [.string (strOf s)]
def yaCells (x : Ar) : List Value := [.string (strOf x.name), .int .i64 x.size]
abbrev YStrs (w : World) (base : Nat) (L : List Bs) (v : Value) : Prop := YOwn 9 ysCells 1 w base L v
abbrev YArs (w : World) (base : Nat) (L : List Ar) (v : Value) : Prop := YOwn 85 yaCells 2 w base L v
theorem ys_one (x : Bs) : ∀ u, u ∈ ysCells x → u.oneCell' = true := by
  intro u hu
  simp only [ysCells, List.mem_cons, List.not_mem_nil, or_false] at hu
  subst hu; rfl
theorem ya_one (x : Ar) : ∀ u, u ∈ yaCells x → u.oneCell' = true := by
  intro u hu
  simp only [yaCells, List.mem_cons, List.not_mem_nil, or_false] at hu
  rcases hu with rfl | rfl <;> rfl
section
variable (w : World) {o : Oper} {a : Act} {K : Act → World → Prop} {Q : Exit → Act → World → Prop}
theorem wp_ystr (s x : Operand) (ho : o.op = .call { callee := .builtin .append, args := #[s, x], argTypes := #[24, 24] })
    (base : Nat) (L : List Bs) (v : Value) (hs : a.eval s = v) (hown : YStrs w base L v) (y : Bs) (b c : Nat) (hx : a.eval x = .slice (some ⟨b, 0, none⟩) 1 c) (hnew : OwnAt w b (ysCells y) 9)
    (hlen : L.length ≤ 1000000) (hbase : base ≤ w.heap.size)
    (h : ∀ g cap w', YStrs w' base (L ++ [y]) (.slice (some ⟨g, 0, none⟩) (L.length + 1) cap) → w.grownBy w' v.ownBlock → (v.ownBlock = some g ∨ g = w.heap.size) → g < w'.heap.size → K (a.put o.dst (.slice (some ⟨g, 0, none⟩) (L.length + 1) cap)) w') : o.wp Tryz.prog a w K Q :=
  wp_ysnoc w s x _ ho 9 Tryz.underlying24 _ 1 16 infoYS rfl (by decide) ysCells (fun _ => rfl) ys_one base L v hs hown y b c hx hnew (by omega) (by omega) hbase h
theorem wp_yarr (s x : Operand) (ho : o.op = .call { callee := .builtin .append, args := #[s, x], argTypes := #[31, 31] })
    (base : Nat) (L : List Ar) (v : Value) (hs : a.eval s = v) (hown : YArs w base L v) (y : Ar) (b c : Nat) (hx : a.eval x = .slice (some ⟨b, 0, none⟩) 1 c) (hnew : OwnAt w b (yaCells y) 85)
    (hlen : L.length ≤ 1000000) (hbase : base ≤ w.heap.size)
    (h : ∀ g cap w', YArs w' base (L ++ [y]) (.slice (some ⟨g, 0, none⟩) (L.length + 1) cap) → w.grownBy w' v.ownBlock → (v.ownBlock = some g ∨ g = w.heap.size) → g < w'.heap.size → K (a.put o.dst (.slice (some ⟨g, 0, none⟩) (L.length + 1) cap)) w') : o.wp Tryz.prog a w K Q :=
  wp_ysnoc w s x _ ho 85 Tryz.underlying31 _ 2 24 infoYA rfl (by decide) yaCells (fun _ => rfl) ya_one base L v hs hown y b c hx hnew (by omega) (by omega) hbase h
end
theorem flatY_at {α : Type} (f : α → List Value) (k : Nat) (hf : ∀ x, (f x).length = k) : ∀ (l : List α) (i q : Nat) (p : α), l[i]? = some p → q < k → (l.flatMap f)[i * k + q]? = (f p)[q]?
  | [], i, q, p, h, _ => by simp at h
  | x :: l, 0, q, p, h, hq => by
    simp at h; subst h
    rw [List.flatMap_cons, List.getElem?_append_left (by rw [hf]; omega)]
    simp
  | x :: l, i + 1, q, p, h, hq => by
    simp at h
    have := flatY_at f k hf l i q p h hq
    rw [List.flatMap_cons, List.getElem?_append_right (by rw [hf, Nat.succ_mul]; omega), hf, ← this]
    congr 1; rw [Nat.succ_mul]; omega
theorem YStrs.strs {w : World} {base : Nat} {L : List Bs} {v : Value} (h : YStrs w base L v) (hl : L.length ≤ 1000000) : StrsAt (base ≤ ·) w L v := by
  obtain ⟨a, cap, rfl⟩ := h.shape
  rcases h.2 with ⟨h1, h2⟩ | ⟨g, cap2, cur, hv, hg, hh, hc, r⟩
  · injection h1 with h1 h3 h4
    exact ⟨a, cap, 0, 0, rfl, by omega, by show _ ≤ _; omega, .inl h2, fun i hi => by omega⟩
  · injection hv with hv1 _ hv3
    subst hv1 hv3
    refine ⟨_, cap, g, 0, rfl, hc, by show _ ≤ _; omega, .inr ⟨rfl, hg⟩, fun i hi => ?_⟩
    have h1 := h.cellAt (i * 1 + 0) (by omega)
    rw [flatY_at ysCells 1 (fun _ => rfl) L i 0 L[i] (List.getElem?_eq_getElem hi) (by decide)] at h1
    have e : (⟨g, i * 1 + 0, none⟩ : Addr) = ⟨g, 0 + i, none⟩ := by simp
    rw [e] at h1
    rw [h1]
    simp [ysCells, List.getD_eq_getElem?_getD, List.getElem?_eq_getElem hi]
theorem YArs.ars {w : World} {base : Nat} {L : List Ar} {v : Value} (h : YArs w base L v) (hl : L.length ≤ 1000000) : ArsAt (base ≤ ·) w L v := by
  obtain ⟨a, cap, rfl⟩ := h.shape
  rcases h.2 with ⟨h1, h2⟩ | ⟨g, cap2, cur, hv, hg, hh, hc, r⟩
  · injection h1 with h1 h3 h4
    exact ⟨a, cap, 0, 0, rfl, by omega, by show _ ≤ _; omega, .inl h2, fun i hi => by omega⟩
  · injection hv with hv1 _ hv3
    subst hv1 hv3
    refine ⟨_, cap, g, 0, rfl, hc, by show _ ≤ _; omega, .inr ⟨rfl, hg⟩, fun i hi => ⟨?_, ?_⟩⟩
    · have h1 := h.cellAt (i * 2 + 0) (by omega)
      rw [flatY_at yaCells 2 (fun _ => rfl) L i 0 L[i] (List.getElem?_eq_getElem hi) (by decide)] at h1
      have e : (⟨g, i * 2 + 0, none⟩ : Addr) = ⟨g, 0 + i * 2, none⟩ := by simp
      rw [e] at h1
      rw [h1]
      simp [yaCells, arAt, List.getD_eq_getElem?_getD, List.getElem?_eq_getElem hi]
    · have h1 := h.cellAt (i * 2 + 1) (by omega)
      rw [flatY_at yaCells 2 (fun _ => rfl) L i 1 L[i] (List.getElem?_eq_getElem hi) (by decide)] at h1
      have e : (⟨g, i * 2 + 1, none⟩ : Addr) = ⟨g, 0 + i * 2 + 1, none⟩ := by simp
      rw [e] at h1
      rw [h1]
      simp [yaCells, arAt, List.getD_eq_getElem?_getD, List.getElem?_eq_getElem hi]
end Go.Proofs.YtcfpfnoldgnloaaGreatDoor

namespace Go.Proofs.YtcfpfnoldgnloaaGreatDoor
open Go.RowKit
set_option maxHeartbeats 8000000
set_option maxRecDepth 100000

structure VY3 (p tb cb ob base : Nat) (nm : Bs) (va : Option Addr) (vc : Nat) (S : List Bs) (ov : Value) (s : Bs) (l r : List Tk) (err : Option Int) (W : World) (L : Nat → Bool) (nb : Nat) (gn : Nat) (cn : Nat) (z5 z6 z7 z8 z9 z10 z11 : Value) (wx : World) : Prop where
  ord : L 7 = true → ∀ j, j < 7 → L j = true
  p4_3 : L 4 = true → L 3 = true
  p5_3 : L 5 = true → L 3 = true
  p5_4 : L 5 = true → L 4 = true
  p7_5 : L 7 = true → L 5 = true
  c0 : L 0 = true → z5 = .pointer (some ⟨ob, 1, none⟩)
  c1 : L 1 = true → z6 = .slice va S.length vc
  c2 : L 2 = true → z7 = .pointer (some ⟨p, 0, none⟩)
  c3 : L 3 = true → z8 = .string (strOf s)
  c4 : L 4 = true → z9 = .slice (some ⟨nb, 0, none⟩) 1 1
  c5 : L 5 = true → z10 = .slice (some ⟨gn, 0, none⟩) (S.length + 1) cn
  c6 : L 6 = true → z11 = .pointer (some ⟨ob, 1, none⟩)
  fr : AFr p ob base W wx
  pa : L 3 = false → Ps wx p tb l
  pb : L 3 = true → Ps wx p tb r
  c : OwnAt wx cb [.pointer (some ⟨p, 0, none⟩)] 64
  x : L 7 = false → OwnAt wx ob [.string (strOf nm), .slice va S.length vc, ov, .slice none 0 0] 58
  x7 : L 7 = true → OwnAt wx ob [.string (strOf nm), .slice (some ⟨gn, 0, none⟩) (S.length + 1) cn, ov, .slice none 0 0] 58
  ra : L 5 = false → YStrs wx base S (.slice va S.length vc)
  rb : L 5 = true → YStrs wx base (S ++ [s]) (.slice (some ⟨gn, 0, none⟩) (S.length + 1) cn) ∧ ((Value.slice va S.length vc).ownBlock = some gn ∨ W.heap.size ≤ gn)
  g4 : L 4 = true → L 5 = false → OwnAt wx nb (ysCells s) 9 ∧ base ≤ nb
  gr : ∀ b, b < W.heap.size → base ≤ b → (Value.slice va S.length vc).ownBlock ≠ some b → wx.heap[b]? = W.heap[b]?
def IY3 (p tb cb ob base : Nat) (nm : Bs) (va : Option Addr) (vc : Nat) (S : List Bs) (ov : Value) (s : Bs) (l r : List Tk) (err : Option Int) (W : World) (q2 q3 q4 : Value) (L : Nat → Bool) (a' : Act) (w' : World) : Prop :=
  ∃ nb : Nat, ∃ gn : Nat, ∃ cn : Nat, ∃ z5 z6 z7 z8 z9 z10 z11 : Value, VY3 p tb cb ob base nm va vc S ov s l r err W L nb gn cn z5 z6 z7 z8 z9 z10 z11 w' ∧ a' = ⟨[.pointer (some ⟨cb, 0, none⟩), .pointer (some ⟨ob, 0, none⟩), q2, q3, q4, z5, z6, z7, z8, z9, z10, z11].toArray, []⟩
def RY3 (p tb cb ob base : Nat) (nm : Bs) (va : Option Addr) (vc : Nat) (S : List Bs) (ov : Value) (s : Bs) (l r : List Tk) (err : Option Int) (W : World) (q2 q3 q4 : Value) (a' : Act) (w' : World) : Prop :=
  ∃ nb : Nat, ∃ gn : Nat, ∃ cn : Nat, (AFr p ob base W w' ∧ Ps w' p tb r ∧ OwnAt w' cb [.pointer (some ⟨p, 0, none⟩)] 64 ∧ OwnAt w' ob [.string (strOf nm), .slice (some ⟨gn, 0, none⟩) (S.length + 1) cn, ov, .slice none 0 0] 58 ∧ YStrs w' base (S ++ [s]) (.slice (some ⟨gn, 0, none⟩) (S.length + 1) cn) ∧ ((Value.slice va S.length vc).ownBlock = some gn ∨ W.heap.size ≤ gn) ∧ (∀ b, b < W.heap.size → base ≤ b → (Value.slice va S.length vc).ownBlock ≠ some b → w'.heap[b]? = W.heap[b]?)) ∧ a' = ⟨[.pointer (some ⟨cb, 0, none⟩), .pointer (some ⟨ob, 0, none⟩), q2, q3, q4, .pointer (some ⟨ob, 1, none⟩), .slice va S.length vc, .pointer (some ⟨p, 0, none⟩), .string (strOf s), .slice (some ⟨nb, 0, none⟩) 1 1, .slice (some ⟨gn, 0, none⟩) (S.length + 1) cn, .pointer (some ⟨ob, 1, none⟩)].toArray, []⟩
theorem reg_Y3 (p tb cb ob base : Nat) (nm : Bs) (va : Option Addr) (vc : Nat) (S : List Bs) (ov : Value) (s : Bs) (l r : List Tk) (err : Option Int) (W : World) (hps : Ps W p tb l) (hc : OwnAt W cb [.pointer (some ⟨p, 0, none⟩)] 64) (ho : OwnAt W ob [.string (strOf nm), .slice va S.length vc, ov, .slice none 0 0] 58) (hrow : YStrs W base S (.slice va S.length vc)) (hpc : p < cb) (hco : cb < ob) (hob : ob < base) (hbs : base ≤ W.heap.size) (hll : S.length ≤ 1000000) (HNM : Hid (∀ w1, Ps w1 p tb l → Calls Tryz.prog 65 #[.pointer (some ⟨p, 0, none⟩)] w1 fun e w' => match err with | some n => e = lineV n ∧ SFr p w1 w' | none => e = .returned (.string (strOf s)) ∧ SFr p w1 w' ∧ Ps w' p tb r)) (Q : Exit → Act → World → Prop) (hQ : ∀ n a' w', err = some n → a'.defers = [] → AFr p ob base W w' → Q (.panic [{ v := .iface 110 (.agg #[.int .i64 n]), recovered := false }]) a' w') (q2 q3 q4 q5 q6 q7 q8 q9 q10 q11 : Value) (J K' : Act → World → Prop) (hJ : ∀ a' w', RY3 p tb cb ob base nm va vc S ov s l r err W q2 q3 q4 a' w' → J a' w') (hM : ∀ a' w', Met J a' w' → K' a' w') :
    Code.wp Tryz.prog ((Tryz.f126.body.bind (regOf 1)).getD .skip) (Exit.then K' Q) ⟨[.pointer (some ⟨cb, 0, none⟩), .pointer (some ⟨ob, 0, none⟩), q2, q3, q4, q5, q6, q7, q8, q9, q10, q11].toArray, []⟩ W := by
  have HPS := Lib.hid hps; have HC := Lib.hid hc; have HO := Lib.hid ho; have HROW := Lib.hid hrow; have HQ := Lib.hid hQ
  clear hps hc ho hrow hQ
  conv => arg 2; whnf
  (try dsimp only)
  refine region_by (by kernel_rfl) (by kernel_rfl) (IY3 p tb cb ob base nm va vc S ov s l r err W q2 q3 q4) ?_ ?_ ?_
  · exact ⟨0, 0, 0, q5, q6, q7, q8, q9, q10, q11, ⟨(fun h => by cases h), (fun h => by cases h), (fun h => by cases h), (fun h => by cases h), (fun h => by cases h), (fun h => by cases h), (fun h => by cases h), (fun h => by cases h), (fun h => by cases h), (fun h => by cases h), (fun h => by cases h), (fun h => by cases h), ((AFr.refl p ob base W).old (Below.refl _ _).drew), (fun _ => HPS.out.old (Below.refl _ _).drew), (fun h => by cases h), (HC.out.old (Below.refl _ _).drew), (fun _ => HO.out.old (Below.refl _ _).drew), (fun h => by cases h), (fun _ => HROW.out.old (Below.refl _ _).drew), (fun h => by cases h), (fun h => fun _ => by cases h), (fun b _ _ _ => rfl)⟩, rfl⟩
  · intro L act wx k hI hk hl hd
    obtain ⟨nb, gn, cn, z5, z6, z7, z8, z9, z10, z11, hV, rfl⟩ := hI
    have hk : k = 0 ∨ k = 1 ∨ k = 2 ∨ k = 3 ∨ k = 4 ∨ k = 5 ∨ k = 6 ∨ k = 7 := by
      have : k < 8 := hk
      omega
    rcases hk with rfl | rfl | rfl | rfl | rfl | rfl | rfl | rfl
    · have nl := kf hV.ord hl
      refine op_at _ rfl rfl (fun K' hK => ?_)
      conv => arg 2; whnf
      go_wp2_with fail
      exact ⟨nb, gn, cn, .pointer (some ⟨ob, 1, none⟩), z6, z7, z8, z9, z10, z11, ⟨(kl nl), (kq hV.p4_3), (kq hV.p5_3), (kq hV.p5_4), (kq hV.p7_5), (fun _ => rfl), (kc hV.c1), (kc hV.c2), (kc hV.c3), (kc hV.c4), (kc hV.c5), (kc hV.c6), hV.fr, (fun h0 => hV.pa (kb h0)), (kc hV.pb), hV.c, (fun h0 => hV.x (kb h0)), (kl nl), (fun h0 => hV.ra (kb h0)), (kc hV.rb), (fun h0 => fun h1 => hV.g4 (kb h0) (kb h1)), hV.gr⟩, rfl⟩
    · have nl := kf hV.ord hl
      have d0 : L 0 = true := hd _ rfl ⟨0, .data⟩ (by simp) rfl
      obtain rfl := (hV.c0 d0).symm
      have l7 : L 7 = false := nl
      have ho := hV.x l7
      have x1 := ho.at 1 _ rfl
      refine op_at _ rfl rfl (fun K' hK => ?_)
      conv => arg 2; whnf
      go_wp2_with fail
      exact ⟨nb, gn, cn, .pointer (some ⟨ob, 1, none⟩), .slice va S.length vc, z7, z8, z9, z10, z11, ⟨(kl nl), (kq hV.p4_3), (kq hV.p5_3), (kq hV.p5_4), (kq hV.p7_5), (kc hV.c0), (fun _ => rfl), (kc hV.c2), (kc hV.c3), (kc hV.c4), (kc hV.c5), (kc hV.c6), hV.fr, (fun h0 => hV.pa (kb h0)), (kc hV.pb), hV.c, (fun h0 => hV.x (kb h0)), (kl nl), (fun h0 => hV.ra (kb h0)), (kc hV.rb), (fun h0 => fun h1 => hV.g4 (kb h0) (kb h1)), hV.gr⟩, rfl⟩
    · have nl := kf hV.ord hl
      have hc0 := hV.c.at 0 _ rfl
      refine op_at _ rfl rfl (fun K' hK => ?_)
      conv => arg 2; whnf
      go_wp2_with fail
      exact ⟨nb, gn, cn, z5, z6, .pointer (some ⟨p, 0, none⟩), z8, z9, z10, z11, ⟨(kl nl), (kq hV.p4_3), (kq hV.p5_3), (kq hV.p5_4), (kq hV.p7_5), (kc hV.c0), (kc hV.c1), (fun _ => rfl), (kc hV.c3), (kc hV.c4), (kc hV.c5), (kc hV.c6), hV.fr, (fun h0 => hV.pa (kb h0)), (kc hV.pb), hV.c, (fun h0 => hV.x (kb h0)), (kl nl), (fun h0 => hV.ra (kb h0)), (kc hV.rb), (fun h0 => fun h1 => hV.g4 (kb h0) (kb h1)), hV.gr⟩, rfl⟩
    · have nl := kf hV.ord hl
      have d2 : L 2 = true := hd _ rfl ⟨2, .data⟩ (by simp) rfl
      obtain rfl := (hV.c2 d2).symm
      have hps := hV.pa hl
      refine op_at _ rfl rfl (fun K' hK => ?_)
      conv => arg 2; whnf
      have HPX := Lib.hid hps
      have HFX := Lib.hid hV.fr
      clear hps
      go_wp2_with fail
      refine (HNM.out _ HPX.out).mono ?_
      intro e w7 he
      cases err with
      | some n =>
        obtain ⟨rfl, hf⟩ := he
        unfold lineV
        have HF := Lib.hid (HFX.out.trans (AFr.of_sfr hf))
        clear hf hK hV
        go_wp2_with fail
        exact HQ.out n _ _ rfl rfl HF.out
      | none =>
      obtain ⟨rfl, hf7, hp7⟩ := he
      go_wp2_with fail
      exact ⟨nb, gn, cn, z5, z6, .pointer (some ⟨p, 0, none⟩), .string (strOf s), z9, z10, z11, ⟨(kl nl), (fun _ => upd_same L 3), (fun _ => upd_same L 3), (kq hV.p5_4), (kq hV.p7_5), (kc hV.c0), (kc hV.c1), (kc hV.c2), (fun _ => rfl), (kc hV.c4), (kc hV.c5), (kc hV.c6), (hV.fr.trans (AFr.of_sfr hf7)), (ks), (fun _ => hp7), (hV.c.sfr hf7 (by omega)), (fun h => (hV.x (kb h)).sfr hf7 (by omega)), (kl nl), (fun h => (hV.ra (kb h)).sfr hf7 (by omega)), (fun h => ⟨YOwn.sfr (hV.rb (kb h)).1 hf7 (by omega), (hV.rb (kb h)).2⟩), (fun h1 h2 => ⟨OwnAt.sfr (hV.g4 (kb h1) (kb h2)).1 hf7 (by have := (hV.g4 (kb h1) (kb h2)).2; omega), (hV.g4 (kb h1) (kb h2)).2⟩), (fun b h1 h2 h3 => (hf7.block b (by have := hV.fr.size; omega) (by omega)).trans (hV.gr b h1 h2 h3))⟩, rfl⟩
    · have nl := kf hV.ord hl
      have d3 : L 3 = true := hd _ rfl ⟨3, .data⟩ (by simp) rfl
      obtain rfl := (hV.c3 d3).symm
      have hal : Below wx.heap.size wx (wx.alloc (.cells #[.string (strOf s)] 9)) := (Below.refl _ _).alloc (Nat.le_refl _) _
      have hfs := hV.fr.size
      refine op_at _ rfl rfl (fun K' hK => ?_)
      conv => arg 2; whnf
      go_wp2_with fail
      exact ⟨wx.heap.size, gn, cn, z5, z6, z7, .string (strOf s), .slice (some ⟨(wx.heap.size), 0, none⟩) 1 1, z10, z11, ⟨(kl nl), (kd (d3)), (kq hV.p5_3), (fun _ => upd_same L 4), (kq hV.p7_5), (kc hV.c0), (kc hV.c1), (kc hV.c2), (kc hV.c3), (fun _ => rfl), (kc hV.c5), (kc hV.c6), (AFr.old (hV.fr) hal), (fun h0 => Ps.old (hV.pa (kb h0)) hal), (fun h0 => Ps.old (hV.pb (kb h0)) hal), (OwnAt.old (hV.c) hal), (fun h0 => OwnAt.old (hV.x (kb h0)) hal), (kl nl), (fun h0 => YOwn.old (hV.ra (kb h0)) hal), (kn hV.p5_4 hl), (fun _ _ => ⟨OwnAt.new wx (ysCells s) 9, by omega⟩), (fun b h1 h2 h3 => (hal.block b (by omega)).trans ((hV.gr) b h1 h2 h3))⟩, rfl⟩
    · have nl := kf hV.ord hl
      have d1 : L 1 = true := hd _ rfl ⟨1, .data⟩ (by simp) rfl
      obtain rfl := (hV.c1 d1).symm
      have d3 : L 3 = true := hd _ rfl ⟨3, .chain⟩ (by simp) rfl
      have d4 : L 4 = true := hd _ rfl ⟨4, .data⟩ (by simp) rfl
      obtain rfl := (hV.c4 d4).symm
      have d3 : L 3 = true := hd _ rfl ⟨3, .chain⟩ (by simp) rfl
      have hg4 := hV.g4 d4 hl
      have hra := hV.ra hl
      have hfs := hV.fr.size
      refine op_at _ rfl rfl (fun K' hK => ?_)
      conv => arg 2; whnf
      refine wp_ystr wx _ _ rfl base S (.slice va S.length vc) rfl hra s nb 1 rfl hg4.1 hll (Nat.le_trans hbs hfs) ?_
      intro g2 cap2 w2 hr2 hg2 ha2 hl2
      have hrg : ∀ k, (Value.slice va S.length vc).ownBlock = some k → base ≤ k := fun k e => (hra.lt k e).1
      go_wp2_with fail
      exact ⟨nb, g2, cap2, z5, .slice va S.length vc, z7, z8, .slice (some ⟨nb, 0, none⟩) 1 1, .slice (some ⟨(g2), 0, none⟩) (S.length + 1) (cap2), z11, ⟨(kl nl), (kq hV.p4_3), (kd (d3)), (kd (d4)), (fun _ => upd_same L 5), (kc hV.c0), (kc hV.c1), (kc hV.c2), (kc hV.c3), (kc hV.c4), (fun _ => rfl), (kc hV.c6), (hV.fr.grown hg2 hrg), (fun h => by rw [upd_ne L (by decide)] at h; rw [d3] at h; cases h), (fun _ => (hV.pb d3).grown hg2 hrg (by omega)), (hV.c.grew hg2 (fun e => by have := hrg _ e; omega)), (fun h => (hV.x (kb h)).grew hg2 (fun e => by have := hrg _ e; omega)), (kl nl), (ks), (fun _ => ⟨hr2, by rcases ha2 with h | h; exact .inl h; exact .inr (by omega)⟩), (fun _ => ks), (fun b h1 h2 h3 => (hg2.block b (by omega) (fun e => h3 e.symm)).trans (hV.gr b h1 h2 h3))⟩, rfl⟩
    · have nl := kf hV.ord hl
      refine op_at _ rfl rfl (fun K' hK => ?_)
      conv => arg 2; whnf
      go_wp2_with fail
      exact ⟨nb, gn, cn, z5, z6, z7, z8, z9, z10, .pointer (some ⟨ob, 1, none⟩), ⟨(kl nl), (kq hV.p4_3), (kq hV.p5_3), (kq hV.p5_4), (kq hV.p7_5), (kc hV.c0), (kc hV.c1), (kc hV.c2), (kc hV.c3), (kc hV.c4), (kc hV.c5), (fun _ => rfl), hV.fr, (fun h0 => hV.pa (kb h0)), (kc hV.pb), hV.c, (fun h0 => hV.x (kb h0)), (kl nl), (fun h0 => hV.ra (kb h0)), (kc hV.rb), (fun h0 => fun h1 => hV.g4 (kb h0) (kb h1)), hV.gr⟩, rfl⟩
    · have before : ∀ j, j < 7 → L j = true := fun j hj => by
        have hj : j = 0 ∨ j = 1 ∨ j = 2 ∨ j = 3 ∨ j = 4 ∨ j = 5 ∨ j = 6 := by omega
        rcases hj with rfl | rfl | rfl | rfl | rfl | rfl | rfl
        · exact hd _ rfl ⟨0, .phase⟩ (by simp) rfl
        · exact hd _ rfl ⟨1, .phase⟩ (by simp) rfl
        · exact hd _ rfl ⟨2, .phase⟩ (by simp) rfl
        · exact hd _ rfl ⟨3, .phase⟩ (by simp) rfl
        · exact hd _ rfl ⟨4, .phase⟩ (by simp) rfl
        · exact hd _ rfl ⟨5, .data⟩ (by simp) rfl
        · exact hd _ rfl ⟨6, .data⟩ (by simp) rfl
      have d5 : L 5 = true := hd _ rfl ⟨5, .data⟩ (by simp) rfl
      obtain rfl := (hV.c5 d5).symm
      have d6 : L 6 = true := hd _ rfl ⟨6, .data⟩ (by simp) rfl
      obtain rfl := (hV.c6 d6).symm
      have hx := hV.x hl
      have x1 := hx.at 1 _ rfl
      have fx := hx.fz 1
      have hxl := hx.lt
      have b3 := before 3 (by decide)
      have b5 := before 5 (by decide)
      refine op_at _ rfl rfl (fun K' hK => ?_)
      conv => arg 2; whnf
      go_wp2_with fail
      exact ⟨nb, gn, cn, z5, z6, z7, z8, z9, .slice (some ⟨gn, 0, none⟩) (S.length + 1) cn, .pointer (some ⟨ob, 1, none⟩), ⟨(fun _ j hj => by rw [upd_ne L (show j ≠ 7 by omega)]; exact before j hj), (kq hV.p4_3), (kq hV.p5_3), (kq hV.p5_4), (kd (before 5 (by decide))), (kc hV.c0), (kc hV.c1), (kc hV.c2), (kc hV.c3), (kc hV.c4), (kc hV.c5), (kc hV.c6), (hV.fr.set _ _), (fun h => by rw [upd_ne L (by decide)] at h; rw [b3] at h; cases h), (fun _ => (hV.pb b3).other (by omega) _ _), (hV.c.other (by omega) _ _), (ks), (fun _ => hx.set 1 (.slice (some ⟨gn, 0, none⟩) (S.length + 1) cn)), (fun h => by rw [upd_ne L (by decide)] at h; rw [b5] at h; cases h), (fun _ => ⟨YOwn.low (hV.rb b5).1 hob _ _, (hV.rb b5).2⟩), (fun _ h => by rw [upd_ne L (by decide)] at h; rw [b5] at h; cases h), (fun b h1 h2 h3 => (Below.heap_setCell _ _ _ _ (show b ≠ ob by omega)).trans (hV.gr b h1 h2 h3))⟩, rfl⟩
  · intro L act wx hI hall
    obtain ⟨nb, gn, cn, z5, z6, z7, z8, z9, z10, z11, hV, rfl⟩ := hI
    obtain rfl := (hV.c0 (hall 0 (by decide))).symm
    obtain rfl := (hV.c1 (hall 1 (by decide))).symm
    obtain rfl := (hV.c2 (hall 2 (by decide))).symm
    obtain rfl := (hV.c3 (hall 3 (by decide))).symm
    obtain rfl := (hV.c4 (hall 4 (by decide))).symm
    obtain rfl := (hV.c5 (hall 5 (by decide))).symm
    obtain rfl := (hV.c6 (hall 6 (by decide))).symm
    exact hM _ _ (Met.intro (hJ _ _ ⟨nb, gn, cn, ⟨hV.fr, hV.pb (hall 3 (by decide)), hV.c, hV.x7 (hall 7 (by decide)), (hV.rb (hall 5 (by decide))).1, (hV.rb (hall 5 (by decide))).2, hV.gr⟩, rfl⟩))
structure VY4 (p tb cb ob base : Nat) (nm : Bs) (va : Option Addr) (vc : Nat) (S : List Bs) (ov : Value) (s : Bs) (l r : List Tk) (err : Option Int) (W : World) (L : Nat → Bool) (nb : Nat) (gn : Nat) (cn : Nat) (z16 z17 z18 z19 z20 z21 z22 : Value) (wx : World) : Prop where
  ord : L 7 = true → ∀ j, j < 7 → L j = true
  p4_3 : L 4 = true → L 3 = true
  p5_3 : L 5 = true → L 3 = true
  p5_4 : L 5 = true → L 4 = true
  p7_5 : L 7 = true → L 5 = true
  c0 : L 0 = true → z16 = .pointer (some ⟨ob, 2, none⟩)
  c1 : L 1 = true → z17 = .slice va S.length vc
  c2 : L 2 = true → z18 = .pointer (some ⟨p, 0, none⟩)
  c3 : L 3 = true → z19 = .string (strOf s)
  c4 : L 4 = true → z20 = .slice (some ⟨nb, 0, none⟩) 1 1
  c5 : L 5 = true → z21 = .slice (some ⟨gn, 0, none⟩) (S.length + 1) cn
  c6 : L 6 = true → z22 = .pointer (some ⟨ob, 2, none⟩)
  fr : AFr p ob base W wx
  pa : L 3 = false → Ps wx p tb l
  pb : L 3 = true → Ps wx p tb r
  c : OwnAt wx cb [.pointer (some ⟨p, 0, none⟩)] 64
  x : L 7 = false → OwnAt wx ob [.string (strOf nm), ov, .slice va S.length vc, .slice none 0 0] 58
  x7 : L 7 = true → OwnAt wx ob [.string (strOf nm), ov, .slice (some ⟨gn, 0, none⟩) (S.length + 1) cn, .slice none 0 0] 58
  ra : L 5 = false → YStrs wx base S (.slice va S.length vc)
  rb : L 5 = true → YStrs wx base (S ++ [s]) (.slice (some ⟨gn, 0, none⟩) (S.length + 1) cn) ∧ ((Value.slice va S.length vc).ownBlock = some gn ∨ W.heap.size ≤ gn)
  g4 : L 4 = true → L 5 = false → OwnAt wx nb (ysCells s) 9 ∧ base ≤ nb
  gr : ∀ b, b < W.heap.size → base ≤ b → (Value.slice va S.length vc).ownBlock ≠ some b → wx.heap[b]? = W.heap[b]?
def IY4 (p tb cb ob base : Nat) (nm : Bs) (va : Option Addr) (vc : Nat) (S : List Bs) (ov : Value) (s : Bs) (l r : List Tk) (err : Option Int) (W : World) (q0 q1 q3 q4 q6 q7 q8 q9 q10 q11 q12 q13 q14 q15 q23 q24 q25 q26 q27 q28 q29 : Value) (L : Nat → Bool) (a' : Act) (w' : World) : Prop :=
  ∃ nb : Nat, ∃ gn : Nat, ∃ cn : Nat, ∃ z16 z17 z18 z19 z20 z21 z22 : Value, VY4 p tb cb ob base nm va vc S ov s l r err W L nb gn cn z16 z17 z18 z19 z20 z21 z22 w' ∧ a' = ⟨[q0, q1, .pointer (some ⟨cb, 0, none⟩), q3, q4, .pointer (some ⟨ob, 0, none⟩), q6, q7, q8, q9, q10, q11, q12, q13, q14, q15, z16, z17, z18, z19, z20, z21, z22, q23, q24, q25, q26, q27, q28, q29].toArray, []⟩
def RY4 (p tb cb ob base : Nat) (nm : Bs) (va : Option Addr) (vc : Nat) (S : List Bs) (ov : Value) (s : Bs) (l r : List Tk) (err : Option Int) (W : World) (q0 q1 q3 q4 q6 q7 q8 q9 q10 q11 q12 q13 q14 q15 q23 q24 q25 q26 q27 q28 q29 : Value) (a' : Act) (w' : World) : Prop :=
  ∃ nb : Nat, ∃ gn : Nat, ∃ cn : Nat, (AFr p ob base W w' ∧ Ps w' p tb r ∧ OwnAt w' cb [.pointer (some ⟨p, 0, none⟩)] 64 ∧ OwnAt w' ob [.string (strOf nm), ov, .slice (some ⟨gn, 0, none⟩) (S.length + 1) cn, .slice none 0 0] 58 ∧ YStrs w' base (S ++ [s]) (.slice (some ⟨gn, 0, none⟩) (S.length + 1) cn) ∧ ((Value.slice va S.length vc).ownBlock = some gn ∨ W.heap.size ≤ gn) ∧ (∀ b, b < W.heap.size → base ≤ b → (Value.slice va S.length vc).ownBlock ≠ some b → w'.heap[b]? = W.heap[b]?)) ∧ a' = ⟨[q0, q1, .pointer (some ⟨cb, 0, none⟩), q3, q4, .pointer (some ⟨ob, 0, none⟩), q6, q7, q8, q9, q10, q11, q12, q13, q14, q15, .pointer (some ⟨ob, 2, none⟩), .slice va S.length vc, .pointer (some ⟨p, 0, none⟩), .string (strOf s), .slice (some ⟨nb, 0, none⟩) 1 1, .slice (some ⟨gn, 0, none⟩) (S.length + 1) cn, .pointer (some ⟨ob, 2, none⟩), q23, q24, q25, q26, q27, q28, q29].toArray, []⟩
theorem reg_Y4 (p tb cb ob base : Nat) (nm : Bs) (va : Option Addr) (vc : Nat) (S : List Bs) (ov : Value) (s : Bs) (l r : List Tk) (err : Option Int) (W : World) (hps : Ps W p tb l) (hc : OwnAt W cb [.pointer (some ⟨p, 0, none⟩)] 64) (ho : OwnAt W ob [.string (strOf nm), ov, .slice va S.length vc, .slice none 0 0] 58) (hrow : YStrs W base S (.slice va S.length vc)) (hpc : p < cb) (hco : cb < ob) (hob : ob < base) (hbs : base ≤ W.heap.size) (hll : S.length ≤ 1000000) (HNM : Hid (∀ w1, Ps w1 p tb l → Calls Tryz.prog 65 #[.pointer (some ⟨p, 0, none⟩)] w1 fun e w' => match err with | some n => e = lineV n ∧ SFr p w1 w' | none => e = .returned (.string (strOf s)) ∧ SFr p w1 w' ∧ Ps w' p tb r)) (Q : Exit → Act → World → Prop) (hQ : ∀ n a' w', err = some n → a'.defers = [] → AFr p ob base W w' → Q (.panic [{ v := .iface 110 (.agg #[.int .i64 n]), recovered := false }]) a' w') (q0 q1 q3 q4 q6 q7 q8 q9 q10 q11 q12 q13 q14 q15 q16 q17 q18 q19 q20 q21 q22 q23 q24 q25 q26 q27 q28 q29 : Value) (J K' : Act → World → Prop) (hJ : ∀ a' w', RY4 p tb cb ob base nm va vc S ov s l r err W q0 q1 q3 q4 q6 q7 q8 q9 q10 q11 q12 q13 q14 q15 q23 q24 q25 q26 q27 q28 q29 a' w' → J a' w') (hM : ∀ a' w', Met J a' w' → K' a' w') :
    Code.wp Tryz.prog ((Tryz.f68.body.bind (regOf 5)).getD .skip) (Exit.then K' Q) ⟨[q0, q1, .pointer (some ⟨cb, 0, none⟩), q3, q4, .pointer (some ⟨ob, 0, none⟩), q6, q7, q8, q9, q10, q11, q12, q13, q14, q15, q16, q17, q18, q19, q20, q21, q22, q23, q24, q25, q26, q27, q28, q29].toArray, []⟩ W := by
  have HPS := Lib.hid hps; have HC := Lib.hid hc; have HO := Lib.hid ho; have HROW := Lib.hid hrow; have HQ := Lib.hid hQ
  clear hps hc ho hrow hQ
  conv => arg 2; whnf
  (try dsimp only)
  refine region_by (by kernel_rfl) (by kernel_rfl) (IY4 p tb cb ob base nm va vc S ov s l r err W q0 q1 q3 q4 q6 q7 q8 q9 q10 q11 q12 q13 q14 q15 q23 q24 q25 q26 q27 q28 q29) ?_ ?_ ?_
  · exact ⟨0, 0, 0, q16, q17, q18, q19, q20, q21, q22, ⟨(fun h => by cases h), (fun h => by cases h), (fun h => by cases h), (fun h => by cases h), (fun h => by cases h), (fun h => by cases h), (fun h => by cases h), (fun h => by cases h), (fun h => by cases h), (fun h => by cases h), (fun h => by cases h), (fun h => by cases h), ((AFr.refl p ob base W).old (Below.refl _ _).drew), (fun _ => HPS.out.old (Below.refl _ _).drew), (fun h => by cases h), (HC.out.old (Below.refl _ _).drew), (fun _ => HO.out.old (Below.refl _ _).drew), (fun h => by cases h), (fun _ => HROW.out.old (Below.refl _ _).drew), (fun h => by cases h), (fun h => fun _ => by cases h), (fun b _ _ _ => rfl)⟩, rfl⟩
  · intro L act wx k hI hk hl hd
    obtain ⟨nb, gn, cn, z16, z17, z18, z19, z20, z21, z22, hV, rfl⟩ := hI
    have hk : k = 0 ∨ k = 1 ∨ k = 2 ∨ k = 3 ∨ k = 4 ∨ k = 5 ∨ k = 6 ∨ k = 7 := by
      have : k < 8 := hk
      omega
    rcases hk with rfl | rfl | rfl | rfl | rfl | rfl | rfl | rfl
    · have nl := kf hV.ord hl
      refine op_at _ rfl rfl (fun K' hK => ?_)
      conv => arg 2; whnf
      go_wp2_with fail
      exact ⟨nb, gn, cn, .pointer (some ⟨ob, 2, none⟩), z17, z18, z19, z20, z21, z22, ⟨(kl nl), (kq hV.p4_3), (kq hV.p5_3), (kq hV.p5_4), (kq hV.p7_5), (fun _ => rfl), (kc hV.c1), (kc hV.c2), (kc hV.c3), (kc hV.c4), (kc hV.c5), (kc hV.c6), hV.fr, (fun h0 => hV.pa (kb h0)), (kc hV.pb), hV.c, (fun h0 => hV.x (kb h0)), (kl nl), (fun h0 => hV.ra (kb h0)), (kc hV.rb), (fun h0 => fun h1 => hV.g4 (kb h0) (kb h1)), hV.gr⟩, rfl⟩
    · have nl := kf hV.ord hl
      have d0 : L 0 = true := hd _ rfl ⟨0, .data⟩ (by simp) rfl
      obtain rfl := (hV.c0 d0).symm
      have l7 : L 7 = false := nl
      have ho := hV.x l7
      have x1 := ho.at 2 _ rfl
      refine op_at _ rfl rfl (fun K' hK => ?_)
      conv => arg 2; whnf
      go_wp2_with fail
      exact ⟨nb, gn, cn, .pointer (some ⟨ob, 2, none⟩), .slice va S.length vc, z18, z19, z20, z21, z22, ⟨(kl nl), (kq hV.p4_3), (kq hV.p5_3), (kq hV.p5_4), (kq hV.p7_5), (kc hV.c0), (fun _ => rfl), (kc hV.c2), (kc hV.c3), (kc hV.c4), (kc hV.c5), (kc hV.c6), hV.fr, (fun h0 => hV.pa (kb h0)), (kc hV.pb), hV.c, (fun h0 => hV.x (kb h0)), (kl nl), (fun h0 => hV.ra (kb h0)), (kc hV.rb), (fun h0 => fun h1 => hV.g4 (kb h0) (kb h1)), hV.gr⟩, rfl⟩
    · have nl := kf hV.ord hl
      have hc0 := hV.c.at 0 _ rfl
      refine op_at _ rfl rfl (fun K' hK => ?_)
      conv => arg 2; whnf
      go_wp2_with fail
      exact ⟨nb, gn, cn, z16, z17, .pointer (some ⟨p, 0, none⟩), z19, z20, z21, z22, ⟨(kl nl), (kq hV.p4_3), (kq hV.p5_3), (kq hV.p5_4), (kq hV.p7_5), (kc hV.c0), (kc hV.c1), (fun _ => rfl), (kc hV.c3), (kc hV.c4), (kc hV.c5), (kc hV.c6), hV.fr, (fun h0 => hV.pa (kb h0)), (kc hV.pb), hV.c, (fun h0 => hV.x (kb h0)), (kl nl), (fun h0 => hV.ra (kb h0)), (kc hV.rb), (fun h0 => fun h1 => hV.g4 (kb h0) (kb h1)), hV.gr⟩, rfl⟩
    · have nl := kf hV.ord hl
      have d2 : L 2 = true := hd _ rfl ⟨2, .data⟩ (by simp) rfl
      obtain rfl := (hV.c2 d2).symm
      have hps := hV.pa hl
      refine op_at _ rfl rfl (fun K' hK => ?_)
      conv => arg 2; whnf
      have HPX := Lib.hid hps
      have HFX := Lib.hid hV.fr
      clear hps
      go_wp2_with fail
      refine (HNM.out _ HPX.out).mono ?_
      intro e w7 he
      cases err with
      | some n =>
        obtain ⟨rfl, hf⟩ := he
        unfold lineV
        have HF := Lib.hid (HFX.out.trans (AFr.of_sfr hf))
        clear hf hK hV
        go_wp2_with fail
        exact HQ.out n _ _ rfl rfl HF.out
      | none =>
      obtain ⟨rfl, hf7, hp7⟩ := he
      go_wp2_with fail
      exact ⟨nb, gn, cn, z16, z17, .pointer (some ⟨p, 0, none⟩), .string (strOf s), z20, z21, z22, ⟨(kl nl), (fun _ => upd_same L 3), (fun _ => upd_same L 3), (kq hV.p5_4), (kq hV.p7_5), (kc hV.c0), (kc hV.c1), (kc hV.c2), (fun _ => rfl), (kc hV.c4), (kc hV.c5), (kc hV.c6), (hV.fr.trans (AFr.of_sfr hf7)), (ks), (fun _ => hp7), (hV.c.sfr hf7 (by omega)), (fun h => (hV.x (kb h)).sfr hf7 (by omega)), (kl nl), (fun h => (hV.ra (kb h)).sfr hf7 (by omega)), (fun h => ⟨YOwn.sfr (hV.rb (kb h)).1 hf7 (by omega), (hV.rb (kb h)).2⟩), (fun h1 h2 => ⟨OwnAt.sfr (hV.g4 (kb h1) (kb h2)).1 hf7 (by have := (hV.g4 (kb h1) (kb h2)).2; omega), (hV.g4 (kb h1) (kb h2)).2⟩), (fun b h1 h2 h3 => (hf7.block b (by have := hV.fr.size; omega) (by omega)).trans (hV.gr b h1 h2 h3))⟩, rfl⟩
    · have nl := kf hV.ord hl
      have d3 : L 3 = true := hd _ rfl ⟨3, .data⟩ (by simp) rfl
      obtain rfl := (hV.c3 d3).symm
      have hal : Below wx.heap.size wx (wx.alloc (.cells #[.string (strOf s)] 9)) := (Below.refl _ _).alloc (Nat.le_refl _) _
      have hfs := hV.fr.size
      refine op_at _ rfl rfl (fun K' hK => ?_)
      conv => arg 2; whnf
      go_wp2_with fail
      exact ⟨wx.heap.size, gn, cn, z16, z17, z18, .string (strOf s), .slice (some ⟨(wx.heap.size), 0, none⟩) 1 1, z21, z22, ⟨(kl nl), (kd (d3)), (kq hV.p5_3), (fun _ => upd_same L 4), (kq hV.p7_5), (kc hV.c0), (kc hV.c1), (kc hV.c2), (kc hV.c3), (fun _ => rfl), (kc hV.c5), (kc hV.c6), (AFr.old (hV.fr) hal), (fun h0 => Ps.old (hV.pa (kb h0)) hal), (fun h0 => Ps.old (hV.pb (kb h0)) hal), (OwnAt.old (hV.c) hal), (fun h0 => OwnAt.old (hV.x (kb h0)) hal), (kl nl), (fun h0 => YOwn.old (hV.ra (kb h0)) hal), (kn hV.p5_4 hl), (fun _ _ => ⟨OwnAt.new wx (ysCells s) 9, by omega⟩), (fun b h1 h2 h3 => (hal.block b (by omega)).trans ((hV.gr) b h1 h2 h3))⟩, rfl⟩
    · have nl := kf hV.ord hl
      have d1 : L 1 = true := hd _ rfl ⟨1, .data⟩ (by simp) rfl
      obtain rfl := (hV.c1 d1).symm
      have d3 : L 3 = true := hd _ rfl ⟨3, .chain⟩ (by simp) rfl
      have d4 : L 4 = true := hd _ rfl ⟨4, .data⟩ (by simp) rfl
      obtain rfl := (hV.c4 d4).symm
      have d3 : L 3 = true := hd _ rfl ⟨3, .chain⟩ (by simp) rfl
      have hg4 := hV.g4 d4 hl
      have hra := hV.ra hl
      have hfs := hV.fr.size
      refine op_at _ rfl rfl (fun K' hK => ?_)
      conv => arg 2; whnf
      refine wp_ystr wx _ _ rfl base S (.slice va S.length vc) rfl hra s nb 1 rfl hg4.1 hll (Nat.le_trans hbs hfs) ?_
      intro g2 cap2 w2 hr2 hg2 ha2 hl2
      have hrg : ∀ k, (Value.slice va S.length vc).ownBlock = some k → base ≤ k := fun k e => (hra.lt k e).1
      go_wp2_with fail
      exact ⟨nb, g2, cap2, z16, .slice va S.length vc, z18, z19, .slice (some ⟨nb, 0, none⟩) 1 1, .slice (some ⟨(g2), 0, none⟩) (S.length + 1) (cap2), z22, ⟨(kl nl), (kq hV.p4_3), (kd (d3)), (kd (d4)), (fun _ => upd_same L 5), (kc hV.c0), (kc hV.c1), (kc hV.c2), (kc hV.c3), (kc hV.c4), (fun _ => rfl), (kc hV.c6), (hV.fr.grown hg2 hrg), (fun h => by rw [upd_ne L (by decide)] at h; rw [d3] at h; cases h), (fun _ => (hV.pb d3).grown hg2 hrg (by omega)), (hV.c.grew hg2 (fun e => by have := hrg _ e; omega)), (fun h => (hV.x (kb h)).grew hg2 (fun e => by have := hrg _ e; omega)), (kl nl), (ks), (fun _ => ⟨hr2, by rcases ha2 with h | h; exact .inl h; exact .inr (by omega)⟩), (fun _ => ks), (fun b h1 h2 h3 => (hg2.block b (by omega) (fun e => h3 e.symm)).trans (hV.gr b h1 h2 h3))⟩, rfl⟩
    · have nl := kf hV.ord hl
      refine op_at _ rfl rfl (fun K' hK => ?_)
      conv => arg 2; whnf
      go_wp2_with fail
      exact ⟨nb, gn, cn, z16, z17, z18, z19, z20, z21, .pointer (some ⟨ob, 2, none⟩), ⟨(kl nl), (kq hV.p4_3), (kq hV.p5_3), (kq hV.p5_4), (kq hV.p7_5), (kc hV.c0), (kc hV.c1), (kc hV.c2), (kc hV.c3), (kc hV.c4), (kc hV.c5), (fun _ => rfl), hV.fr, (fun h0 => hV.pa (kb h0)), (kc hV.pb), hV.c, (fun h0 => hV.x (kb h0)), (kl nl), (fun h0 => hV.ra (kb h0)), (kc hV.rb), (fun h0 => fun h1 => hV.g4 (kb h0) (kb h1)), hV.gr⟩, rfl⟩
    · have before : ∀ j, j < 7 → L j = true := fun j hj => by
        have hj : j = 0 ∨ j = 1 ∨ j = 2 ∨ j = 3 ∨ j = 4 ∨ j = 5 ∨ j = 6 := by omega
        rcases hj with rfl | rfl | rfl | rfl | rfl | rfl | rfl
        · exact hd _ rfl ⟨0, .phase⟩ (by simp) rfl
        · exact hd _ rfl ⟨1, .phase⟩ (by simp) rfl
        · exact hd _ rfl ⟨2, .phase⟩ (by simp) rfl
        · exact hd _ rfl ⟨3, .phase⟩ (by simp) rfl
        · exact hd _ rfl ⟨4, .phase⟩ (by simp) rfl
        · exact hd _ rfl ⟨5, .data⟩ (by simp) rfl
        · exact hd _ rfl ⟨6, .data⟩ (by simp) rfl
      have d5 : L 5 = true := hd _ rfl ⟨5, .data⟩ (by simp) rfl
      obtain rfl := (hV.c5 d5).symm
      have d6 : L 6 = true := hd _ rfl ⟨6, .data⟩ (by simp) rfl
      obtain rfl := (hV.c6 d6).symm
      have hx := hV.x hl
      have x1 := hx.at 2 _ rfl
      have fx := hx.fz 2
      have hxl := hx.lt
      have b3 := before 3 (by decide)
      have b5 := before 5 (by decide)
      refine op_at _ rfl rfl (fun K' hK => ?_)
      conv => arg 2; whnf
      go_wp2_with fail
      exact ⟨nb, gn, cn, z16, z17, z18, z19, z20, .slice (some ⟨gn, 0, none⟩) (S.length + 1) cn, .pointer (some ⟨ob, 2, none⟩), ⟨(fun _ j hj => by rw [upd_ne L (show j ≠ 7 by omega)]; exact before j hj), (kq hV.p4_3), (kq hV.p5_3), (kq hV.p5_4), (kd (before 5 (by decide))), (kc hV.c0), (kc hV.c1), (kc hV.c2), (kc hV.c3), (kc hV.c4), (kc hV.c5), (kc hV.c6), (hV.fr.set _ _), (fun h => by rw [upd_ne L (by decide)] at h; rw [b3] at h; cases h), (fun _ => (hV.pb b3).other (by omega) _ _), (hV.c.other (by omega) _ _), (ks), (fun _ => hx.set 2 (.slice (some ⟨gn, 0, none⟩) (S.length + 1) cn)), (fun h => by rw [upd_ne L (by decide)] at h; rw [b5] at h; cases h), (fun _ => ⟨YOwn.low (hV.rb b5).1 hob _ _, (hV.rb b5).2⟩), (fun _ h => by rw [upd_ne L (by decide)] at h; rw [b5] at h; cases h), (fun b h1 h2 h3 => (Below.heap_setCell _ _ _ _ (show b ≠ ob by omega)).trans (hV.gr b h1 h2 h3))⟩, rfl⟩
  · intro L act wx hI hall
    obtain ⟨nb, gn, cn, z16, z17, z18, z19, z20, z21, z22, hV, rfl⟩ := hI
    obtain rfl := (hV.c0 (hall 0 (by decide))).symm
    obtain rfl := (hV.c1 (hall 1 (by decide))).symm
    obtain rfl := (hV.c2 (hall 2 (by decide))).symm
    obtain rfl := (hV.c3 (hall 3 (by decide))).symm
    obtain rfl := (hV.c4 (hall 4 (by decide))).symm
    obtain rfl := (hV.c5 (hall 5 (by decide))).symm
    obtain rfl := (hV.c6 (hall 6 (by decide))).symm
    exact hM _ _ (Met.intro (hJ _ _ ⟨nb, gn, cn, ⟨hV.fr, hV.pb (hall 3 (by decide)), hV.c, hV.x7 (hall 7 (by decide)), (hV.rb (hall 5 (by decide))).1, (hV.rb (hall 5 (by decide))).2, hV.gr⟩, rfl⟩))
end Go.Proofs.YtcfpfnoldgnloaaGreatDoor
