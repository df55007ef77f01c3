/-
  Where blocks lead to, as the code reckons it. Plain functions, and rows of rows in memory. No condition.
  Next: the blocks to which each block leads. Condition: labels and names are no longer than memory.
-/
import Derived.Test.YtlkfmnabbmceeaaGreatDoorBlkC
import Derived.Test.YtlkfmnabbmceeaaGreatDoorBlkB
set_option linter.unusedVariables false
set_option linter.unusedSimpArgs false
namespace Go.Proofs.YtlkfmnabbmceeaaGreatDoor
open Go.RowKit
set_option maxHeartbeats 4000000
set_option maxRecDepth 100000

/-- The map from places to blocks, as the code fills it. -/
def blkF (B : List Int) (n : Int) : Nat → Int → Option Int
  | 0 => putZ (fun _ => none) n (B.length : Int)
  | i + 1 => putZ (blkF B n i) (B.getD i 0) (i : Int)
theorem blkF_is (B : List Int) (n : Int) (hp : B.Pairwise (· < ·)) (hlt : ∀ b, b ∈ B → b < n) (k : Int) : ∀ i, i ≤ B.length → blkF B n i k = if k = n then some (B.length : Int) else ((B.take i).findIdx? (fun b => b == k)).map (fun j => ((j : Nat) : Int))
  | 0, _ => by
    show putZ _ _ _ _ = _
    unfold putZ
    by_cases h : k = n
    · rw [if_pos h, if_pos h]
    · rw [if_neg h, if_neg h]; rfl
  | i + 1, hi => by
    show putZ _ _ _ _ = _
    have hib : i < B.length := by omega
    have hg : B.getD i 0 = B[i] := by rw [List.getD_eq_getElem?_getD, List.getElem?_eq_getElem hib]; rfl
    have hbn := hlt _ (List.getElem_mem hib)
    rw [hg]
    unfold putZ
    rw [blkF_is B n hp hlt k i (by omega)]
    have ht : B.take (i + 1) = B.take i ++ [B[i]] := by rw [List.take_add_one, List.getElem?_eq_getElem hib]; rfl
    rw [ht, List.findIdx?_append]
    by_cases hk : k = B[i]
    · subst hk
      rw [if_pos rfl, if_neg (by omega)]
      have hno : (B.take i).findIdx? (fun b => b == B[i]) = none := by
        rw [List.findIdx?_eq_none_iff]
        intro x hx
        obtain ⟨j, hj, rfl⟩ := List.mem_iff_getElem.1 hx
        have hji : j < i := by have := hj; rw [List.length_take] at this; omega
        have := List.pairwise_iff_getElem.1 hp j i (by omega) hib hji
        rw [List.getElem_take]
        simp only [beq_eq_false_iff_ne, ne_eq]
        omega
      rw [hno]
      have hl : (B.take i).length = i := by rw [List.length_take]; omega
      simp [hl]
    · rw [if_neg hk]
      by_cases hn : k = n
      · rw [if_pos hn, if_pos hn]
      · rw [if_neg hn, if_neg hn]
        have hf : ([B[i]] : List Int).findIdx? (fun b => b == k) = none := by
          simp only [List.findIdx?_eq_none_iff, List.mem_singleton]
          rintro x rfl
          simp only [beq_eq_false_iff_ne, ne_eq]
          exact fun e => hk e.symm
        rw [hf]
        simp
theorem blkF_end (B : List Int) (n : Int) (hp : B.Pairwise (· < ·)) (hlt : ∀ b, b ∈ B → b < n) (k : Int) : (blkF B n B.length k).getD 0 = blkOf B n k := by
  rw [blkF_is B n hp hlt k _ (Nat.le_refl _), List.take_length]
  unfold blkOf
  by_cases h : k = n
  · rw [if_pos h, if_pos h]; rfl
  · rw [if_neg h, if_neg h]
    cases B.findIdx? (fun b => b == k) <;> rfl
theorem beg_lt (I : List Ins) (T : List Int) : ∀ b, b ∈ begL I T → b < (I.length : Int) := by
  intro b hb
  obtain ⟨i, hi, rfl⟩ := List.mem_iff_getElem.1 hb
  obtain ⟨p, hp, hl, _⟩ := begL_get hi
  omega
theorem blkOf_range (B : List Int) (n k : Int) : 0 ≤ blkOf B n k ∧ blkOf B n k ≤ (B.length : Int) := by
  unfold blkOf
  split
  · omega
  · cases h : B.findIdx? (fun b => b == k) with
    | none => simp
    | some j =>
      have := (List.findIdx?_eq_some_iff_getElem.1 h).1
      simp; omega
theorem wpList_zins (w : World) {ops : Array Oper} {rest : List Oper} {o : Oper} {a : Act} {Q : Exit → Act → World → Prop} (hg : o.guard = none) (m x v : Operand) (hop : o.op = Op.insert 56 m x v) {B n : Nat} {f : Int → Option Int} (hm : a.eval m = .map (some B)) (h : ZMapIs w B n f) (hn : n < 9223372036854775807) (s : Int) (hx : a.eval x = .int .i64 s) (hs : -9223372036854775808 ≤ s ∧ s ≤ 9223372036854775807)
    (z : Int) (hz : a.eval v = .int .i64 z) (hr : -9223372036854775808 ≤ z ∧ z ≤ 9223372036854775807)
    (hK : ∀ w', ZMapIs w' B (n + 1) (putZ f s z) → w.grownBy w' (some B) → wpList Tryz.prog ops Q rest (a.put o.dst undef) w') : wpList Tryz.prog ops Q (o :: rest) a w := by
  refine wpList_plain hg fun K' hK' => ?_
  obtain ⟨w', hrun, h1, h2⟩ := h.put hn s hs z hr
  unfold Oper.wp
  simp [execOp, hop, hm, hx, hz, hrun, Result.andThen]
  exact hK' _ _ (hK w' h1 h2)
/-! ### Rows of rows -/
abbrev Sl := Option Addr × Nat × Nat
def slV (s : Sl) : Value := .slice s.1 s.2.1 s.2.2
def slCells (s : Sl) : List Value := [slV s]
theorem slCells_len (x : Sl) : (slCells x).length = 1 := rfl
theorem slCells_one (x : Sl) : ∀ u, u ∈ slCells x → u.oneCell' = true := by
  intro u hu
  simp only [slCells, List.mem_cons, List.not_mem_nil, or_false] at hu
  subst hu; rfl
theorem infoSl : (Tryz.prog.info? 29).map (fun i => (i.zero, i.size, i.bytes)) = some (some (.slice none 0 0), 1, 24) := by kernel_rfl
theorem wpList_slSnoc (w : World) {ops : Array Oper} {rest : List Oper} {o : Oper} {a : Act} {Q : Exit → Act → World → Prop} (hgd : o.guard = none) (s x : Operand) (ho : o.op = .call { callee := .builtin .append, args := #[s, x], argTypes := #[38, 38] })
    (base : Nat) (L : List Sl) (v : Value) (hs : a.eval s = v) (hown : RwOwn 29 slCells 1 w base L v) (y : Sl) (b c : Nat) (hx : a.eval x = .slice (some ⟨b, 0, none⟩) 1 c) (hnew : OwnAt w b (slCells y) 29)
    (hlen : L.length ≤ 1000000) (hbase : base ≤ w.heap.size)
    (h : ∀ g cap w', RwOwn 29 slCells 1 w' base (L ++ [y]) (.slice (some ⟨g, 0, none⟩) (L.length + 1) cap) → w.grownBy w' v.ownBlock → (v.ownBlock = some g ∨ g = w.heap.size) → g < w'.heap.size → wpList Tryz.prog ops Q rest (a.put o.dst (.slice (some ⟨g, 0, none⟩) (L.length + 1) cap)) w') : wpList Tryz.prog ops Q (o :: rest) a w :=
  wpList_rsnoc w hgd s x _ ho 29 Tryz.underlying38 _ 1 24 infoSl rfl (by decide) slCells slCells_len slCells_one base L v hs hown y b c hx hnew (by omega) (by omega) hbase h
theorem NumsAt.grown {w w' : World} {L : List Int} {u : Value} (h : NumsAt w L u) {row : Option Nat} (hg : w.grownBy w' row) (hr : u.ownBlock = none ∨ u.ownBlock ≠ row) : NumsAt w' L u := by
  obtain ⟨a, cap, b, off, rfl, h2, h3, h4⟩ := h
  refine ⟨a, cap, b, off, rfl, h2, h3, fun i p hi q x hq => ?_⟩
  have hc := h4 i p hi q x hq
  rcases h2 with h2 | h2
  · have := (List.getElem?_eq_some_iff.1 hi).1; omega
  · subst h2
    have hb := World.block_lt_of_cell? w _ hc
    have hne : some b ≠ row := by
      rcases hr with hr | hr
      · cases hr
      · exact hr
    have e : w'.heap[b]? = w.heap[b]? := hg.block b hb hne
    unfold World.cell? at hc ⊢
    rw [show w'.heap[(⟨b, off + (i * 1 + q), none⟩ : Addr).block]? = w.heap[(⟨b, off + (i * 1 + q), none⟩ : Addr).block]? from e]
    exact hc
def NxtOwn (w : World) (base : Nat) (L : List (List Int)) (v : Value) : Prop :=
  ∃ vs : List Sl, RwOwn 29 slCells 1 w base vs v ∧ vs.length = L.length ∧ ∀ (i : Nat) (l : List Int), L[i]? = some l → ∃ s, vs[i]? = some s ∧ NumsAt w l (slV s) ∧ ((slV s).ownBlock = none ∨ (∃ g, (slV s).ownBlock = some g ∧ g < w.heap.size ∧ v.ownBlock ≠ some g))
def NxtAt (w : World) (L : List (List Int)) (v : Value) : Prop :=
  ∃ vs : List Sl, RwAt slCells 1 w vs v ∧ vs.length = L.length ∧ ∀ (i : Nat) (l : List Int), L[i]? = some l → ∃ s, vs[i]? = some s ∧ NumsAt w l (slV s)
theorem NxtAt.old {w w' : World} {L : List (List Int)} {v : Value} (h : NxtAt w L v) (hb : Below w.heap.size w w') : NxtAt w' L v := by
  obtain ⟨vs, h1, h2, h3⟩ := h
  refine ⟨vs, RwAt.old h1 hb, h2, fun i l hi => ?_⟩
  obtain ⟨s, g1, g2⟩ := h3 i l hi
  exact ⟨s, g1, g2.old hb⟩
theorem NxtAt.shape {w : World} {L : List (List Int)} {v : Value} (h : NxtAt w L v) : ∃ a cap, v = .slice a L.length cap := by
  obtain ⟨vs, h1, h2, h3⟩ := h
  rw [← h2]; exact RwAt.shape h1
theorem NxtAt.at {w : World} {L : List (List Int)} {a : Option Addr} {n cap : Nat} (h : NxtAt w L (.slice a n cap)) {i : Nat} (hi : i < L.length) : ∃ b off c ad m, a = some ⟨b, off, none⟩ ∧ b < w.heap.size ∧ w.cell? ⟨b, off + i, none⟩ = some (.slice ad m c) ∧ NumsAt w L[i] (.slice ad m c) := by
  obtain ⟨vs, h1, h2, h3⟩ := h
  obtain ⟨s, g1, g2⟩ := h3 i L[i] (List.getElem?_eq_getElem hi)
  obtain ⟨b, off, e, hc⟩ := RwAt.at h1 g1
  have h0 := hc 0 _ rfl
  rw [Nat.mul_one, Nat.add_zero] at h0
  exact ⟨b, off, s.2.2, s.1, s.2.1, e, World.block_lt_of_cell? _ _ h0, h0, g2⟩
theorem NxtOwn.zero (w : World) (base : Nat) : NxtOwn w base [] (.slice none 0 0) := ⟨[], RwOwn.zero _ _ _ _ _, rfl, fun i l h => by simp at h⟩
theorem NxtOwn.shape {w : World} {base : Nat} {L : List (List Int)} {v : Value} (h : NxtOwn w base L v) : ∃ a cap, v = .slice a L.length cap := by
  obtain ⟨vs, h1, h2, h3⟩ := h
  rw [← h2]; exact RwOwn.shape h1
theorem NxtOwn.toAt {w : World} {base : Nat} {L : List (List Int)} {v : Value} (h : NxtOwn w base L v) (hl : L.length ≤ 140737488355328) : NxtAt w L v := by
  obtain ⟨vs, h1, h2, h3⟩ := h
  refine ⟨vs, RwOwn.nilv h1 (by omega) slCells_len, h2, fun i l hi => ?_⟩
  obtain ⟨s, g1, g2, _⟩ := h3 i l hi
  exact ⟨s, g1, g2⟩
theorem NxtOwn.old {w w' : World} {base : Nat} {L : List (List Int)} {v : Value} (h : NxtOwn w base L v) (hb : Below w.heap.size w w') : NxtOwn w' base L v := by
  obtain ⟨vs, h1, h2, h3⟩ := h
  refine ⟨vs, RwOwn.old h1 hb, h2, fun i l hi => ?_⟩
  obtain ⟨s, g1, g2, g3⟩ := h3 i l hi
  refine ⟨s, g1, g2.old hb, ?_⟩
  rcases g3 with g3 | ⟨g, e1, e2, e3⟩
  · exact .inl g3
  · exact .inr ⟨g, e1, Nat.lt_of_lt_of_le e2 hb.size, e3⟩
theorem nxt_snoc {w w' : World} {base m : Nat} {L : List (List Int)} {vs : List Sl} {v v' : Value} {l : List Int} {s : Sl}
    (hlen : vs.length = L.length) (h3 : ∀ (i : Nat) (l : List Int), L[i]? = some l → ∃ s, vs[i]? = some s ∧ NumsAt w l (slV s) ∧ ((slV s).ownBlock = none ∨ (∃ g, (slV s).ownBlock = some g ∧ g < w.heap.size ∧ v.ownBlock ≠ some g)))
    (hl : NumsAt w l (slV s)) (hs : (slV s).ownBlock = none ∨ (∃ g, (slV s).ownBlock = some g ∧ g < w.heap.size ∧ m ≤ g)) (hv : ∀ g, v.ownBlock = some g → g < m)
    (ho : RwOwn 29 slCells 1 w' base (vs ++ [s]) v') (hg : w.grownBy w' v.ownBlock) {g : Nat} (hv' : v'.ownBlock = some g) (hat : v.ownBlock = some g ∨ g = w.heap.size) : NxtOwn w' base (L ++ [l]) v' := by
  have key : ∀ (l : List Int) (s : Sl), NumsAt w l (slV s) → ((slV s).ownBlock = none ∨ (∃ g, (slV s).ownBlock = some g ∧ g < w.heap.size ∧ v.ownBlock ≠ some g)) →
      NumsAt w' l (slV s) ∧ ((slV s).ownBlock = none ∨ (∃ g, (slV s).ownBlock = some g ∧ g < w'.heap.size ∧ v'.ownBlock ≠ some g)) := by
    intro l s g2 g3
    refine ⟨NumsAt.grown g2 hg ?_, ?_⟩
    · rcases g3 with g3 | ⟨k, e1, e2, e3⟩
      · exact .inl g3
      · exact .inr (by rw [e1]; exact fun e => e3 e.symm)
    · rcases g3 with g3 | ⟨k, e1, e2, e3⟩
      · exact .inl g3
      · refine .inr ⟨k, e1, Nat.lt_of_lt_of_le e2 hg.size, ?_⟩
        rw [hv']
        intro e
        have e : g = k := by injection e
        subst e
        rcases hat with h | h
        · exact e3 h
        · omega
  refine ⟨vs ++ [s], ho, by simp [hlen], fun i l' hi => ?_⟩
  by_cases hil : i < L.length
  · rw [List.getElem?_append_left hil] at hi
    obtain ⟨s', g1, g2, g3⟩ := h3 i l' hi
    exact ⟨s', by rw [List.getElem?_append_left (by omega)]; exact g1, key _ _ g2 g3⟩
  · rw [List.getElem?_append_right (by omega)] at hi
    have hi0 : i - L.length = 0 := by
      by_cases h : i - L.length = 0
      · exact h
      · rw [List.getElem?_eq_none (by simp; omega)] at hi; cases hi
    rw [hi0] at hi
    have e : l = l' := by simpa using hi
    subst e
    refine ⟨s, by rw [List.getElem?_append_right (by omega), hlen, hi0]; rfl, key _ _ hl ?_⟩
    rcases hs with hs | ⟨k, e1, e2, e3⟩
    · exact .inl hs
    · exact .inr ⟨k, e1, e2, fun e => by have := hv k e; omega⟩
end Go.Proofs.YtlkfmnabbmceeaaGreatDoor

namespace Go.Proofs.YtlkfmnabbmceeaaGreatDoor
open Go.RowKit
set_option maxHeartbeats 4000000
set_option maxRecDepth 100000

theorem nextL_take (I : List Ins) (T : List Int) (i : Nat) (h : i < (begL I T).length) : (nextL I T).take (i + 1) = (nextL I T).take i ++ [nextOf I T i] := by
  have e : (nextL I T)[i]? = some (nextOf I T i) := by unfold nextL; rw [List.getElem?_map, List.getElem?_range h]; rfl
  rw [List.take_add_one, e]; rfl
theorem nextL_len (I : List Ins) (T : List Int) : (nextL I T).length = (begL I T).length := by unfold nextL; simp
theorem rawNext_eq (I : List Ins) (T : List Int) (i last : Nat) (x : Ins) (t : Int) (B : List Int) (n : Nat) (hB : begL I T = B) (hn : I.length = n) (hl : (endOf B (n : Int) i).toNat - 1 = last) (hx : I.getD last (zeroI 0) = x) (ht : T.getD last 0 = t) :
    rawNext I T i = (if 0 ≤ t then [blkOf B (n : Int) t] else []) ++ (if x.op = 25 ∨ x.op = 26 then [] else if x.op = 27 then (landI I).map (blkOf B (n : Int)) else [(i : Int) + 1]) := by
  subst hB hn hl hx ht; rfl
/-- What the last instruction of a block is, and where it leads. -/
theorem last_facts {I : List Ins} {T : List Int} (hl : T.length = I.length) {i : Nat} (hi : i < (begL I T).length) : ∃ last : Nat, endOf (begL I T) (I.length : Int) i = (last : Int) + 1 ∧ last < I.length := by
  have h1 := at_mono (I := I) (T := T) (show i < i + 1 by omega) (by omega)
  have h2 := (at_le (I := I) (T := T) i).1
  have h3 := (at_le (I := I) (T := T) (i + 1)).2
  rw [endOf_eq]
  exact ⟨(atOf (begL I T) (I.length : Int) (i + 1)).toNat - 1, by omega, by omega⟩
theorem land_len (I : List Ins) : (landI I).length ≤ I.length := by rw [← landN_end]; exact landN_len I _
theorem own_sub {v9 v7 : Value} {m n : Nat} (h : v9.ownBlock = none ∨ v9.ownBlock = v7.ownBlock) (hk : ∀ k, v7.ownBlock = some k → m ≤ k ∧ k < n) : v9.ownBlock = none ∨ ∃ g, v9.ownBlock = some g ∧ g < n ∧ m ≤ g := by
  rcases h with h | h
  · exact .inl h
  · cases hv : v7.ownBlock with
    | none => exact .inl (h.trans hv)
    | some k => exact .inr ⟨k, h.trans hv, (hk k hv).2, (hk k hv).1⟩
theorem own_more {v9 : Value} {m : Nat} {w : World} {o : Obj} (h : v9.ownBlock = none ∨ ∃ g, v9.ownBlock = some g ∧ g < w.heap.size ∧ m ≤ g) : v9.ownBlock = none ∨ ∃ g, v9.ownBlock = some g ∧ g < (w.alloc o).heap.size ∧ m ≤ g := by
  rcases h with h | ⟨g, h1, h2, h3⟩
  · exact .inl h
  · exact .inr ⟨g, h1, by simp; omega, h3⟩
theorem NxtOwn.row {w : World} {base : Nat} {L : List (List Int)} {v : Value} (h : NxtOwn w base L v) : ∃ vs : List Sl, RwOwn 29 slCells 1 w base vs v ∧ vs.length = L.length := by
  obtain ⟨vs, h1, h2, _⟩ := h; exact ⟨vs, h1, h2⟩
theorem NumsAt.old' {w w' : World} {L : List Int} {a : Option Addr} {n c : Nat} (h : NumsAt w L (.slice a n c)) (hb : Below w.heap.size w w') : ∀ {ad : Addr}, a = some ad → ∀ j u, (L.flatMap intCells)[j]? = some u → w'.cell? (ad.add j) = some u := by
  intro ad ha j u hu
  have hj : j < L.length := by have := (List.getElem?_eq_some_iff.1 hu).1; rwa [kflat_len] at this
  obtain ⟨b, off, e, _, hc⟩ := NumsAt.at (NumsAt.old h hb) hj
  rw [ha] at e
  injection e with e
  subst e
  have h3 : (⟨b, off, none⟩ : Addr).add j = ⟨b, off + j, none⟩ := by unfold Addr.add; split <;> simp_all
  rw [h3, hc]
  rw [int_flat, List.getElem?_map, List.getElem?_eq_getElem hj] at hu
  exact hu
theorem next_any (c : Cd) (va vl : Value) (w : World) (hc : CodeAt w c va vl) (hs : ShortC c) :
    Calls Tryz.prog 10 #[.agg #[va, vl]] w fun e w' => ∃ v, e = .returned v ∧ NxtAt w' (nextL (flatA c).1 (flatA c).2) v ∧ Below w.heap.size w w' := by
  obtain ⟨hn, hl, hT⟩ := flat_facts c
  obtain ⟨a, cap, rfl⟩ := RwAt.shape hc.2
  have HB0 := Lib.hid ((Below.refl w.heap.size w).alloc (Nat.le_refl _) (.cells #[va, .slice a c.lines.length cap] 26))
  have HC0 := Lib.hid (hc.old HB0.out)
  have HO0 := Lib.hid (OwnAt.new w [va, .slice a c.lines.length cap] 26)
  have HFL := Lib.hid (flat_any c va _ _ HC0.out hs)
  have HLA := Lib.hid (fun w' h => landings_any c va (.slice a c.lines.length cap) w' h hs)
  have HSP := Lib.hid (fun w' h => split_any2 c va (.slice a c.lines.length cap) w' h hs)
  clear hc hs
  have HBG := Lib.hid (fun v1 v2 w h1 h2 => begins_any (flatA c).1 (flatA c).2 v1 v2 w h1 h2 hl hn hT)
  have hbl := beg_len (flatA c).1 (flatA c).2
  have hll := land_len (flatA c).1
  have HTB := Lib.hid hT
  have HBF := Lib.hid (fun k => blkF_end (begL (flatA c).1 (flatA c).2) ((flatA c).1.length : Int) (begL_pair _ _) (beg_lt _ _) k)
  have HLF := Lib.hid (fun i hi => last_facts (I := (flatA c).1) (T := (flatA c).2) hl (i := i) hi)
  have HBV := Lib.hid (fun i h => begL_get (I := (flatA c).1) (T := (flatA c).2) (i := i) h)
  have HNT := Lib.hid (nextL_take (flatA c).1 (flatA c).2)
  have HNL := Lib.hid (nextL_len (flatA c).1 (flatA c).2)
  have HRN := Lib.hid (fun i last x t B n hB hn h1 h2 h3 => rawNext_eq (flatA c).1 (flatA c).2 i last x t B n hB hn h1 h2 h3)
  have HLN := Lib.hid (fun k h => land_iff (I := (flatA c).1) (k := k) |>.1 h)
  clear hT
  obtain ⟨X, hX⟩ : ∃ X, nextL (flatA c).1 (flatA c).2 = X := ⟨_, rfl⟩
  have hno : Hid (∀ i, nextOf (flatA c).1 (flatA c).2 i = Lib.compact ((rawNext (flatA c).1 (flatA c).2 i).mergeSort leI)) := Lib.hid (fun i => rfl)
  generalize nextOf (flatA c).1 (flatA c).2 = NX at *
  generalize rawNext (flatA c).1 (flatA c).2 = RN at *
  rw [hX] at HNT HNL ⊢
  clear hX
  obtain ⟨B, hB⟩ : ∃ B, begL (flatA c).1 (flatA c).2 = B := ⟨_, rfl⟩
  have HBQ := Lib.hid hB
  rw [hB] at HBG HBF HLF HBV HNT HNL HSP hbl
  obtain ⟨LD, hLD⟩ : ∃ LD, landI (flatA c).1 = LD := ⟨_, rfl⟩
  rw [hLD] at HLA HRN HLN hll
  clear hB hLD
  generalize (flatA c).1 = I at *
  generalize (flatA c).2 = T at *
  have hnI : (I.length : Int) ≤ 40000 := by omega
  go_enter Tryz.func10, Tryz.ntmps10
  go_wp2_with fail
  refine (HFL.out).mono ?_
  rintro e w5 ⟨v1, v2, rfl, h1, h2, hb5⟩
  obtain ⟨a1, c1, rfl⟩ := RwAt.shape h1
  obtain ⟨a2, c2, hs2⟩ := RwAt.shape h2
  rw [hl] at hs2
  subst hs2
  have HB5 := Lib.hid (HB0.out.trans (hb5.mono HB0.out.size))
  have HC5 := Lib.hid (HC0.out.old hb5)
  have HO5 := Lib.hid (HO0.out.old hb5)
  have HI5 := Lib.hid h1; have HT5 := Lib.hid h2
  have HBC := Lib.hid (HBG.out _ _ _ h1 h2)
  clear HFL h1 h2 hb5 HB0 HBG HC0 HO0
  go_wp2_with fail
  refine (HBC.out).mono ?_
  rintro e w6 ⟨v3, rfl, h3, hb6⟩
  obtain ⟨a3, c3, rfl⟩ := RwOwn.shape h3
  have HB6 := Lib.hid (HB5.out.trans (hb6.mono HB5.out.size))
  have HV6 := Lib.hid (RwOwn.nilv h3 (by omega) intCells_len)
  have HC6 := Lib.hid (HC5.out.old hb6)
  have HO6 := Lib.hid (HO5.out.old hb6)
  have HI6 := Lib.hid (HI5.out.old hb6); have HT6 := Lib.hid (HT5.out.old hb6)
  clear HBC h3 hb6 HB5 HC5 HO5 HI5 HT5
  obtain ⟨N, hN⟩ : ∃ N, I.length = N := ⟨_, rfl⟩
  have HN := Lib.hid hN
  rw [hN] at hn hl hnI hbl hll HBV HBF HLF HSP ⊢
  clear hN
  obtain ⟨M, hM⟩ : ∃ M, B.length = M := ⟨_, rfl⟩
  have HM := Lib.hid hM
  have hsl := split_len B (N : Int)
  rw [hM] at hbl hsl HV6 HNL HNT ⊢
  clear hM
  have hMI : (M : Int) ≤ 40000 := by omega
  have hNr : -9223372036854775808 ≤ (N : Int) ∧ (N : Int) ≤ 9223372036854775807 := by omega
  have hMr : -9223372036854775808 ≤ (M : Int) ∧ (M : Int) ≤ 9223372036854775807 := by omega
  have hmm := @run_makeMap Tryz.prog
  have hbF0 : Hid (blkF B (N : Int) 0 = putZ (fun _ => none) (N : Int) (M : Int)) := Lib.hid (by rw [← HM.out]; rfl)
  go_wp2_with (refine wpList_zins _ rfl _ _ _ rfl rfl (ZMapIs.made _) (by decide) _ rfl hNr _ rfl hMr ?_; intro w7 hm7 hg7; have HM7 := Lib.hid hm7; have HG7 := Lib.hid hg7; clear hm7 hg7)
  have hbX := below_map ((Below.refl w6.heap.size w6).alloc (Nat.le_refl _) (.map #[] 0)) HG7.out (Nat.le_refl _) (by simp)
  have HM0 : Hid (ZMapIs w7 w6.heap.size 1 (blkF B (N : Int) 0)) := Lib.hid (by rw [hbF0.out]; exact HM7.out)
  have HB7 := Lib.hid hbX
  have HMS : Hid (w6.heap.size < w7.heap.size) := Lib.hid HM7.out.lt
  clear HM7 HG7 hbX hmm hbF0
  go_loopw [32] (fun s32 wr => ∃ i : Nat, i ≤ M ∧ s32 = .int .i64 i ∧ Hid (ZMapIs wr w6.heap.size (i + 1) (blkF B (N : Int) i)) ∧ Hid (Below w6.heap.size w6 wr)) (fun s32 _ => M - (intOf s32).toNat)
  case atStart => exact ⟨0, Nat.zero_le _, rfl, HM0, HB7⟩
  case round =>
    obtain ⟨i, hi, rfl, HMR, HBR⟩ := hrel
    by_cases hlt : i < M
    · have hlB : i < B.length := by rw [HM.out]; exact hlt
      obtain ⟨bi, oi, eb, hbi, i0⟩ := NumsAt.at (HV6.out.old HBR.out) hlB
      cases eb
      obtain ⟨p, hp, hpn, _⟩ := HBV.out i hlB
      have hbs : blkF B (N : Int) (i + 1) = putZ (blkF B (N : Int) i) (p : Int) (i : Int) := by rw [← hp]; show putZ _ (B.getD i 0) _ = _; rw [List.getD_eq_getElem?_getD, List.getElem?_eq_getElem hlB]; rfl
      have HBS := Lib.hid hbs
      rw [hp] at i0
      have hpr : -9223372036854775808 ≤ (p : Int) ∧ (p : Int) ≤ 9223372036854775807 := by omega
      have hir : -9223372036854775808 ≤ (i : Int) ∧ (i : Int) ≤ 9223372036854775807 := by omega
      clear hp hbs
      go_wp2_with (at_mapUpdate; refine wpList_zput _ rfl _ _ _ rfl rfl HMR.out (by omega) _ rfl hpr _ rfl hir ?_; intro w9 hm9 hg9; have HM9 := Lib.hid hm9; have HB9 := Lib.hid (below_map HBR.out hg9 (Nat.le_refl _) HBR.out.size); clear hm9 hg9)
      exact ⟨⟨i + 1, hlt, by first | rfl | (simp; done) | go_num, Lib.hid (by rw [HBS.out]; exact HM9.out), HB9⟩, by simp [intOf]; omega⟩
    · have he : i = M := by omega
      subst he
      obtain ⟨w8, hw8⟩ : ∃ w8, w8 = wr := ⟨_, rfl⟩
      subst hw8
      have HMF : Hid (∀ k, (blkF B (N : Int) i k).getD 0 = blkOf B (N : Int) k) := Lib.hid (fun k => by have := HBF.out k; rwa [HM.out] at this)
      generalize blkF B (N : Int) i = F at *
      clear HBF HM0 HB7 HMS
      have HC8 := Lib.hid (HC6.out.old HBR.out)
      have HO8 := Lib.hid (HO6.out.old HBR.out)
      have HI8 := Lib.hid (HI6.out.old HBR.out); have HT8 := Lib.hid (HT6.out.old HBR.out)
      have HB8 := Lib.hid (HB6.out.trans (HBR.out.mono HB6.out.size))
      have hml := HMR.out.lt
      clear HC6 HO6 HI6 HT6 HV6 hlt hi
      have x0 := HO8.out.at 0 _ rfl
      have x1 := HO8.out.at 1 _ rfl
      have hxl := HO8.out.lt
      go_wp2_with fail
      obtain ⟨w9, hw9⟩ : ∃ w9, w8.alloc (.cells #[] 3) = w9 := ⟨_, rfl⟩
      have hb9 : Below w8.heap.size w8 w9 := by rw [← hw9]; exact (Below.refl _ _).alloc (Nat.le_refl _) _
      have HE9 : Hid (NumsOwn w9 w8.heap.size [] (.slice (some ⟨w8.heap.size, 0, none⟩) 0 0)) := Lib.hid (by rw [← hw9]; exact nums_fresh w8)
      rw [hw9]
      clear x0 x1 hxl
      have HC9 := Lib.hid (HC8.out.old hb9)
      have HO9 := Lib.hid (HO8.out.old hb9)
      have HS9 := Lib.hid hb9
      have hs9 : w9.heap.size = w8.heap.size + 1 := by rw [← hw9]; simp
      clear hb9 hw9
      refine (HLA.out _ HC9.out).mono ?_
      rintro e w10 ⟨v4, rfl, h4, hb10⟩
      obtain ⟨a4, c4, rfl⟩ := RwOwn.shape h4
      have h4o := RwOwn.lt h4
      have HV10 := Lib.hid (RwOwn.nilv h4 (by omega) intCells_len)
      have HE10 := Lib.hid (RwOwn.old HE9.out hb10)
      have HBW := Lib.hid (HS9.out.trans (hb10.mono HS9.out.size))
      have hs10 : w8.heap.size < w10.heap.size := (RwOwn.lt HE10.out _ rfl).2
      have h4n : Hid ((Value.slice a4 LD.length c4).ownBlock = none ∨ (Value.slice a4 LD.length c4).ownBlock ≠ some w8.heap.size) := Lib.hid (by
        cases hv : (Value.slice a4 LD.length c4).ownBlock with
        | none => exact .inl rfl
        | some g => exact .inr (fun e => by have := (h4o g hv).1; injection e with e; omega))
      clear h4 hb10 HC9 HO9 HE9 HLA h4o hs9 HS9
      have hLI : (LD.length : Int) ≤ 40000 := by omega
      go_wp2_with fail
      go_loopw [9, 45] (fun s9 s45 wy => ∃ k : Nat, k ≤ LD.length ∧ s45 = .int .i64 k ∧ ∃ g cg, s9 = .slice (some ⟨g, 0, none⟩) k cg ∧ Hid (NumsOwn wy w8.heap.size ((LD.take k).map (blkOf B (N : Int))) (.slice (some ⟨g, 0, none⟩) k cg)) ∧ Hid (w10.grownBy wy (some w8.heap.size)) ∧ Hid (g = w8.heap.size ∨ w10.heap.size ≤ g)) (fun _ s45 _ => LD.length - (intOf s45).toNat)
      case atStart => exact ⟨0, Nat.zero_le _, rfl, _, _, rfl, HE10, Lib.hid ⟨rfl, rfl, rfl, Nat.le_refl _, fun _ _ _ => rfl⟩, Lib.hid (.inl rfl)⟩
      case round =>
        obtain ⟨k, hk, rfl, g, cg, rfl, HNK, HGK, HGG⟩ := hrel
        obtain ⟨wy, hwy⟩ : ∃ wy, wy = wr := ⟨_, rfl⟩
        subst hwy
        have HBK := Lib.hid (below_map HBW.out HGK.out (Nat.le_refl _) HBW.out.size)
        have hkl : ((LD.take k).map (blkOf B (N : Int))).length = k := by rw [List.length_map, List.length_take]; omega
        by_cases hlt : k < LD.length
        · obtain ⟨bi, oi, eb, hbi, i0⟩ := NumsAt.at (NumsAt.grown HV10.out HGK.out h4n.out) hlt
          cases eb
          obtain ⟨p, hpn, _, hp⟩ := HLN.out LD[k] (List.getElem_mem hlt)
          have hpN : p < N := by rw [← HN.out]; exact hpn
          have hbs : (LD.take (k + 1)).map (blkOf B (N : Int)) = (LD.take k).map (blkOf B (N : Int)) ++ [blkOf B (N : Int) ((p : Int) + 1)] := by rw [List.take_add_one, List.getElem?_eq_getElem hlt, List.map_append, hp]; rfl
          have HBS := Lib.hid hbs
          rw [hp] at i0
          have hpr : -9223372036854775808 ≤ (p : Int) + 1 ∧ (p : Int) + 1 ≤ 9223372036854775807 := by omega
          have HMY := Lib.hid (HMR.out.same (HBK.out.block _ hml))
          have HFV := HMF.out ((p : Int) + 1)
          obtain ⟨z, hz⟩ : ∃ z, blkOf B (N : Int) ((p : Int) + 1) = z := ⟨_, rfl⟩
          have hzr := blkOf_range B (N : Int) ((p : Int) + 1)
          rw [hz] at HFV hzr
          rw [hz] at HBS
          have HFZ := Lib.hid HFV
          have hb2 : Below wy.heap.size wy (wy.alloc (.cells #[.int .i64 z] 3)) := (Below.refl _ _).alloc (Nat.le_refl _) _
          have HN6 := Lib.hid (RwOwn.old HNK.out hb2)
          have HNS := Lib.hid (OwnAt.new wy (intCells z) 3)
          have hbk := HBK.out.size
          have hgk := HGK.out.size
          clear hp hbs hz HFV hb2
          go_wp2_with (first
            | (at_lookup; refine wpList_zlook _ rfl _ _ rfl rfl HMY.out _ rfl hpr HFZ.out ?_)
            | (at_builtin; refine wpList_numSnoc _ rfl _ _ rfl w8.heap.size _ _ rfl HN6.out z wy.heap.size 1 rfl HNS.out (by omega) (by simp; omega) ?_; intro g2 cg2 w9 how9 hgr9 hat9 hlt9; rw [hkl] at how9; have HN9 := Lib.hid how9; have HG9 := Lib.hid hgr9; have HA9 := Lib.hid hat9; clear how9 hgr9 hat9 hlt9))
          have hG2 : w10.grownBy w9 (some w8.heap.size) := ⟨HG9.out.os.trans HGK.out.os, HG9.out.tape.trans HGK.out.tape, HG9.out.output.trans HGK.out.output, by have := HG9.out.size; simp at this; omega, fun j hj hne => (HG9.out.block j (by simp; omega) (by intro e1; injection e1 with e1; subst e1; rcases HGG.out with e | e <;> first | exact hne (by rw [e]) | omega)).trans (((World.grownBy_alloc wy _ none).block j (by omega) (by simp)).trans (HGK.out.block j hj hne))⟩
          exact ⟨⟨k + 1, hlt, by first | rfl | (simp; done) | go_num, g2, cg2, by first | rfl | rw [hkl], by rw [HBS.out]; exact HN9, Lib.hid hG2, Lib.hid (by rcases HA9.out with e | e <;> first | (injection e with e; rw [← e]; exact HGG.out) | (right; simp at e; omega))⟩, by simp [intOf]; omega⟩
        · have he : k = LD.length := by omega
          subst he
          rw [List.take_length] at HNK
          have HCy := Lib.hid (HC8.out.old HBK.out)
          have HOy := Lib.hid (HO8.out.old HBK.out)
          have HIy := Lib.hid (HI8.out.old HBK.out); have HTy := Lib.hid (HT8.out.old HBK.out)
          have HMy := Lib.hid (HMR.out.same (HBK.out.block _ hml))
          have HBy := Lib.hid (HB8.out.trans (HBK.out.mono HB8.out.size))
          have hgl := (RwOwn.lt HNK.out _ rfl).2
          have x0 := HOy.out.at 0 _ rfl
          have x1 := HOy.out.at 1 _ rfl
          have hxl := HOy.out.lt
          clear HC8 HO8 HI8 HT8 HMR HB8 HBK HGK HGG HBW HE10 h4n HV10 hs10 hkl hk hlt HLN
          go_wp2_with fail
          refine (HSP.out _ HCy.out).mono ?_
          rintro e w11 ⟨v5, rfl, h5, hb11⟩
          obtain ⟨a5, c5, hs5⟩ := RwOwn.shape h5
          rw [hsl] at hs5
          subst hs5
          have HV := Lib.hid (RwOwn.nilv h5 (by omega) prCells_len)
          have HI := Lib.hid (HIy.out.old hb11); have HT := Lib.hid (HTy.out.old hb11)
          have HMP := Lib.hid (HMy.out.old hb11)
          have HBA := Lib.hid (NumsAt.old (RwOwn.nilv HNK.out (by rw [List.length_map]; omega) intCells_len) hb11)
          have HB11 := Lib.hid (HBy.out.trans (hb11.mono HBy.out.size))
          obtain ⟨BK, hBK⟩ : ∃ BK, LD.map (blkOf B (N : Int)) = BK := ⟨_, rfl⟩
          have HBK := Lib.hid hBK
          have hbkl : BK.length = LD.length := by rw [← hBK, List.length_map]
          rw [hBK] at HBA
          clear h5 hb11 HCy HOy HIy HTy HMy HBy x0 x1 hxl hBK HNK HSP
          go_wp2_with fail
          go_loopw [2, 59] (fun s2 s59 wz => ∃ j : Nat, j ≤ i ∧ s59 = .int .i64 j ∧ Hid (NxtOwn wz w11.heap.size (X.take j) s2) ∧ Hid (Below w11.heap.size w11 wz)) (fun _ s59 _ => i - (intOf s59).toNat)
          case atStart => exact ⟨0, Nat.zero_le _, rfl, Lib.hid (NxtOwn.zero _ _), Lib.hid (Below.refl _ _)⟩
          case round =>
            obtain ⟨j, hj, rfl, HNZ, HBZ⟩ := hrel
            obtain ⟨wz, hwz⟩ : ∃ wz, wz = wr := ⟨_, rfl⟩
            subst hwz
            have hxl : (X.take j).length = j := by rw [List.length_take, HNL.out]; omega
            obtain ⟨a7, c7, hs7⟩ := NxtOwn.shape HNZ.out
            rw [hxl] at hs7
            subst hs7
            by_cases hlt : j < i
            · have hjB : j < B.length := by rw [HM.out]; exact hlt
              have hjs : j < (splitL B (N : Int)).length := by omega
              obtain ⟨bp, op, ep, hc⟩ := RwAt.at (RwAt.old HV.out HBZ.out) (List.getElem?_eq_getElem hjs)
              cases ep
              obtain ⟨pp, hpp, hpn, _⟩ := HBV.out j hjB
              obtain ⟨last, hla, hln⟩ := HLF.out j hjB
              have hsp : (splitL B (N : Int))[j] = ((pp : Int), (last : Int) + 1) := by
                unfold splitL
                simp [List.getElem?_eq_getElem hjB, hpp, hla]
              rw [hsp] at hc
              have c0 := hc 0 _ rfl
              have c1 := hc 1 _ rfl
              rw [Nat.add_zero] at c0
              rw [← Nat.add_assoc] at c1
              have hbp := World.block_lt_of_cell? _ _ c0
              dsimp only at c0 c1 hbp
              have hlT : last < T.length := by omega
              have hlI : last < I.length := by rw [HN.out]; exact hln
              obtain ⟨bt, ot, et, hbt, t0⟩ := NumsAt.at (HT.out.old HBZ.out) hlT
              cases et
              obtain ⟨bi, oi, ei, hbi, i0, i1, i2, i3, i4, i5⟩ := InsAt.at (HI.out.old HBZ.out) hlI
              cases ei
              have htb := HTB.out last hlT
              have hrn := HRN.out j last I[last] T[last] B N HBQ.out HN.out (by rw [hla]; omega) (by rw [List.getD_eq_getElem?_getD, List.getElem?_eq_getElem hlI]; rfl) (by rw [List.getD_eq_getElem?_getD, List.getElem?_eq_getElem hlT]; rfl)
              rw [HBK.out] at hrn
              rw [List.getD_eq_getElem?_getD, List.getElem?_eq_getElem hlT, Option.getD_some] at htb
              rw [HN.out] at htb
              obtain ⟨t, ht⟩ : ∃ t, T[last] = t := ⟨_, rfl⟩
              obtain ⟨x, hx⟩ : ∃ x, I[last] = x := ⟨_, rfl⟩
              rw [ht] at hrn htb t0
              rw [hx] at hrn i0 i1 i2 i3 i4 i5
              obtain ⟨o, d, aa, bb, n1, nm⟩ := x
              dsimp only at hrn i0 i1 i2 i3 i4 i5
              obtain ⟨R, hR⟩ : ∃ R : List Int, (if o = 25 ∨ o = 26 then [] else if o = 27 then BK else [(j : Int) + 1]) = R := ⟨_, rfl⟩
              rw [hR] at hrn
              have hRl : R.length ≤ 40000 := by
                rw [← hR]
                split
                · simp
                · split
                  · omega
                  · simp
              have HRR := Lib.hid hR
              have HRJ := Lib.hid hrn
              clear hR
              have HNJ := Lib.hid (HNT.out j hlt)
              have hnoj := Lib.hid (hno.out j)
              have hbk := HBZ.out.size
              clear hsp hc hpp hla ht hx hrn hjs
              go_upto_region 20 with (fail)
              obtain ⟨W2, hW2⟩ : ∃ W2, (wz.alloc (.cells #[.int .i64 (pp : Int), .int .i64 ((last : Int) + 1)] 34)).alloc (.cells #[] 3) = W2 := ⟨_, rfl⟩
              have hs1 : (wz.alloc (.cells #[.int .i64 (pp : Int), .int .i64 ((last : Int) + 1)] 34)).heap.size = wz.heap.size + 1 := by simp
              have hb1 : Below wz.heap.size wz W2 := by rw [← hW2]; exact ((Below.refl _ _).alloc (Nat.le_refl _) _).alloc (by omega) _
              have hr2 : NumsOwn W2 wz.heap.size [] (.slice (some ⟨wz.heap.size + 1, 0, none⟩) 0 0) := by
                rw [← hW2]
                have := nums_fresh (wz.alloc (.cells #[.int .i64 (pp : Int), .int .i64 ((last : Int) + 1)] 34))
                rw [hs1] at this
                exact RwOwn.base this (by omega)
              rw [hW2]
              clear hW2 hs1 c0 c1 hbp
              have t2 := below_keeps hb1 t0
              have hbt2 : bt < W2.heap.size := Nat.lt_of_lt_of_le hbt hb1.size
              have HMW := Lib.hid (HMP.out.same ((hb1.block _ (by have := HMP.out.lt; omega)).trans (HBZ.out.block _ HMP.out.lt)))
              have HBJ := Lib.hid (HBA.out.old HBZ.out)
              have HR2 := Lib.hid hr2
              have HB2 := Lib.hid hb1
              have HI0 := Lib.hid i0
              have hsz2 := hb1.size
              clear t0 i0 i1 i2 i3 i4 i5 hbt hb1 hr2
              by_cases h0t : 0 ≤ t
              case' pos =>
                have HFV := HMF.out t
                obtain ⟨z, hz⟩ : ∃ z, blkOf B (N : Int) t = z := ⟨_, rfl⟩
                have hzr := blkOf_range B (N : Int) t
                rw [hz] at HFV hzr HRJ
                rw [if_pos h0t] at HRJ
                have HFZ := Lib.hid HFV
                have htr : -9223372036854775808 ≤ t ∧ t ≤ 9223372036854775807 := by omega
                have hbA : Below W2.heap.size W2 (W2.alloc (.cells #[.int .i64 z] 3)) := (Below.refl _ _).alloc (Nat.le_refl _) _
                have HN6 := Lib.hid (RwOwn.old HR2.out hbA)
                have HB6 := Lib.hid (HB2.out.trans (hbA.mono HB2.out.size))
                have HNS := Lib.hid (OwnAt.new W2 (intCells z) 3)
                clear HFV hbA hz
                go_upto_region 22 with (first
                  | (at_lookup; refine wpList_zlook _ rfl _ _ rfl rfl HMW.out _ rfl htr HFZ.out ?_)
                  | (at_builtin; refine wpList_numSnoc _ rfl _ _ rfl wz.heap.size _ _ rfl HN6.out z W2.heap.size 1 rfl HNS.out (by simp) HB6.out.size ?_; intro g1 cg1 w5 how5 hgr5 hat5 hlt5; have HR5 := Lib.hid how5; have HB5 := Lib.hid (below_grow HB6.out hgr5 (fun k e => (RwOwn.lt HN6.out k e).1) HB6.out.size); clear how5 hgr5 hat5 hlt5))
                clear t2 hbt2 hzr HFZ HMW HR2 HB2 HN6 HB6 HNS htr hsz2
                rw [List.nil_append] at HR5
                obtain ⟨L1, hL1⟩ : ∃ L1 : List Int, [z] = L1 := ⟨_, rfl⟩
                rw [hL1] at HR5 HRJ
                have hL1l : L1.length ≤ 1 := by rw [← hL1]; simp
                clear hL1 h0t htb
              case' neg =>
                rw [if_neg h0t] at HRJ
                have htn : ¬ (0 : Int) ≤ t := h0t
                go_upto_region 22 with (fail)
                obtain ⟨w5, hw5⟩ : ∃ w5, W2 = w5 := ⟨_, rfl⟩
                rw [hw5] at HR2 HB2 ⊢
                have HR5 := HR2; have HB5 := HB2
                clear t2 hbt2 HMW HR2 HB2 hsz2 htn hw5
                obtain ⟨L1, hL1⟩ : ∃ L1 : List Int, ([] : List Int) = L1 := ⟨_, rfl⟩
                rw [hL1] at HR5 HRJ
                have hL1l : L1.length ≤ 1 := by rw [← hL1]; simp
                clear hL1 h0t htb
              all_goals
                have i0 := below_keeps HB5.out HI0.out
                have hbi5 : bi < w5.heap.size := Nat.lt_of_lt_of_le hbi HB5.out.size
                have hjI : (j : Int) + 1 ≤ 40000 := by omega
                have hop : o = 25 ∨ o = 26 ∨ o = 27 ∨ (o ≠ 25 ∧ o ≠ 26 ∧ o ≠ 27) := by omega
                rcases hop with h25 | h26 | h27 | ⟨h25, h26, h27⟩
                · subst h25
                  have hR0 : R = [] := by rw [← HRR.out, if_pos (.inl rfl)]
                  go_upto_region 28 with (fail)
                  obtain ⟨w7, hw7⟩ : ∃ w7, w5 = w7 := ⟨_, rfl⟩
                  rw [hw7] at HR5 HB5 ⊢
                  have HR7 : Hid (NumsOwn w7 wz.heap.size (L1 ++ R) _) := Lib.hid (by rw [hR0, List.append_nil]; exact HR5.out)
                  have HB7 := HB5
                  clear hw7 hR0 i0 hbi5 HR5 HB5
                  have hL2 : (L1 ++ R).length ≤ 1000000 := by rw [List.length_append]; omega
                  rw [← HRJ.out] at HR7 hL2
                  obtain ⟨L2, hL2e⟩ : ∃ L2, RN j = L2 := ⟨_, rfl⟩
                  have hnoj2 := hnoj.out
                  rw [hL2e] at HR7 hL2 hnoj2
                  have HNO := Lib.hid hnoj2
                  have HVO := Lib.hid (fun g e => (RwOwn.lt ((NxtOwn.row HNZ.out).choose_spec.1) g e).2)
                  clear hL2e hnoj2 HRJ hnoj HRR hL1l hRl
                  go_wp2_with (first
                    | (go_at_call 18; refine (sort_own L2 _ wz.heap.size _ HR7.out hL2 HB7.out.size).mono ?_; rintro e w8' ⟨rfl, hr8, hb8⟩; have HR8 := Lib.hid hr8; have HB8' := Lib.hid (HB7.out.trans hb8); have HL8 := Lib.hid (RwOwn.lt hr8); clear hr8 hb8)
                    | (go_at_call 19; refine (compact_own _ _ wz.heap.size _ HR8.out (by rw [List.length_mergeSort]; exact hL2) HB8'.out.size).mono ?_; rintro e w9' ⟨v9, rfl, h9, ho9, hb9⟩; obtain ⟨a9, c9, rfl⟩ := RwAt.shape h9; have HR9 := Lib.hid h9; have HO9' := Lib.hid (own_sub ho9 (fun k e => ⟨(HL8.out k e).1, Nat.lt_of_lt_of_le (HL8.out k e).2 hb9.size⟩)); have HB9' := Lib.hid (HB8'.out.trans hb9); clear h9 ho9 hb9)
                    | (at_builtin; have HBA9 := Lib.hid (HB9'.out.alloc HB9'.out.size (.cells #[.slice a9 (Lib.compact (L2.mergeSort leI)).length c9] 29)); have HNX := Lib.hid (NxtOwn.old HNZ.out HBA9.out); obtain ⟨vs, ho, hlen, hrow⟩ := HNX.out; refine wpList_slSnoc _ rfl _ _ rfl w11.heap.size vs _ rfl ho (a9, (Lib.compact (L2.mergeSort leI)).length, c9) w9'.heap.size 1 rfl (OwnAt.new w9' (slCells (a9, (Lib.compact (L2.mergeSort leI)).length, c9)) 29) (by omega) (by have := HBA9.out.size; omega) ?_; intro g2 cg2 w12 how12 hgr12 hat12 hlt12; rw [hlen, hxl] at how12; have HFIN := Lib.hid (nxt_snoc (m := wz.heap.size) (s := (a9, (Lib.compact (L2.mergeSort leI)).length, c9)) hlen hrow (NumsAt.old HR9.out ((Below.refl _ _).alloc (Nat.le_refl _) _)) (own_more HO9'.out) HVO.out how12 hgr12 rfl hat12); have HBF12 := Lib.hid (below_grow (HBZ.out.trans (HBA9.out.mono hbk)) hgr12 (fun k e => (RwOwn.lt ho k e).1) (by have := HBA9.out.size; omega)); have hvl : vs.length = j := hlen.trans hxl; clear how12 hgr12 hat12 hlt12 hrow ho))
                  exact ⟨⟨j + 1, hlt, by first | rfl | (simp; done) | go_num, by rw [HNJ.out, HNO.out]; exact HFIN, HBF12⟩, by simp [intOf]; omega⟩
                · subst h26
                  have hR0 : R = [] := by rw [← HRR.out, if_pos (.inr rfl)]
                  go_upto_region 28 with (fail)
                  obtain ⟨w7, hw7⟩ : ∃ w7, w5 = w7 := ⟨_, rfl⟩
                  rw [hw7] at HR5 HB5 ⊢
                  have HR7 : Hid (NumsOwn w7 wz.heap.size (L1 ++ R) _) := Lib.hid (by rw [hR0, List.append_nil]; exact HR5.out)
                  have HB7 := HB5
                  clear hw7 hR0 i0 hbi5 HR5 HB5
                  have hL2 : (L1 ++ R).length ≤ 1000000 := by rw [List.length_append]; omega
                  rw [← HRJ.out] at HR7 hL2
                  obtain ⟨L2, hL2e⟩ : ∃ L2, RN j = L2 := ⟨_, rfl⟩
                  have hnoj2 := hnoj.out
                  rw [hL2e] at HR7 hL2 hnoj2
                  have HNO := Lib.hid hnoj2
                  have HVO := Lib.hid (fun g e => (RwOwn.lt ((NxtOwn.row HNZ.out).choose_spec.1) g e).2)
                  clear hL2e hnoj2 HRJ hnoj HRR hL1l hRl
                  go_wp2_with (first
                    | (go_at_call 18; refine (sort_own L2 _ wz.heap.size _ HR7.out hL2 HB7.out.size).mono ?_; rintro e w8' ⟨rfl, hr8, hb8⟩; have HR8 := Lib.hid hr8; have HB8' := Lib.hid (HB7.out.trans hb8); have HL8 := Lib.hid (RwOwn.lt hr8); clear hr8 hb8)
                    | (go_at_call 19; refine (compact_own _ _ wz.heap.size _ HR8.out (by rw [List.length_mergeSort]; exact hL2) HB8'.out.size).mono ?_; rintro e w9' ⟨v9, rfl, h9, ho9, hb9⟩; obtain ⟨a9, c9, rfl⟩ := RwAt.shape h9; have HR9 := Lib.hid h9; have HO9' := Lib.hid (own_sub ho9 (fun k e => ⟨(HL8.out k e).1, Nat.lt_of_lt_of_le (HL8.out k e).2 hb9.size⟩)); have HB9' := Lib.hid (HB8'.out.trans hb9); clear h9 ho9 hb9)
                    | (at_builtin; have HBA9 := Lib.hid (HB9'.out.alloc HB9'.out.size (.cells #[.slice a9 (Lib.compact (L2.mergeSort leI)).length c9] 29)); have HNX := Lib.hid (NxtOwn.old HNZ.out HBA9.out); obtain ⟨vs, ho, hlen, hrow⟩ := HNX.out; refine wpList_slSnoc _ rfl _ _ rfl w11.heap.size vs _ rfl ho (a9, (Lib.compact (L2.mergeSort leI)).length, c9) w9'.heap.size 1 rfl (OwnAt.new w9' (slCells (a9, (Lib.compact (L2.mergeSort leI)).length, c9)) 29) (by omega) (by have := HBA9.out.size; omega) ?_; intro g2 cg2 w12 how12 hgr12 hat12 hlt12; rw [hlen, hxl] at how12; have HFIN := Lib.hid (nxt_snoc (m := wz.heap.size) (s := (a9, (Lib.compact (L2.mergeSort leI)).length, c9)) hlen hrow (NumsAt.old HR9.out ((Below.refl _ _).alloc (Nat.le_refl _) _)) (own_more HO9'.out) HVO.out how12 hgr12 rfl hat12); have HBF12 := Lib.hid (below_grow (HBZ.out.trans (HBA9.out.mono hbk)) hgr12 (fun k e => (RwOwn.lt ho k e).1) (by have := HBA9.out.size; omega)); have hvl : vs.length = j := hlen.trans hxl; clear how12 hgr12 hat12 hlt12 hrow ho))
                  exact ⟨⟨j + 1, hlt, by first | rfl | (simp; done) | go_num, by rw [HNJ.out, HNO.out]; exact HFIN, HBF12⟩, by simp [intOf]; omega⟩
                · subst h27
                  have hR0 : R = BK := by rw [← HRR.out, if_neg (by omega), if_pos rfl]
                  have hBl := NumsAt.old' HBJ.out HB5.out rfl
                  go_upto_region 28 with (at_builtin; refine wpList_nums _ rfl _ _ rfl wz.heap.size L1 _ rfl HR5.out BK _ LD.length _ rfl hbkl hBl (by omega) HB5.out.size ?_; intro v7 w7 how7 hgr7; have HR7 := Lib.hid how7; have HB7 := Lib.hid (below_grow HB5.out hgr7 (fun k e => (RwOwn.lt HR5.out k e).1) HB5.out.size); clear how7 hgr7)
                  rw [← hR0] at HR7
                  clear hR0 hBl i0 hbi5 HR5 HB5
                  have hL2 : (L1 ++ R).length ≤ 1000000 := by rw [List.length_append]; omega
                  rw [← HRJ.out] at HR7 hL2
                  obtain ⟨L2, hL2e⟩ : ∃ L2, RN j = L2 := ⟨_, rfl⟩
                  have hnoj2 := hnoj.out
                  rw [hL2e] at HR7 hL2 hnoj2
                  have HNO := Lib.hid hnoj2
                  have HVO := Lib.hid (fun g e => (RwOwn.lt ((NxtOwn.row HNZ.out).choose_spec.1) g e).2)
                  clear hL2e hnoj2 HRJ hnoj HRR hL1l hRl
                  go_wp2_with (first
                    | (go_at_call 18; refine (sort_own L2 _ wz.heap.size _ HR7.out hL2 HB7.out.size).mono ?_; rintro e w8' ⟨rfl, hr8, hb8⟩; have HR8 := Lib.hid hr8; have HB8' := Lib.hid (HB7.out.trans hb8); have HL8 := Lib.hid (RwOwn.lt hr8); clear hr8 hb8)
                    | (go_at_call 19; refine (compact_own _ _ wz.heap.size _ HR8.out (by rw [List.length_mergeSort]; exact hL2) HB8'.out.size).mono ?_; rintro e w9' ⟨v9, rfl, h9, ho9, hb9⟩; obtain ⟨a9, c9, rfl⟩ := RwAt.shape h9; have HR9 := Lib.hid h9; have HO9' := Lib.hid (own_sub ho9 (fun k e => ⟨(HL8.out k e).1, Nat.lt_of_lt_of_le (HL8.out k e).2 hb9.size⟩)); have HB9' := Lib.hid (HB8'.out.trans hb9); clear h9 ho9 hb9)
                    | (at_builtin; have HBA9 := Lib.hid (HB9'.out.alloc HB9'.out.size (.cells #[.slice a9 (Lib.compact (L2.mergeSort leI)).length c9] 29)); have HNX := Lib.hid (NxtOwn.old HNZ.out HBA9.out); obtain ⟨vs, ho, hlen, hrow⟩ := HNX.out; refine wpList_slSnoc _ rfl _ _ rfl w11.heap.size vs _ rfl ho (a9, (Lib.compact (L2.mergeSort leI)).length, c9) w9'.heap.size 1 rfl (OwnAt.new w9' (slCells (a9, (Lib.compact (L2.mergeSort leI)).length, c9)) 29) (by omega) (by have := HBA9.out.size; omega) ?_; intro g2 cg2 w12 how12 hgr12 hat12 hlt12; rw [hlen, hxl] at how12; have HFIN := Lib.hid (nxt_snoc (m := wz.heap.size) (s := (a9, (Lib.compact (L2.mergeSort leI)).length, c9)) hlen hrow (NumsAt.old HR9.out ((Below.refl _ _).alloc (Nat.le_refl _) _)) (own_more HO9'.out) HVO.out how12 hgr12 rfl hat12); have HBF12 := Lib.hid (below_grow (HBZ.out.trans (HBA9.out.mono hbk)) hgr12 (fun k e => (RwOwn.lt ho k e).1) (by have := HBA9.out.size; omega)); have hvl : vs.length = j := hlen.trans hxl; clear how12 hgr12 hat12 hlt12 hrow ho))
                  exact ⟨⟨j + 1, hlt, by first | rfl | (simp; done) | go_num, by rw [HNJ.out, HNO.out]; exact HFIN, HBF12⟩, by simp [intOf]; omega⟩
                · have hR0 : R = [(j : Int) + 1] := by rw [← HRR.out, if_neg (by omega), if_neg h27]
                  have q5 : (o == 25) = false := by simpa using h25
                  have q6 : (o == 26) = false := by simpa using h26
                  have q7 : (o == 27) = false := by simpa using h27
                  have hbA : Below w5.heap.size w5 (w5.alloc (.cells #[.int .i64 ((j : Int) + 1)] 3)) := (Below.refl _ _).alloc (Nat.le_refl _) _
                  have HN6 := Lib.hid (RwOwn.old HR5.out hbA)
                  have HB6' := Lib.hid (HB5.out.trans (hbA.mono HB5.out.size))
                  have HNS := Lib.hid (OwnAt.new w5 (intCells ((j : Int) + 1)) 3)
                  clear hbA
                  go_upto_region 28 with (at_builtin; refine wpList_numSnoc _ rfl _ _ rfl wz.heap.size L1 _ rfl HN6.out ((j : Int) + 1) w5.heap.size 1 rfl HNS.out (by omega) HB6'.out.size ?_; intro g7 cg7 w7 how7 hgr7 hat7 hlt7; have HR7 := Lib.hid how7; have HB7 := Lib.hid (below_grow HB6'.out hgr7 (fun k e => (RwOwn.lt HN6.out k e).1) HB6'.out.size); clear how7 hgr7 hat7 hlt7)
                  rw [← hR0] at HR7
                  clear hR0 i0 hbi5 HR5 HB5 h25 h26 h27 q5 q6 q7 HN6 HB6' HNS
                  have hL2 : (L1 ++ R).length ≤ 1000000 := by rw [List.length_append]; omega
                  rw [← HRJ.out] at HR7 hL2
                  obtain ⟨L2, hL2e⟩ : ∃ L2, RN j = L2 := ⟨_, rfl⟩
                  have hnoj2 := hnoj.out
                  rw [hL2e] at HR7 hL2 hnoj2
                  have HNO := Lib.hid hnoj2
                  have HVO := Lib.hid (fun g e => (RwOwn.lt ((NxtOwn.row HNZ.out).choose_spec.1) g e).2)
                  clear hL2e hnoj2 HRJ hnoj HRR hL1l hRl
                  go_wp2_with (first
                    | (go_at_call 18; refine (sort_own L2 _ wz.heap.size _ HR7.out hL2 HB7.out.size).mono ?_; rintro e w8' ⟨rfl, hr8, hb8⟩; have HR8 := Lib.hid hr8; have HB8' := Lib.hid (HB7.out.trans hb8); have HL8 := Lib.hid (RwOwn.lt hr8); clear hr8 hb8)
                    | (go_at_call 19; refine (compact_own _ _ wz.heap.size _ HR8.out (by rw [List.length_mergeSort]; exact hL2) HB8'.out.size).mono ?_; rintro e w9' ⟨v9, rfl, h9, ho9, hb9⟩; obtain ⟨a9, c9, rfl⟩ := RwAt.shape h9; have HR9 := Lib.hid h9; have HO9' := Lib.hid (own_sub ho9 (fun k e => ⟨(HL8.out k e).1, Nat.lt_of_lt_of_le (HL8.out k e).2 hb9.size⟩)); have HB9' := Lib.hid (HB8'.out.trans hb9); clear h9 ho9 hb9)
                    | (at_builtin; have HBA9 := Lib.hid (HB9'.out.alloc HB9'.out.size (.cells #[.slice a9 (Lib.compact (L2.mergeSort leI)).length c9] 29)); have HNX := Lib.hid (NxtOwn.old HNZ.out HBA9.out); obtain ⟨vs, ho, hlen, hrow⟩ := HNX.out; refine wpList_slSnoc _ rfl _ _ rfl w11.heap.size vs _ rfl ho (a9, (Lib.compact (L2.mergeSort leI)).length, c9) w9'.heap.size 1 rfl (OwnAt.new w9' (slCells (a9, (Lib.compact (L2.mergeSort leI)).length, c9)) 29) (by omega) (by have := HBA9.out.size; omega) ?_; intro g2 cg2 w12 how12 hgr12 hat12 hlt12; rw [hlen, hxl] at how12; have HFIN := Lib.hid (nxt_snoc (m := wz.heap.size) (s := (a9, (Lib.compact (L2.mergeSort leI)).length, c9)) hlen hrow (NumsAt.old HR9.out ((Below.refl _ _).alloc (Nat.le_refl _) _)) (own_more HO9'.out) HVO.out how12 hgr12 rfl hat12); have HBF12 := Lib.hid (below_grow (HBZ.out.trans (HBA9.out.mono hbk)) hgr12 (fun k e => (RwOwn.lt ho k e).1) (by have := HBA9.out.size; omega)); have hvl : vs.length = j := hlen.trans hxl; clear how12 hgr12 hat12 hlt12 hrow ho))
                  exact ⟨⟨j + 1, hlt, by first | rfl | (simp; done) | go_num, by rw [HNJ.out, HNO.out]; exact HFIN, HBF12⟩, by simp [intOf]; omega⟩
            · have he : j = i := by omega
              subst he
              have hfull : X.take j = X := List.take_of_length_le (by rw [HNL.out]; exact Nat.le_refl _)
              rw [hfull] at HNZ
              have HBE := Lib.hid (HB11.out.trans (HBZ.out.mono HB11.out.size))
              go_wp2_with fail
              go_ret
              exact ⟨_, rfl, NxtOwn.toAt HNZ.out (by rw [HNL.out]; omega), HBE.out⟩
end Go.Proofs.YtlkfmnabbmceeaaGreatDoor
