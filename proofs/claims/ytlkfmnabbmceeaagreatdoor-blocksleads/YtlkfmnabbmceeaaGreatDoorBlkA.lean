/-
  Blocks as plain data: where they begin, where they end, where they lead to. Plain functions alone.
  Blocks as plain data: what holds of them. Plain functions alone.
  A map from numbers to numbers, as a plain function. No condition.
  A set of numbers, as a plain function. No condition.
  turns: may an instruction go elsewhere? No condition.
-/
import Derived.Lib.SlKeysI
import Derived.Lib.SlicesCompact
import Derived.Test.YtlkfmnabbmceeaaGreatDoorAsmA
import Derived.Test.YtlkfmnabbmceeaaGreatDoorAsmC
import Derived.Test.YtlkfmnabbmceeaaGreatDoorInstrB
set_option linter.unusedVariables false
set_option linter.unusedSimpArgs false
namespace Go.Proofs.YtlkfmnabbmceeaaGreatDoor
set_option maxRecDepth 100000
set_option maxHeartbeats 4000000

/-- May an instruction go elsewhere? -/
def turnsB (x : Ins) : Bool := decide (21 ≤ x.op) && decide (x.op ≤ 27)
/-- Does a block begin at a place? -/
def bgB (I : List Ins) (T : List Int) (p : Nat) : Bool := p == 0 || (T.contains (p : Int) || (I[p - 1]?).any turnsB)
def begN (I : List Ins) (T : List Int) : List Nat := (List.range I.length).filter (bgB I T)
def begL (I : List Ins) (T : List Int) : List Int := (begN I T).map (fun n : Nat => (n : Int))
/-! ### The set of places, as the code fills it -/
def putB (f : Int → Bool) (k : Int) : Int → Bool := fun t => if t = k then true else f t
def delB (f : Int → Bool) (k : Int) : Int → Bool := fun t => if t = k then false else f t
def plS (f : Int → Bool) (t : Int) (x : Ins) (i : Nat) : Int → Bool :=
  if turnsB x = true then putB (if 0 ≤ t then putB f t else f) ((i : Int) + 1) else (if 0 ≤ t then putB f t else f)
def pl0 (n : Nat) : Int → Bool := if 0 < n then putB (fun _ => false) 0 else fun _ => false
def plI (I : List Ins) (T : List Int) : Nat → Int → Bool
  | 0 => pl0 I.length
  | i + 1 => plS (plI I T i) (T.getD i 0) (I.getD i (zeroI 0)) i
theorem putB_iff {f : Int → Bool} {k t : Int} : putB f k t = true ↔ t = k ∨ f t = true := by
  unfold putB; by_cases h : t = k <;> simp [h]
theorem delB_iff {f : Int → Bool} {k t : Int} : delB f k t = true ↔ t ≠ k ∧ f t = true := by
  unfold delB; by_cases h : t = k <;> simp [h]
theorem plS_iff {f : Int → Bool} {t : Int} {x : Ins} {i : Nat} {k : Int} : plS f t x i k = true ↔ f k = true ∨ (0 ≤ k ∧ t = k) ∨ (turnsB x = true ∧ k = (i : Int) + 1) := by
  unfold plS
  by_cases h1 : turnsB x = true <;> by_cases h2 : 0 ≤ t
  · rw [if_pos h1, if_pos h2, putB_iff, putB_iff]
    constructor
    · rintro (h | h | h)
      · exact .inr (.inr ⟨h1, h⟩)
      · exact .inr (.inl ⟨h ▸ h2, h.symm⟩)
      · exact .inl h
    · rintro (h | ⟨_, h⟩ | ⟨_, h⟩)
      · exact .inr (.inr h)
      · exact .inr (.inl h.symm)
      · exact .inl h
  · rw [if_pos h1, if_neg h2, putB_iff]
    constructor
    · rintro (h | h)
      · exact .inr (.inr ⟨h1, h⟩)
      · exact .inl h
    · rintro (h | ⟨h, h'⟩ | ⟨_, h⟩)
      · exact .inr h
      · exact absurd (h' ▸ h) h2
      · exact .inl h
  · rw [if_neg h1, if_pos h2, putB_iff]
    constructor
    · rintro (h | h)
      · exact .inr (.inl ⟨h ▸ h2, h.symm⟩)
      · exact .inl h
    · rintro (h | ⟨_, h⟩ | ⟨h, _⟩)
      · exact .inr h
      · exact .inl h.symm
      · exact absurd h h1
  · rw [if_neg h1, if_neg h2]
    constructor
    · exact fun h => .inl h
    · rintro (h | ⟨h, h'⟩ | ⟨h, _⟩)
      · exact h
      · exact absurd (h' ▸ h) h2
      · exact absurd h h1
theorem pl0_iff {n : Nat} {k : Int} : pl0 n k = true ↔ 0 < n ∧ k = 0 := by
  unfold pl0
  by_cases h : 0 < n
  · rw [if_pos h, putB_iff]; simp [h]
  · rw [if_neg h]; simp [h]
theorem plI_iff {I : List Ins} {T : List Int} {k : Int} : ∀ i, plI I T i k = true ↔ (0 < I.length ∧ k = 0) ∨ ∃ j, j < i ∧ ((0 ≤ k ∧ T.getD j 0 = k) ∨ (turnsB (I.getD j (zeroI 0)) = true ∧ k = (j : Int) + 1))
  | 0 => by
    show pl0 I.length k = true ↔ _
    rw [pl0_iff]
    constructor
    · exact fun h => .inl h
    · rintro (h | ⟨j, h, _⟩)
      · exact h
      · omega
  | i + 1 => by
    show plS _ _ _ _ k = true ↔ _
    rw [plS_iff, plI_iff i]
    constructor
    · rintro ((h | ⟨j, h1, h2⟩) | h)
      · exact .inl h
      · exact .inr ⟨j, by omega, h2⟩
      · exact .inr ⟨i, by omega, h⟩
    · rintro (h | ⟨j, h1, h2⟩)
      · exact .inl (.inl h)
      · by_cases hj : j = i
        · subst hj; exact .inr h2
        · exact .inl (.inr ⟨j, by omega, h2⟩)
theorem bgB_iff {I : List Ins} {T : List Int} {p : Nat} : bgB I T p = true ↔ p = 0 ∨ (∃ j, j < T.length ∧ T.getD j 0 = (p : Int)) ∨ (∃ j, j < I.length ∧ turnsB (I.getD j (zeroI 0)) = true ∧ j = p - 1) := by
  unfold bgB
  rw [Bool.or_eq_true, Bool.or_eq_true, beq_iff_eq, List.contains_iff_mem, List.mem_iff_getElem]
  refine or_congr Iff.rfl (or_congr ?_ ?_)
  · constructor
    · rintro ⟨j, hj, h⟩
      exact ⟨j, hj, by rw [List.getD_eq_getElem?_getD, List.getElem?_eq_getElem hj]; exact h⟩
    · rintro ⟨j, hj, h⟩
      rw [List.getD_eq_getElem?_getD, List.getElem?_eq_getElem hj] at h
      exact ⟨j, hj, h⟩
  · rw [Option.any_eq_true]
    constructor
    · rintro ⟨x, hx, h⟩
      obtain ⟨hl, rfl⟩ := List.getElem?_eq_some_iff.1 hx
      exact ⟨p - 1, hl, by rw [List.getD_eq_getElem?_getD, hx]; exact h, rfl⟩
    · rintro ⟨j, hj, h, rfl⟩
      refine ⟨_, List.getElem?_eq_getElem hj, ?_⟩
      rw [List.getD_eq_getElem?_getD, List.getElem?_eq_getElem hj] at h
      exact h
theorem beg_mem {I : List Ins} {T : List Int} (hl : T.length = I.length) (hT : ∀ j, j < T.length → T.getD j 0 ≤ (I.length : Int)) {k : Int} :
    k ∈ begL I T ↔ delB (plI I T I.length) (I.length : Int) k = true := by
  rw [delB_iff, plI_iff]
  unfold begL begN
  rw [List.mem_map]
  constructor
  · rintro ⟨p, hp, rfl⟩
    rw [List.mem_filter, List.mem_range, bgB_iff] at hp
    obtain ⟨h1, h2⟩ := hp
    refine ⟨by omega, ?_⟩
    rcases h2 with rfl | ⟨j, hj, h⟩ | ⟨j, hj, h, rfl⟩
    · exact .inl ⟨by omega, rfl⟩
    · exact .inr ⟨j, by omega, .inl ⟨by omega, h⟩⟩
    · by_cases h0 : p = 0
      · subst h0; exact .inl ⟨by omega, rfl⟩
      · exact .inr ⟨p - 1, by omega, .inr ⟨h, by omega⟩⟩
  · rintro ⟨h1, h2⟩
    have h0 : 0 ≤ k ∧ k < (I.length : Int) ∧ (k = 0 ∨ (∃ j, j < T.length ∧ T.getD j 0 = k) ∨ (∃ j, j < I.length ∧ turnsB (I.getD j (zeroI 0)) = true ∧ k = (j : Int) + 1)) := by
      rcases h2 with ⟨h, rfl⟩ | ⟨j, hj, ⟨h, h'⟩ | ⟨h, h'⟩⟩
      · exact ⟨by omega, by omega, .inl rfl⟩
      · have := hT j (by omega)
        exact ⟨h, by omega, .inr (.inl ⟨j, by omega, h'⟩)⟩
      · exact ⟨by omega, by omega, .inr (.inr ⟨j, hj, h, h'⟩)⟩
    obtain ⟨g1, g2, g3⟩ := h0
    refine ⟨k.toNat, ?_, by omega⟩
    rw [List.mem_filter, List.mem_range, bgB_iff]
    refine ⟨by omega, ?_⟩
    rcases g3 with h | ⟨j, hj, h⟩ | ⟨j, hj, h, h'⟩
    · exact .inl (by omega)
    · exact .inr (.inl ⟨j, hj, by omega⟩)
    · exact .inr (.inr ⟨j, hj, h, by omega⟩)
theorem begN_pair (I : List Ins) (T : List Int) : (begN I T).Pairwise (· < ·) := List.Pairwise.filter _ List.pairwise_lt_range
theorem begL_pair (I : List Ins) (T : List Int) : (begL I T).Pairwise (· < ·) := by
  unfold begL
  rw [List.pairwise_map]
  exact (begN_pair I T).imp (by intro a b h; exact Int.ofNat_lt.2 h)
theorem pair_nodup {l : List Int} (h : l.Pairwise (· < ·)) : l.Nodup := h.imp (by intro a b h; omega)
theorem sort_pair {l : List Int} (h : l.Pairwise (· < ·)) : l.mergeSort leI = l :=
  List.mergeSort_of_pairwise (h.imp (by intro a b h; simp only [leI, decide_eq_true_eq]; omega))
/-- The keys, sorted, are the places. -/
theorem sort_beg {I : List Ins} {T : List Int} (hl : T.length = I.length) (hT : ∀ j, j < T.length → T.getD j 0 ≤ (I.length : Int)) {ss : List Int} (hnd : ss.Nodup)
    (hm : ∀ x, x ∈ ss ↔ delB (plI I T I.length) (I.length : Int) x = true) : ss.mergeSort leI = begL I T := by
  have hp : ss.Perm (begL I T) := (List.perm_ext_iff_of_nodup hnd (pair_nodup (begL_pair I T))).2 fun x => by rw [hm x, beg_mem hl hT]
  rw [mergeSort_of_perm_i hp, sort_pair (begL_pair I T)]
/-! ### The blocks -/
def endOf (B : List Int) (n : Int) (i : Nat) : Int := B.getD (i + 1) n
def splitL (B : List Int) (n : Int) : List (Int × Int) := (List.range B.length).map fun i => (B.getD i 0, endOf B n i)
def blkOf (B : List Int) (n k : Int) : Int := if k = n then (B.length : Int) else ((B.findIdx? (fun b => b == k)).getD 0 : Nat)
def landI (I : List Ins) : List Int := ((List.range I.length).filter (fun i => (I.getD i (zeroI 0)).op == 26)).map (fun i => ((i : Nat) : Int) + 1)
def rawNext (I : List Ins) (T : List Int) (i : Nat) : List Int :=
  let B := begL I T
  let last := (endOf B (I.length : Int) i).toNat - 1
  let x := I.getD last (zeroI 0)
  (if 0 ≤ T.getD last 0 then [blkOf B (I.length : Int) (T.getD last 0)] else []) ++
    (if x.op = 25 ∨ x.op = 26 then [] else if x.op = 27 then (landI I).map (blkOf B (I.length : Int)) else [(i : Int) + 1])
def nextOf (I : List Ins) (T : List Int) (i : Nat) : List Int := Lib.compact ((rawNext I T i).mergeSort leI)
def nextL (I : List Ins) (T : List Int) : List (List Int) := (List.range (begL I T).length).map (nextOf I T)
end Go.Proofs.YtlkfmnabbmceeaaGreatDoor

namespace Go.Proofs.YtlkfmnabbmceeaaGreatDoor
set_option maxRecDepth 100000
set_option maxHeartbeats 4000000

/-- The place at which block i begins; behind the last: the end. -/
def atOf (B : List Int) (n : Int) (i : Nat) : Int := B.getD i n
theorem endOf_eq (B : List Int) (n : Int) (i : Nat) : endOf B n i = atOf B n (i + 1) := rfl
theorem atOf_lt {B : List Int} {n : Int} {i : Nat} (h : i < B.length) : atOf B n i = B[i] := by
  unfold atOf; rw [List.getD_eq_getElem?_getD, List.getElem?_eq_getElem h]; rfl
theorem atOf_end {B : List Int} {n : Int} {i : Nat} (h : B.length ≤ i) : atOf B n i = n := by
  unfold atOf; rw [List.getD_eq_getElem?_getD, List.getElem?_eq_none h]; rfl
theorem begL_get {I : List Ins} {T : List Int} {i : Nat} (h : i < (begL I T).length) : ∃ p : Nat, (begL I T)[i] = (p : Int) ∧ p < I.length ∧ bgB I T p = true := by
  have hm : (begL I T)[i] ∈ begL I T := List.getElem_mem h
  unfold begL at hm
  rw [List.mem_map] at hm
  obtain ⟨p, hp, e⟩ := hm
  unfold begN at hp
  rw [List.mem_filter, List.mem_range] at hp
  refine ⟨p, ?_, hp⟩
  exact e.symm
theorem begL_of {I : List Ins} {T : List Int} {p : Nat} (h : p < I.length) (hb : bgB I T p = true) : ∃ i, ∃ hi : i < (begL I T).length, (begL I T)[i] = (p : Int) := by
  have : (p : Int) ∈ begL I T := by
    unfold begL begN
    exact List.mem_map.2 ⟨p, List.mem_filter.2 ⟨List.mem_range.2 h, hb⟩, rfl⟩
  obtain ⟨i, hi, e⟩ := List.mem_iff_getElem.1 this
  exact ⟨i, hi, e⟩
theorem at_mono {I : List Ins} {T : List Int} {i j : Nat} (hij : i < j) (hj : j ≤ (begL I T).length) : atOf (begL I T) (I.length : Int) i < atOf (begL I T) (I.length : Int) j := by
  have hi : i < (begL I T).length := by omega
  rw [atOf_lt hi]
  by_cases h : j < (begL I T).length
  · rw [atOf_lt h]
    exact List.pairwise_iff_getElem.1 (begL_pair I T) i j hi h hij
  · rw [atOf_end (by omega)]
    obtain ⟨p, e, h1, _⟩ := begL_get hi
    rw [e]; omega
theorem at_inj {I : List Ins} {T : List Int} {i j : Nat} (hi : i ≤ (begL I T).length) (hj : j ≤ (begL I T).length) (h : atOf (begL I T) (I.length : Int) i = atOf (begL I T) (I.length : Int) j) : i = j := by
  rcases Nat.lt_trichotomy i j with h1 | h1 | h1
  · have := at_mono (I := I) (T := T) h1 hj; omega
  · exact h1
  · have := at_mono (I := I) (T := T) h1 hi; omega
theorem at_le {I : List Ins} {T : List Int} (i : Nat) : 0 ≤ atOf (begL I T) (I.length : Int) i ∧ atOf (begL I T) (I.length : Int) i ≤ (I.length : Int) := by
  by_cases h : i < (begL I T).length
  · rw [atOf_lt h]
    obtain ⟨p, e, h1, _⟩ := begL_get h
    rw [e]; omega
  · rw [atOf_end (by omega)]; omega
theorem at_zero {I : List Ins} {T : List Int} : atOf (begL I T) (I.length : Int) 0 = 0 := by
  by_cases h : 0 < I.length
  · obtain ⟨i, hi, e⟩ := begL_of (I := I) (T := T) (p := 0) h rfl
    by_cases h0 : i = 0
    · subst h0; rw [atOf_lt hi]; exact e
    · have := at_mono (I := I) (T := T) (i := 0) (j := i) (by omega) (by omega)
      rw [atOf_lt hi, e] at this
      have := (at_le (I := I) (T := T) 0).1
      omega
  · have h2 : I.length = 0 := by omega
    have := at_le (I := I) (T := T) 0
    omega
theorem beg_none {I : List Ins} {T : List Int} (h : I.length = 0) : (begL I T).length = 0 := by
  unfold begL begN; rw [h]; rfl
theorem beg_len (I : List Ins) (T : List Int) : (begL I T).length ≤ I.length := by
  unfold begL begN
  rw [List.length_map]
  have := List.length_filter_le (bgB I T) (List.range I.length)
  rwa [List.length_range] at this
/-- Between a block's first place and its end no block begins. -/
theorem beg_gap {I : List Ins} {T : List Int} {i p : Nat} (hi : i < (begL I T).length) (h1 : atOf (begL I T) (I.length : Int) i < (p : Int)) (h2 : (p : Int) < atOf (begL I T) (I.length : Int) (i + 1)) : bgB I T p = false := by
  cases hb : bgB I T p with
  | false => rfl
  | true =>
    exfalso
    have hp : p < I.length := by have := (at_le (I := I) (T := T) (i + 1)).2; omega
    obtain ⟨j, hj, e⟩ := begL_of hp hb
    rw [← atOf_lt (n := (I.length : Int)) hj] at e
    rw [← e] at h1 h2
    rcases Nat.lt_trichotomy i j with h | h | h
    · rcases Nat.lt_trichotomy (i + 1) j with h' | h' | h'
      · have := at_mono (I := I) (T := T) h' (by omega); omega
      · subst h'; omega
      · omega
    · subst h; omega
    · have := at_mono (I := I) (T := T) h (by omega); omega
theorem blk_at {I : List Ins} {T : List Int} {i : Nat} (h : i ≤ (begL I T).length) : blkOf (begL I T) (I.length : Int) (atOf (begL I T) (I.length : Int) i) = (i : Int) := by
  unfold blkOf
  by_cases hi : i < (begL I T).length
  · have hlt := at_mono (I := I) (T := T) hi (Nat.le_refl _)
    rw [atOf_end (i := (begL I T).length) (Nat.le_refl _)] at hlt
    rw [if_neg (by omega)]
    have : (begL I T).findIdx? (fun b => b == atOf (begL I T) (I.length : Int) i) = some i := by
      rw [List.findIdx?_eq_some_iff_getElem]
      refine ⟨hi, by rw [atOf_lt hi]; simp, fun j hj => ?_⟩
      have := at_mono (I := I) (T := T) hj (by omega)
      rw [atOf_lt (by omega)] at this
      simp only [beq_iff_eq]
      omega
    rw [this]; rfl
  · rw [atOf_end (by omega), if_pos rfl]; omega
/-- What is a place at which a block begins, or the end. -/
theorem at_of {I : List Ins} {T : List Int} {k : Int} (h : k ∈ begL I T ∨ k = (I.length : Int)) : ∃ i, i ≤ (begL I T).length ∧ atOf (begL I T) (I.length : Int) i = k := by
  rcases h with h | h
  · obtain ⟨i, hi, e⟩ := List.mem_iff_getElem.1 h
    exact ⟨i, by omega, by rw [atOf_lt hi]; exact e⟩
  · exact ⟨_, Nat.le_refl _, by rw [atOf_end (Nat.le_refl _)]; exact h.symm⟩
theorem blk_iff {I : List Ins} {T : List Int} {k : Int} (h : k ∈ begL I T ∨ k = (I.length : Int)) {i : Nat} (hi : i ≤ (begL I T).length) :
    blkOf (begL I T) (I.length : Int) k = (i : Int) ↔ atOf (begL I T) (I.length : Int) i = k := by
  obtain ⟨j, hj, rfl⟩ := at_of h
  rw [blk_at hj]
  constructor
  · intro h; have : j = i := by omega
    subst this; rfl
  · intro h; rw [at_inj hi hj h]
theorem lead_mem {I : List Ins} {T : List Int} (hl : T.length = I.length) (hT : ∀ j, j < T.length → T.getD j 0 ≤ (I.length : Int)) {j : Nat} (hj : j < T.length) (h0 : 0 ≤ T.getD j 0) : T.getD j 0 ∈ begL I T ∨ T.getD j 0 = (I.length : Int) := by
  by_cases h : T.getD j 0 = (I.length : Int)
  · exact .inr h
  · refine .inl ?_
    have := hT j hj
    unfold begL begN
    refine List.mem_map.2 ⟨(T.getD j 0).toNat, List.mem_filter.2 ⟨List.mem_range.2 (by omega), ?_⟩, by omega⟩
    rw [bgB_iff]
    exact .inr (.inl ⟨j, hj, by omega⟩)
theorem land_mem {I : List Ins} {T : List Int} {k : Int} (h : k ∈ landI I) : k ∈ begL I T ∨ k = (I.length : Int) := by
  unfold landI at h
  obtain ⟨i, hi, rfl⟩ := List.mem_map.1 h
  rw [List.mem_filter, List.mem_range, beq_iff_eq] at hi
  by_cases h : (i : Int) + 1 = (I.length : Int)
  · exact .inr h
  · refine .inl ?_
    unfold begL begN
    refine List.mem_map.2 ⟨i + 1, List.mem_filter.2 ⟨List.mem_range.2 (by omega), ?_⟩, by omega⟩
    rw [bgB_iff]
    exact .inr (.inr ⟨i, hi.1, by unfold turnsB; rw [hi.2]; rfl, rfl⟩)
theorem land_pair (I : List Ins) : (landI I).Pairwise (· < ·) := by
  unfold landI
  rw [List.pairwise_map]
  exact (List.Pairwise.filter _ List.pairwise_lt_range).imp (by intro a b h; omega)
theorem land_iff {I : List Ins} {k : Int} : k ∈ landI I ↔ ∃ i, i < I.length ∧ (I.getD i (zeroI 0)).op = 26 ∧ k = (i : Int) + 1 := by
  unfold landI
  rw [List.mem_map]
  constructor
  · rintro ⟨i, hi, rfl⟩
    rw [List.mem_filter, List.mem_range, beq_iff_eq] at hi
    exact ⟨i, hi.1, hi.2, rfl⟩
  · rintro ⟨i, h1, h2, rfl⟩
    exact ⟨i, List.mem_filter.2 ⟨List.mem_range.2 h1, by rw [beq_iff_eq]; exact h2⟩, rfl⟩
/-! ### compact, of what is sorted -/
theorem comp_all (d : Array Int) (hs : ∀ i j, i ≤ j → j < d.size → d[i]! ≤ d[j]!) : ∀ m, m ≤ d.size → (Lib.compactUpTo d m).Pairwise (· < ·) ∧ (∀ x, x ∈ Lib.compactUpTo d m → ∀ j, m - 1 ≤ j → j < d.size → x ≤ d[j]!) ∧ (∀ x, x ∈ Lib.compactUpTo d m ↔ ∃ j, j < m ∧ d[j]! = x)
  | 0, _ => by
    unfold Lib.compactUpTo
    simp
  | m + 1, hm => by
    obtain ⟨h1, h2, h3⟩ := comp_all d hs m (by omega)
    rw [Lib.compactUpTo_succ]
    by_cases hk : Lib.keeps d m = true
    · rw [if_pos hk]
      have hk' : m = 0 ∨ d[m]! ≠ d[m - 1]! := by
        unfold Lib.keeps at hk; simpa using hk
      refine ⟨?_, ?_, ?_⟩
      · rw [List.pairwise_append]
        refine ⟨h1, by simp, fun a ha b hb => ?_⟩
        simp only [List.mem_singleton] at hb
        subst hb
        rcases hk' with h0 | hne
        · subst h0
          obtain ⟨j, hj, _⟩ := (h3 a).1 ha
          omega
        · have e1 := h2 a ha (m - 1) (by omega) (by omega)
          have e2 := hs (m - 1) m (by omega) (by omega)
          omega
      · intro x hx j hj hjs
        rw [List.mem_append, List.mem_singleton] at hx
        rcases hx with hx | rfl
        · exact h2 x hx j (by omega) hjs
        · exact hs m j (by omega) hjs
      · intro x
        rw [List.mem_append, List.mem_singleton, h3]
        constructor
        · rintro (⟨j, hj, e⟩ | rfl)
          · exact ⟨j, by omega, e⟩
          · exact ⟨m, by omega, rfl⟩
        · rintro ⟨j, hj, e⟩
          by_cases hjm : j = m
          · subst hjm; exact .inr e.symm
          · exact .inl ⟨j, by omega, e⟩
    · rw [if_neg hk, List.append_nil]
      have hk' : m ≠ 0 ∧ d[m]! = d[m - 1]! := by
        unfold Lib.keeps at hk; simpa [not_or] using hk
      refine ⟨h1, fun x hx j hj hjs => h2 x hx j (by omega) hjs, fun x => ?_⟩
      rw [h3]
      constructor
      · rintro ⟨j, hj, e⟩; exact ⟨j, by omega, e⟩
      · rintro ⟨j, hj, e⟩
        by_cases hjm : j = m
        · subst hjm; exact ⟨j - 1, by omega, by rw [← hk'.2]; exact e⟩
        · exact ⟨j, by omega, e⟩
theorem comp_sorted (l : List Int) : (Lib.compact (l.mergeSort leI)).Pairwise (· < ·) ∧ ∀ x, x ∈ Lib.compact (l.mergeSort leI) ↔ x ∈ l := by
  have tr : ∀ a b c : Int, leI a b = true → leI b c = true → leI a c = true := fun a b c h1 h2 => by simp only [leI, decide_eq_true_eq] at *; omega
  have tt : ∀ a b : Int, (leI a b || leI b a) = true := fun a b => by simp only [leI, Bool.or_eq_true, decide_eq_true_eq]; omega
  have hp := List.pairwise_mergeSort tr tt l
  obtain ⟨s, hs⟩ : ∃ s, l.mergeSort leI = s := ⟨_, rfl⟩
  have hm : ∀ x, x ∈ s ↔ x ∈ l := fun x => by rw [← hs]; exact List.mem_mergeSort
  rw [hs] at hp ⊢
  unfold Lib.compact
  have hget : ∀ i, ∀ h : i < s.length, s.toArray[i]! = s[i] := fun i h => by simp [h]
  have hle : ∀ i j, i ≤ j → j < s.toArray.size → s.toArray[i]! ≤ s.toArray[j]! := by
    intro i j hij hj
    have hj : j < s.length := by simpa using hj
    rw [hget i (by omega), hget j hj]
    rcases Nat.lt_or_eq_of_le hij with h | h
    · have := List.pairwise_iff_getElem.1 hp i j (by omega) hj h
      simpa only [leI, decide_eq_true_eq] using this
    · subst h; exact Int.le_refl _
  obtain ⟨h1, _, h3⟩ := comp_all s.toArray hle s.length (by simp)
  refine ⟨h1, fun x => ?_⟩
  rw [h3, ← hm, List.mem_iff_getElem]
  constructor
  · rintro ⟨j, hj, e⟩; exact ⟨j, hj, by rw [← hget j hj]; exact e⟩
  · rintro ⟨j, hj, e⟩; exact ⟨j, hj, by rw [hget j hj]; exact e⟩
theorem next_pair (I : List Ins) (T : List Int) (i : Nat) : (nextOf I T i).Pairwise (· < ·) := (comp_sorted _).1
theorem next_mem (I : List Ins) (T : List Int) (i : Nat) (x : Int) : x ∈ nextOf I T i ↔ x ∈ rawNext I T i := (comp_sorted _).2 x
end Go.Proofs.YtlkfmnabbmceeaaGreatDoor

namespace Go.Proofs.YtlkfmnabbmceeaaGreatDoor
open Go.RowKit Go.Maps
set_option maxHeartbeats 4000000
set_option maxRecDepth 100000

theorem zkeys : Keyed Tryz.prog 3 := int_keyed Tryz.underlying3
theorem lit_wf {k : Int} (h : -9223372036854775808 ≤ k ∧ k ≤ 9223372036854775807) : (Lit.int .i64 k).wf = true := by
  simp only [Lit.wf, Bool.and_eq_true, decide_eq_true_eq]; exact h
theorem zkey {k : Int} (h : -9223372036854775808 ≤ k ∧ k ≤ 9223372036854775807) : keyOf Tryz.prog 3 (.int .i64 k) = some (.int .i64 k) := keyOf_int_mk Tryz.underlying3 (lit_wf h)
/-- Block B is a map that answers as f does. -/
def ZMapIs (w : World) (B n : Nat) (f : Int → Option Int) : Prop :=
  ∃ D : DataW Unit, w.ownsMap Tryz.prog 3 (plainElem Tryz.prog 3) B n D ∧ ∀ k : Int, Maps.has D (.int .i64 k) = (f k).isSome ∧ D.atKey (.int .i64 k) (.lit (.int .i64 0)) = .lit (.int .i64 ((f k).getD 0))
theorem ZMapIs.made (w : World) : ZMapIs (w.alloc (.map #[] 0)) w.heap.size 0 (fun _ => none) :=
  ⟨.map [], World.ownsMap_made _ _ _ _, fun s => ⟨rfl, rfl⟩⟩
theorem ZMapIs.lt {w : World} {B n : Nat} {f : Int → Option Int} (h : ZMapIs w B n f) : B < w.heap.size := by
  obtain ⟨D, h, _⟩ := h; exact h.lt
theorem ZMapIs.mono {w : World} {B n m : Nat} {f : Int → Option Int} (h : ZMapIs w B n f) (hm : n ≤ m) : ZMapIs w B m f := by
  obtain ⟨D, h, k⟩ := h; exact ⟨D, h.mono hm, k⟩
theorem ZMapIs.same {w w' : World} {B n : Nat} {f : Int → Option Int} (h : ZMapIs w B n f) (hb : w'.heap[B]? = w.heap[B]?) : ZMapIs w' B n f := by
  obtain ⟨D, h, k⟩ := h
  refine ⟨D, ?_, k⟩
  unfold World.ownsMap at *
  rw [hb]; exact h
theorem ZMapIs.old {w w' : World} {B n : Nat} {f : Int → Option Int} (h : ZMapIs w B n f) (hb : Below w.heap.size w w') : ZMapIs w' B n f := h.same (hb.block B h.lt)
theorem ZMapIs.set {w : World} {B n : Nat} {f : Int → Option Int} (h : ZMapIs w B n f) {k : Nat} (hk : B ≠ k) (i : Nat) (v : Value) : ZMapIs (w.setCell ⟨k, i, none⟩ v) B n f := h.same (Below.heap_setCell _ _ _ _ hk)
theorem ZMapIs.ext {w : World} {B n : Nat} {f g : Int → Option Int} (h : ZMapIs w B n f) (hg : ∀ s, g s = f s) : ZMapIs w B n g := by
  obtain ⟨D, h, k⟩ := h; exact ⟨D, h, fun s => by rw [hg]; exact k s⟩
def putZ (f : Int → Option Int) (s : Int) (v : Int) : Int → Option Int := fun t => if t = s then some v else f t
theorem zkey_ne {s t : Int} (h : t ≠ s) : Lit.int .i64 t ≠ Lit.int .i64 s := fun e => h (by injection e)
theorem ZMapIs.look {w : World} {B n : Nat} {f : Int → Option Int} (h : ZMapIs w B n f) (s : Int) (hs : -9223372036854775808 ≤ s ∧ s ≤ 9223372036854775807) : (Instr.lookup 56 (.map (some B)) (.int .i64 s) false).run Tryz.prog w = .ok (.int .i64 ((f s).getD 0)) w := by
  obtain ⟨D, h, k⟩ := h
  obtain ⟨c, hrun, hat, _⟩ := h.lookup_int zkeys Tryz.underlying56 Tryz.underlying3 (mzero w) (zkey hs)
  rw [hrun]
  have := (k s).2
  rw [hat] at this
  simp only [DataW.lit.injEq, Lit.int.injEq, true_and] at this
  rw [this]
theorem ZMapIs.put {w : World} {B n : Nat} {f : Int → Option Int} (h : ZMapIs w B n f) (hn : n < 9223372036854775807) (s : Int) (hs : -9223372036854775808 ≤ s ∧ s ≤ 9223372036854775807) (v : Int) (hv : -9223372036854775808 ≤ v ∧ v ≤ 9223372036854775807) :
    ∃ w', (Instr.mapUpdate 56 (.map (some B)) (.int .i64 s) (.int .i64 v)).run Tryz.prog w = .ok () w' ∧ ZMapIs w' B (n + 1) (putZ f s v) ∧ w.grownBy w' (some B) := by
  obtain ⟨D, h, k⟩ := h
  obtain ⟨w', hrun, how, hg⟩ := h.update zkeys Tryz.underlying56 (by unfold maxLen; exact hn) (zkey hs) (plainElem_int (H := Unit) Tryz.underlying3 (lit_wf hv))
  refine ⟨w', hrun, ⟨_, how, fun t => ?_⟩, hg⟩
  unfold putZ
  by_cases ht : t = s
  · subst ht
    rw [if_pos rfl]
    exact ⟨has_put_same h.isMap (show WideAt.IsKeyLit (.int .i64 t) from trivial) _, atKey_put_same h.isMap (show WideAt.IsKeyLit (.int .i64 t) from trivial) _ _⟩
  · rw [if_neg ht]
    exact ⟨(has_put_other (zkey_ne ht) _).trans (k t).1, (atKey_put_other (zkey_ne ht) _ _).trans (k t).2⟩
section
variable (w : World) {ops : Array Oper} {rest : List Oper} {o : Oper} {a : Act} {Q : Exit → Act → World → Prop}
theorem wpList_zlook (hg : o.guard = none) (m x : Operand) (hop : o.op = Op.lookup 56 m x false) {B n : Nat} {f : Int → Option Int} (hm : a.eval m = .map (some B)) (h : ZMapIs w B n f) (s : Int) (hx : a.eval x = .int .i64 s) (hs : -9223372036854775808 ≤ s ∧ s ≤ 9223372036854775807)
    {v : Int} (hv : (f s).getD 0 = v) (hK : wpList Tryz.prog ops Q rest (a.put o.dst (.int .i64 v)) w) : wpList Tryz.prog ops Q (o :: rest) a w := by
  refine wpList_plain hg fun K' hK' => ?_
  have hrun := h.look s hs
  rw [hv] at hrun
  unfold Oper.wp
  simp [execOp, hop, hm, hx, hrun, Result.andThen]
  exact hK' _ _ hK
theorem wpList_zput (hg : o.guard = none) (m x v : Operand) (hop : o.op = Op.mapUpdate 56 m x v) {B n : Nat} {f : Int → Option Int} (hm : a.eval m = .map (some B)) (h : ZMapIs w B n f) (hn : n < 9223372036854775807) (s : Int) (hx : a.eval x = .int .i64 s) (hs : -9223372036854775808 ≤ s ∧ s ≤ 9223372036854775807)
    (z : Int) (hz : a.eval v = .int .i64 z) (hr : -9223372036854775808 ≤ z ∧ z ≤ 9223372036854775807)
    (hK : ∀ w', ZMapIs w' B (n + 1) (putZ f s z) → w.grownBy w' (some B) → wpList Tryz.prog ops Q rest (a.put o.dst undef) w') : wpList Tryz.prog ops Q (o :: rest) a w := by
  refine wpList_plain hg fun K' hK' => ?_
  obtain ⟨w', hrun, h1, h2⟩ := h.put hn s hs z hr
  unfold Oper.wp
  simp [execOp, hop, hm, hx, hz, hrun, Result.andThen]
  exact hK' _ _ (hK w' h1 h2)
end
end Go.Proofs.YtlkfmnabbmceeaaGreatDoor

namespace Go.Proofs.YtlkfmnabbmceeaaGreatDoor
open Go.RowKit Go.Maps
set_option maxHeartbeats 4000000
set_option maxRecDepth 100000

/-- Block B is a set that holds what f says. -/
def SMapIs (w : World) (B n : Nat) (f : Int → Bool) : Prop :=
  ∃ D : DataW Unit, w.ownsMap Tryz.prog 3 unitElem B n D ∧ ∀ k : Int, Maps.has D (.int .i64 k) = f k
theorem SMapIs.made (w : World) : SMapIs (w.alloc (.map #[] 0)) w.heap.size 0 (fun _ => false) :=
  ⟨.map [], World.ownsMap_made _ _ _ _, fun s => rfl⟩
theorem SMapIs.lt {w : World} {B n : Nat} {f : Int → Bool} (h : SMapIs w B n f) : B < w.heap.size := by
  obtain ⟨D, h, _⟩ := h; exact h.lt
theorem SMapIs.mono {w : World} {B n m : Nat} {f : Int → Bool} (h : SMapIs w B n f) (hm : n ≤ m) : SMapIs w B m f := by
  obtain ⟨D, h, k⟩ := h; exact ⟨D, h.mono hm, k⟩
theorem SMapIs.same {w w' : World} {B n : Nat} {f : Int → Bool} (h : SMapIs w B n f) (hb : w'.heap[B]? = w.heap[B]?) : SMapIs w' B n f := by
  obtain ⟨D, h, k⟩ := h
  refine ⟨D, ?_, k⟩
  unfold World.ownsMap at *
  rw [hb]; exact h
theorem SMapIs.old {w w' : World} {B n : Nat} {f : Int → Bool} (h : SMapIs w B n f) (hb : Below w.heap.size w w') : SMapIs w' B n f := h.same (hb.block B h.lt)
theorem SMapIs.set {w : World} {B n : Nat} {f : Int → Bool} (h : SMapIs w B n f) {k : Nat} (hk : B ≠ k) (i : Nat) (v : Value) : SMapIs (w.setCell ⟨k, i, none⟩ v) B n f := h.same (Below.heap_setCell _ _ _ _ hk)
theorem SMapIs.ext {w : World} {B n : Nat} {f g : Int → Bool} (h : SMapIs w B n f) (hg : ∀ s, g s = f s) : SMapIs w B n g := by
  obtain ⟨D, h, k⟩ := h; exact ⟨D, h, fun s => by rw [hg]; exact k s⟩
theorem SMapIs.put {w : World} {B n : Nat} {f : Int → Bool} (h : SMapIs w B n f) (hn : n < 9223372036854775807) (s : Int) (hs : -9223372036854775808 ≤ s ∧ s ≤ 9223372036854775807) :
    ∃ w', (Instr.mapUpdate 70 (.map (some B)) (.int .i64 s) (.agg #[])).run Tryz.prog w = .ok () w' ∧ SMapIs w' B (n + 1) (putB f s) ∧ w.grownBy w' (some B) := by
  obtain ⟨D, h, k⟩ := h
  obtain ⟨w', hrun, how, hg⟩ := h.update zkeys Tryz.underlying70 (by unfold maxLen; exact hn) (zkey hs) unitElem_mk
  refine ⟨w', hrun, ⟨_, how, fun t => ?_⟩, hg⟩
  unfold putB
  by_cases ht : t = s
  · subst ht
    rw [if_pos rfl]
    exact has_put_same h.isMap (show WideAt.IsKeyLit (.int .i64 t) from trivial) _
  · rw [if_neg ht]
    exact (has_put_other (zkey_ne ht) _).trans (k t)
section
variable (w : World) {ops : Array Oper} {rest : List Oper} {o : Oper} {a : Act} {Q : Exit → Act → World → Prop}
theorem wpList_sput (hg : o.guard = none) (m x v : Operand) (hop : o.op = Op.mapUpdate 70 m x v) {B n : Nat} {f : Int → Bool} (hm : a.eval m = .map (some B)) (h : SMapIs w B n f) (hn : n < 9223372036854775807) (s : Int) (hx : a.eval x = .int .i64 s) (hs : -9223372036854775808 ≤ s ∧ s ≤ 9223372036854775807)
    (hz : a.eval v = .agg #[])
    (hK : ∀ w', SMapIs w' B (n + 1) (putB f s) → w.grownBy w' (some B) → wpList Tryz.prog ops Q rest (a.put o.dst undef) w') : wpList Tryz.prog ops Q (o :: rest) a w := by
  refine wpList_plain hg fun K' hK' => ?_
  obtain ⟨w', hrun, h1, h2⟩ := h.put hn s hs
  unfold Oper.wp
  simp [execOp, hop, hm, hx, hz, hrun, Result.andThen]
  exact hK' _ _ (hK w' h1 h2)
theorem wpList_sdel (hg : o.guard = none) (m x : Operand) (hop : o.op = Op.call { callee := Callee.builtin Builtin.delete, args := #[m, x], argTypes := #[70, 3] }) {B n : Nat} {f : Int → Bool} (hm : a.eval m = .map (some B)) (h : SMapIs w B n f) (s : Int) (hx : a.eval x = .int .i64 s) (hs : -9223372036854775808 ≤ s ∧ s ≤ 9223372036854775807)
    (hK : ∀ w', SMapIs w' B n (delB f s) → w.grownBy w' (some B) → wpList Tryz.prog ops Q rest (a.put o.dst (.tuple #[])) w') : wpList Tryz.prog ops Q (o :: rest) a w := by
  obtain ⟨D, h, k⟩ := h
  refine wpList_delete_own w hg m x 70 3 hop 71 zkeys Tryz.underlying70 unitElem B n D hm h _ (.int .i64 s) hx (zkey hs) ?_
  intro w' how ht
  refine hK w' ⟨_, how, fun t => ?_⟩ ht.grown
  unfold delB
  by_cases he : t = s
  · subst he
    rw [if_pos rfl]
    exact has_del_same
  · rw [if_neg he]
    exact (has_del_other (zkey_ne he)).trans (k t)
end
end Go.Proofs.YtlkfmnabbmceeaaGreatDoor

namespace Go.Proofs.YtlkfmnabbmceeaaGreatDoor
open Go.RowKit
set_option maxHeartbeats 4000000
set_option maxRecDepth 100000

theorem turnsB_no {x : Ins} (h : ¬ (21 ≤ x.op ∧ x.op ≤ 27)) : turnsB x = false := by
  unfold turnsB
  by_cases h1 : 21 ≤ x.op
  · have : ¬ x.op ≤ 27 := fun h2 => h ⟨h1, h2⟩
    simp [this]
  · simp [h1]
theorem turnsB_yes {x : Ins} (h : 21 ≤ x.op ∧ x.op ≤ 27) : turnsB x = true := by
  unfold turnsB; simp [h.1, h.2]
theorem turns_any (x : Ins) (w : World) :
    Calls Tryz.prog 27 #[insV x] w fun e w' => e = .returned (.bool (turnsB x)) ∧ Below w.heap.size w w' := by
  by_cases h : 21 ≤ x.op ∧ x.op ≤ 27
  · rw [turnsB_yes h]
    obtain ⟨o, d, a, b, n, nm⟩ := x
    dsimp only at h
    have hc : o = 21 ∨ o = 22 ∨ o = 23 ∨ o = 24 ∨ o = 25 ∨ o = 26 ∨ o = 27 := by omega
    clear h
    unfold insV
    rcases hc with rfl | rfl | rfl | rfl | rfl | rfl | rfl
    all_goals
      go_enter Tryz.func27, Tryz.ntmps27
      go_wp2_with fail
      go_ret
      exact ⟨rfl, (Below.refl _ _).alloc (Nat.le_refl _) _⟩
  · rw [turnsB_no h]
    obtain ⟨o, d, a, b, n, nm⟩ := x
    dsimp only at h
    have e1 : (o == 21) = false := by simp; omega
    have e2 : (o == 22) = false := by simp; omega
    have e3 : (o == 23) = false := by simp; omega
    have e4 : (o == 24) = false := by simp; omega
    have e5 : (o == 25) = false := by simp; omega
    have e6 : (o == 26) = false := by simp; omega
    have e7 : (o == 27) = false := by simp; omega
    have n1 : ¬ o = 21 := by omega
    have n2 : ¬ o = 22 := by omega
    have n3 : ¬ o = 23 := by omega
    have n4 : ¬ o = 24 := by omega
    have n5 : ¬ o = 25 := by omega
    have n6 : ¬ o = 26 := by omega
    have n7 : ¬ o = 27 := by omega
    clear h
    unfold insV
    go_enter Tryz.func27, Tryz.ntmps27
    go_wp2_with fail
    go_ret
    exact ⟨rfl, (Below.refl _ _).alloc (Nat.le_refl _) _⟩
end Go.Proofs.YtlkfmnabbmceeaaGreatDoor
