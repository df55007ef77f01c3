/-
  Blocks: what the statements' tests come to. Plain functions alone.
  awake of law 19: the chapter's example holds. Condition: the library's variables lie in memory.
-/
import Derived.Test.YtlkfmnabbmceeaaGreatDoorBlkD
import Derived.Test.YtlkfmnabbmceeaaGreatDoorAsmI
import Derived.Test.YtlkfmnabbmceeaaGreatDoorAsmK
set_option linter.unusedVariables false
set_option linter.unusedSimpArgs false
namespace Go.Proofs.YtlkfmnabbmceeaaGreatDoor
set_option maxRecDepth 100000
set_option maxHeartbeats 4000000

theorem kright_op {x : Ins} (h : rightI x = true) : 0 ≤ x.op ∧ x.op < 29 := by
  by_cases hx : x.op < 0 ∨ 29 ≤ x.op
  · exfalso
    unfold rightI rowI at h
    rw [if_pos hx] at h
    cases hf : foldR x ([] : Bs) (zeroI x.op) with
    | none => rw [hf] at h; exact absurd h (by simp)
    | some o => rw [hf] at h; simp at h
  · omega
theorem kright_ret {x : Ins} (h : rightI x = true) (h27 : x.op = 27) : x.name = [] := by
  unfold rightI at h
  rw [h27] at h
  have hr : rowI 27 = ([114, 101, 116], []) := by kernel_rfl
  rw [hr] at h
  have hf : foldR x [] (zeroI 27) = some (zeroI 27) := rfl
  dsimp only at h
  rw [hf] at h
  simp only [Bool.and_eq_true] at h
  have := (insEq_iff _ _).1 h.2.1
  rw [← this]; rfl
theorem flat_right (c : Cd) : ∀ x, x ∈ (flatA c).1 → rightI x = true := by
  intro x hx
  unfold flatA at hx
  split at hx
  · rename_i hz
    obtain ⟨_, _, hl⟩ := checkC_open hz
    dsimp only at hx
    unfold insL at hx
    obtain ⟨y, hy, rfl⟩ := List.mem_map.1 hx
    rw [List.mem_filter, beq_iff_eq] at hy
    obtain ⟨j, hj, rfl⟩ := List.mem_iff_getElem.1 hy.1
    have hw := (lineE_zero.1 (hl j hj)).1
    unfold wellB at hw
    rw [if_pos hy.2] at hw
    exact hw
  · cases hx
theorem flat_ret (c : Cd) (j : Nat) (hj : j < (flatA c).1.length) (h27 : ((flatA c).1.getD j (zeroI 0)).op = 27) : (flatA c).2.getD j 0 = -1 := by
  have hr := flat_right c _ (List.getElem_mem hj)
  rw [List.getD_eq_getElem?_getD, List.getElem?_eq_getElem hj, Option.getD_some] at h27
  have hn := kright_ret hr h27
  revert hj
  unfold flatA
  split
  · intro hj hr h27 hn
    dsimp only at hj hr h27 hn ⊢
    have hj2 : j < ((insL c.lines).map (toA c)).length := by rw [List.length_map]; exact hj
    rw [List.getD_eq_getElem?_getD, List.getElem?_eq_getElem hj2, Option.getD_some, List.getElem_map]
    unfold toA
    rw [if_neg (fun h => h.2 hn)]
  · intro hj; simp at hj
theorem landN_pre (I : List Ins) (i : Nat) : ∀ k, landN I i <+: landN I (i + k)
  | 0 => List.prefix_refl _
  | k + 1 => by
    refine (landN_pre I i k).trans ?_
    show _ <+: (if (I.getD (i + k) (zeroI 0)).op = 26 then landN I (i + k) ++ [((i + k : Nat) : Int) + 1] else landN I (i + k))
    split
    · exact List.prefix_append _ _
    · exact List.prefix_refl _
theorem land_at (I : List Ins) (i : Nat) (hi : i < I.length) (h26 : (I.getD i (zeroI 0)).op = 26) : (landI I)[(landN I i).length]? = some ((i : Int) + 1) := by
  have h := landN_pre I (i + 1) (I.length - (i + 1))
  rw [show i + 1 + (I.length - (i + 1)) = I.length by omega, landN_end] at h
  have e : landN I (i + 1) = landN I i ++ [(i : Int) + 1] := by show (if _ then _ else _) = _; rw [if_pos h26]
  rw [e] at h
  obtain ⟨r, hr⟩ := h
  rw [← hr, List.append_assoc, List.getElem?_append_right (Nat.le_refl _), Nat.sub_self]; rfl
/-- Two rising lists of the same numbers are as long. -/
theorem same_len {a b : List Int} (ha : a.Pairwise (· < ·)) (hb : b.Nodup) (h : ∀ x, x ∈ a ↔ x ∈ b) : a.length = b.length :=
  ((List.perm_ext_iff_of_nodup (pair_nodup ha) hb).2 h).length_eq
theorem blk_land_nodup (I : List Ins) (T : List Int) : ((landI I).map (blkOf (begL I T) (I.length : Int))).Nodup := by
  show List.Pairwise (· ≠ ·) _
  rw [List.pairwise_map]
  refine (land_pair I).imp_of_mem fun {a b} ha hb hlt e => ?_
  obtain ⟨i, hi, rfl⟩ := at_of (land_mem (T := T) ha)
  obtain ⟨j, hj, rfl⟩ := at_of (land_mem (T := T) hb)
  rw [blk_at hi, blk_at hj] at e
  have : i = j := by omega
  subst this
  omega
theorem next_ret_len (I : List Ins) (T : List Int) (i last : Nat) (hla : endOf (begL I T) (I.length : Int) i = (last : Int) + 1) (h27 : (I.getD last (zeroI 0)).op = 27) (ht : T.getD last 0 = -1) : (nextOf I T i).length = (landI I).length := by
  have hr : rawNext I T i = (landI I).map (blkOf (begL I T) (I.length : Int)) := by
    rw [rawNext_eq I T i last _ _ _ _ rfl rfl (by rw [hla]; omega) rfl rfl, h27, ht]
    simp
  have := same_len (next_pair I T i) (blk_land_nodup I T) (fun x => by rw [next_mem, hr])
  rw [this, List.length_map]
/-- Inside a block nothing turns, and nothing leads there. -/
theorem inside_turns {I : List Ins} {T : List Int} {i p : Nat} (hi : i < (begL I T).length) (h1 : atOf (begL I T) (I.length : Int) i ≤ (p : Int)) (h2 : (p : Int) + 1 < atOf (begL I T) (I.length : Int) (i + 1)) : turnsB (I.getD p (zeroI 0)) = false := by
  have hg := beg_gap (p := p + 1) hi (by omega) (by omega)
  cases ht : turnsB (I.getD p (zeroI 0)) with
  | false => rfl
  | true =>
    have hp : p < I.length := by have := (at_le (I := I) (T := T) (i + 1)).2; omega
    have : bgB I T (p + 1) = true := bgB_iff.2 (.inr (.inr ⟨p, hp, ht, by omega⟩))
    rw [hg] at this; cases this
theorem inside_leads {I : List Ins} {T : List Int} {i k : Nat} (hi : i < (begL I T).length) (hk : k < T.length) (h1 : atOf (begL I T) (I.length : Int) i < T.getD k 0) (h2 : T.getD k 0 < atOf (begL I T) (I.length : Int) (i + 1)) : False := by
  have h0 := (at_le (I := I) (T := T) i).1
  obtain ⟨p, hp⟩ : ∃ p : Nat, T.getD k 0 = (p : Int) := ⟨(T.getD k 0).toNat, by omega⟩
  have hg := beg_gap (p := p) hi (by omega) (by omega)
  have : bgB I T p = true := bgB_iff.2 (.inr (.inl ⟨k, hk, hp⟩))
  rw [hg] at this; cases this
/-- What a block leads to, as the statement asks. -/
def wantP (I : List Ins) (T : List Int) (i last k : Nat) : Prop :=
  atOf (begL I T) (I.length : Int) k = T.getD last 0 ∨ (((I.getD last (zeroI 0)).op < 25 ∨ (I.getD last (zeroI 0)).op = 28) ∧ k = i + 1) ∨ ((I.getD last (zeroI 0)).op = 27 ∧ atOf (begL I T) (I.length : Int) k ∈ landI I)
theorem want_iff {I : List Ins} {T : List Int} (hl : T.length = I.length) (hT : ∀ j, j < T.length → T.getD j 0 ≤ (I.length : Int) ∧ -1 ≤ T.getD j 0) {i last k : Nat} (hi : i < (begL I T).length) (hk : k ≤ (begL I T).length)
    (hla : endOf (begL I T) (I.length : Int) i = (last : Int) + 1) (hln : last < I.length) (hop : 0 ≤ (I.getD last (zeroI 0)).op ∧ (I.getD last (zeroI 0)).op < 29) : (k : Int) ∈ nextOf I T i ↔ wantP I T i last k := by
  rw [next_mem, rawNext_eq I T i last _ _ _ _ rfl rfl (by rw [hla]; omega) rfl rfl, List.mem_append]
  unfold wantP
  have hTl := hT last (by omega)
  have h0 := (at_le (I := I) (T := T) k).1
  have e1 : (k : Int) ∈ (if 0 ≤ T.getD last 0 then [blkOf (begL I T) (I.length : Int) (T.getD last 0)] else []) ↔ atOf (begL I T) (I.length : Int) k = T.getD last 0 := by
    by_cases ht : 0 ≤ T.getD last 0
    · rw [if_pos ht, List.mem_singleton]
      have := blk_iff (lead_mem hl (fun j hj => (hT j hj).1) (by omega) ht) hk
      constructor
      · intro h; exact this.1 h.symm
      · intro h; exact (this.2 h).symm
    · rw [if_neg ht]
      constructor
      · intro h; cases h
      · intro h; omega
  rw [e1]
  refine or_congr Iff.rfl ?_
  generalize (I.getD last (zeroI 0)).op = o at hop ⊢
  by_cases h1 : o = 25 ∨ o = 26
  · rw [if_pos h1]
    constructor
    · intro h; cases h
    · rintro (⟨h, _⟩ | ⟨h, _⟩)
      · omega
      · omega
  · rw [if_neg h1]
    by_cases h2 : o = 27
    · rw [if_pos h2, List.mem_map]
      constructor
      · rintro ⟨p, hp, e⟩
        rw [blk_iff (land_mem (T := T) hp) hk] at e
        exact .inr ⟨h2, by rw [e]; exact hp⟩
      · rintro (⟨h, _⟩ | ⟨_, h⟩)
        · omega
        · exact ⟨_, h, (blk_iff (land_mem (T := T) h) hk).2 rfl⟩
    · rw [if_neg h2, List.mem_singleton]
      constructor
      · intro h; exact .inl ⟨by omega, by omega⟩
      · rintro (⟨_, h⟩ | ⟨h, _⟩)
        · omega
        · exact absurd h h2
theorem next_range {I : List Ins} {T : List Int} (hl : T.length = I.length) (hT : ∀ j, j < T.length → T.getD j 0 ≤ (I.length : Int) ∧ -1 ≤ T.getD j 0) {i : Nat} (hi : i < (begL I T).length) {x : Int} (hx : x ∈ nextOf I T i) : 0 ≤ x ∧ x ≤ ((begL I T).length : Int) := by
  obtain ⟨last, hla, hln⟩ := last_facts hl hi
  rw [next_mem, rawNext_eq I T i last _ _ _ _ rfl rfl (by rw [hla]; omega) rfl rfl, List.mem_append] at hx
  rcases hx with hx | hx
  · split at hx
    · rw [List.mem_singleton] at hx; subst hx; exact blkOf_range _ _ _
    · cases hx
  · split at hx
    · cases hx
    · split at hx
      · obtain ⟨p, _, rfl⟩ := List.mem_map.1 hx
        exact blkOf_range _ _ _
      · rw [List.mem_singleton] at hx; subst hx; omega
end Go.Proofs.YtlkfmnabbmceeaaGreatDoor

namespace Go.Proofs.YtlkfmnabbmceeaaGreatDoor
open Go.RowKit
set_option maxHeartbeats 4000000
set_option maxRecDepth 100000

def kaJ : Ins := ⟨25, 0, 0, 0, 0, [97]⟩
def kaC : Ins := ⟨26, 0, 0, 0, 0, [97]⟩
def kaR : Ins := ⟨27, 0, 0, 0, 0, []⟩
def kaM : Cd := ⟨[], [⟨[97], zeroI 0⟩, ⟨[], kaJ⟩, ⟨[], kaC⟩, ⟨[], kaR⟩]⟩
def kaS : Bs := [97, 58, 10, 106, 32, 97, 10, 106, 97, 108, 32, 97, 10, 114, 101, 116, 10]
theorem kaJ_right : rightI kaJ = true := by kernel_rfl
theorem kaC_right : rightI kaC = true := by kernel_rfl
theorem kaR_right : rightI kaR = true := by kernel_rfl
theorem kaJ_fits : FitsI kaJ := ⟨by decide, by decide⟩
theorem kaC_fits : FitsI kaC := ⟨by decide, by decide⟩
theorem kaR_fits : FitsI kaR := ⟨by decide, by decide⟩
theorem ka_zero_fits : FitsI (zeroI 0) := ⟨by decide, by decide⟩
theorem kw_a : wellB ⟨[97], zeroI 0⟩ = true := by decide
theorem ka_wells : ∀ x, x ∈ kaM.lines → wellB x = true ∧ FitsI x.ins := fun x hx => by
  simp only [kaM, List.mem_cons, List.not_mem_nil, or_false] at hx
  rcases hx with rfl | rfl | rfl | rfl
  · exact ⟨kw_a, ka_zero_fits⟩
  · exact ⟨kaJ_right, kaJ_fits⟩
  · exact ⟨kaC_right, kaC_fits⟩
  · exact ⟨kaR_right, kaR_fits⟩
theorem ka_check : checkC kaM = (0, 0) := by
  refine checkC_ok (by decide) (by decide) fun j hj => ?_
  have : j = 0 ∨ j = 1 ∨ j = 2 ∨ j = 3 := by have : j < 4 := hj; omega
  rcases this with rfl | rfl | rfl | rfl
  · exact lineE_zero.2 ⟨kw_a, fun _ => (show ((0 : Nat) : Int) ≤ placeI kaM.lines [97] by decide), (show knownB kaM (zeroI 0) = true by decide)⟩
  · exact lineE_zero.2 ⟨kaJ_right, fun h => absurd rfl h, (show knownB kaM kaJ = true by decide)⟩
  · exact lineE_zero.2 ⟨kaC_right, fun h => absurd rfl h, (show knownB kaM kaC = true by decide)⟩
  · exact lineE_zero.2 ⟨kaR_right, fun h => absurd rfl h, (show knownB kaM kaR = true by decide)⟩
theorem kt_j : textI kaJ = [106, 32, 97] := by kernel_rfl
theorem kt_c : textI kaC = [106, 97, 108, 32, 97] := by kernel_rfl
theorem kt_r : textI kaR = [114, 101, 116] := by kernel_rfl
theorem kl_a : lineC ⟨[97], zeroI 0⟩ = [97, 58] := by decide
theorem kl_j : lineC ⟨[], kaJ⟩ = [106, 32, 97] := kt_j
theorem kl_c : lineC ⟨[], kaC⟩ = [106, 97, 108, 32, 97] := kt_c
theorem kl_r : lineC ⟨[], kaR⟩ = [114, 101, 116] := kt_r
theorem ka_takes : takesB [] [] (NE (linesG [] kaS)) = some (kaM.arrs, kaM.lines) := by
  have e : NE (linesG [] kaS) = kaM.lines.map lineC := by
    show _ = [⟨[97], zeroI 0⟩, ⟨[], kaJ⟩, ⟨[], kaC⟩, ⟨[], kaR⟩].map lineC
    rw [List.map_cons, List.map_cons, List.map_cons, List.map_cons, kl_a, kl_j, kl_c, kl_r]
    decide +kernel
  rw [e]
  exact takesB_lines _ [] [] ka_wells
theorem ka_parse : parseA kaS = (kaM, 0, 0) := parse_of (by decide) ka_takes ka_check
theorem ka_flat : flatA kaM = ([kaJ, kaC, kaR], [0, 0, -1]) := by
  unfold flatA
  rw [ka_check, if_pos rfl]
  kernel_rfl
theorem ka_beg : begL [kaJ, kaC, kaR] [0, 0, -1] = [0, 1, 2] := by kernel_rfl
theorem ka_land : landI [kaJ, kaC, kaR] = [2] := by kernel_rfl
theorem ka_split : splitL (begL [kaJ, kaC, kaR] [0, 0, -1]) (([kaJ, kaC, kaR] : List Ins).length : Int) = [(0, 1), (1, 2), (2, 3)] := by rw [ka_beg]; kernel_rfl
theorem ka_one (x : Int) : Lib.compact (([x] : List Int).mergeSort leI) = [x] := by
  rw [List.mergeSort_singleton]
  simp [Lib.compact, Lib.compactUpTo, Lib.keeps]
theorem ka_r0 : rawNext [kaJ, kaC, kaR] [0, 0, -1] 0 = [0] := by kernel_rfl
theorem ka_r1 : rawNext [kaJ, kaC, kaR] [0, 0, -1] 1 = [0] := by kernel_rfl
theorem ka_r2 : rawNext [kaJ, kaC, kaR] [0, 0, -1] 2 = [2] := by kernel_rfl
theorem ka_next : nextL [kaJ, kaC, kaR] [0, 0, -1] = [[0], [0], [2]] := by
  unfold nextL
  rw [ka_beg]
  show [nextOf _ _ 0, nextOf _ _ 1, nextOf _ _ 2] = _
  unfold nextOf
  rw [ka_r0, ka_r1, ka_r2, ka_one, ka_one]
theorem ka_short : ShortC kaM := ⟨fun x hx => by
    simp only [kaM, List.mem_cons, List.not_mem_nil, or_false] at hx
    rcases hx with rfl | rfl | rfl | rfl
    · exact ⟨by decide, by decide⟩
    · exact ⟨by decide, by decide⟩
    · exact ⟨by decide, by decide⟩
    · exact ⟨by decide, by decide⟩, fun a ha => by cases ha⟩
@[go_sem] theorem ka_eq (w : World) : Sem.run Tryz.prog (Op.equalIn 10000 34 (Value.agg #[Value.int IntKind.i64 2, Value.int IntKind.i64 3]) (Value.agg #[Value.int IntKind.i64 2, Value.int IntKind.i64 3])) w = .ok true w := by kernel_rfl
theorem kawake_any (w : World) (hl : ILib w) :
    Calls Tryz.prog 6 #[] w fun e w' => e = .returned (.bool true) ∧ Below w.heap.size w w' := by
  have HL := Lib.hid hl
  have HP1 : Hid (∀ w', ILib w' → Calls Tryz.prog 12 #[.string ⟨#[97, 58, 10, 106, 32, 97, 10, 106, 97, 108, 32, 97, 10, 114, 101, 116, 10]⟩] w' fun e w'' => ∃ va vl, e = .returned (.tuple #[.agg #[va, vl], .int .i64 0, .int .i64 0]) ∧ CodeAt w'' kaM va vl ∧ Below w'.heap.size w' w'') := by
    intro w' h
    refine (codeParse_any kaS (by decide) w' h).mono ?_
    rw [ka_parse]
    rintro e w2 ⟨va, vl, h1, h2, _, h4⟩
    exact ⟨va, vl, h1, h2, h4⟩
  have HSP : Hid (∀ w' va vl, CodeAt w' kaM va vl → Calls Tryz.prog 9 #[.agg #[va, vl]] w' fun e w'' => ∃ v, e = .returned v ∧ RwAt prCells 2 w'' [((0 : Int), (1 : Int)), (1, 2), (2, 3)] v ∧ Below w'.heap.size w' w'') := by
    intro w' va vl h
    refine (split_any2 kaM va vl w' h ka_short).mono ?_
    rw [ka_flat]
    dsimp only
    rw [ka_split]
    rintro e w2 ⟨v, h1, h2, h3⟩
    exact ⟨v, h1, RwOwn.nilv h2 (by decide) prCells_len, h3⟩
  have HNX : Hid (∀ w' va vl, CodeAt w' kaM va vl → Calls Tryz.prog 10 #[.agg #[va, vl]] w' fun e w'' => ∃ v, e = .returned v ∧ NxtAt w'' [[0], [0], [2]] v ∧ Below w'.heap.size w' w'') := by
    intro w' va vl h
    have := next_any kaM va vl w' h ka_short
    rw [ka_flat] at this
    dsimp only at this
    rw [ka_next] at this
    exact this
  have HLA : Hid (∀ w' va vl, CodeAt w' kaM va vl → Calls Tryz.prog 11 #[.agg #[va, vl]] w' fun e w'' => ∃ v, e = .returned v ∧ NumsAt w'' [2] v ∧ Below w'.heap.size w' w'') := by
    intro w' va vl h
    refine (landings_any kaM va vl w' h ka_short).mono ?_
    rw [ka_flat]
    dsimp only
    rw [ka_land]
    rintro e w2 ⟨v, h1, h2, h3⟩
    exact ⟨v, h1, RwOwn.nilv h2 (by decide) intCells_len, h3⟩
  clear hl
  go_enter Tryz.func6, Tryz.ntmps6
  go_wp2_with fail
  refine (HP1.out _ HL.out).mono ?_
  rintro e w1 ⟨va, vl, rfl, hc1, hb1⟩
  obtain ⟨aa, ca, ha1⟩ := RwAt.shape hc1.1
  obtain ⟨al, cl, ha2⟩ := RwAt.shape hc1.2
  rw [show kaM.arrs.length = 0 from rfl] at ha1
  rw [show kaM.lines.length = 4 from rfl] at ha2
  subst ha1
  subst ha2
  have ho1 := OwnAt.new w1 [.slice aa 0 ca, .slice al 4 cl] 26
  have hbA : Below w1.heap.size w1 (w1.alloc (.cells #[.slice aa 0 ca, .slice al 4 cl] 26)) := (Below.refl _ _).alloc (Nat.le_refl _) _
  have HO1 := Lib.hid ho1
  have HC1 : Hid (CodeAt (w1.alloc (.cells #[.slice aa 0 ca, .slice al 4 cl] 26)) kaM (.slice aa 0 ca) (.slice al 4 cl)) := Lib.hid (hc1.old hbA)
  have HB1 := Lib.hid (hb1.trans (hbA.mono hb1.size))
  clear ho1 hbA hc1 hb1
  generalize kaM = M at *
  clear HP1
  go_wp2_with fail
  refine (HSP.out _ _ _ HC1.out).mono ?_
  rintro e w2 ⟨v2, rfl, h2, hb2⟩
  obtain ⟨a2, c2, rfl⟩ := RwAt.shape h2
  have HC2 := Lib.hid (HC1.out.old hb2)
  have HB2 := Lib.hid (HB1.out.trans (hb2.mono HB1.out.size))
  have HO2 := Lib.hid (HO1.out.old hb2)
  have HS2 := Lib.hid h2
  clear hb2 HO1 HC1 HB1 HSP h2
  have q0 := HO2.out.at 0 _ rfl
  have q1 := HO2.out.at 1 _ rfl
  go_wp2_with fail
  refine (HNX.out _ _ _ HC2.out).mono ?_
  rintro e w3 ⟨v3, rfl, h3, hb3⟩
  obtain ⟨a3, c3, rfl⟩ := NxtAt.shape h3
  have HC3 := Lib.hid (HC2.out.old hb3)
  have HB3 := Lib.hid (HB2.out.trans (hb3.mono HB2.out.size))
  have HO3 := Lib.hid (HO2.out.old hb3)
  have HS3 := Lib.hid (RwAt.old HS2.out hb3)
  have HX3 := Lib.hid h3
  clear hb3 HO2 HC2 HB2 HNX q0 q1 HS2 h3
  have q0 := HO3.out.at 0 _ rfl
  have q1 := HO3.out.at 1 _ rfl
  go_wp2_with fail
  refine (HLA.out _ _ _ HC3.out).mono ?_
  rintro e w4 ⟨v4, rfl, h4, hb4⟩
  obtain ⟨a4, c4, rfl⟩ := RwAt.shape h4
  obtain ⟨bl, ol, rfl, hbl, l0⟩ := NumsAt.at h4 (i := 0) (by decide)
  have HB4 := Lib.hid (HB3.out.trans (hb4.mono HB3.out.size))
  obtain ⟨bs, os, rfl, hsc⟩ := RwAt.at (RwAt.old HS3.out hb4) (i := 2) (p := ((2 : Int), (3 : Int))) rfl
  have s0 := hsc 0 _ rfl
  have s1 := hsc 1 _ rfl
  have hsl := World.block_lt_of_cell? _ _ s0
  obtain ⟨bn, on, cn0, ad0, m0, rfl, hbn, n0, hn0⟩ := NxtAt.at (HX3.out.old hb4) (i := 0) (by decide)
  obtain ⟨_, _, cn2, ad2, m2, e2, _, n2, hn2⟩ := NxtAt.at (HX3.out.old hb4) (i := 2) (by decide)
  cases e2
  obtain ⟨b0, o0, e0, hb0, z0⟩ := NumsAt.at hn0 (i := 0) (by show 0 < ([0] : List Int).length; decide)
  obtain ⟨b2, o2, e2, hb2, z2⟩ := NumsAt.at hn2 (i := 0) (by show 0 < ([2] : List Int).length; decide)
  subst e0
  subst e2
  obtain ⟨_, _, f0⟩ := RwAt.shape hn0
  obtain ⟨_, _, f2⟩ := RwAt.shape hn2
  simp only [Value.slice.injEq] at f0 f2
  obtain ⟨-, f0, -⟩ := f0
  obtain ⟨-, f2, -⟩ := f2
  have g0 : m0 = 1 := f0
  have g2 : m2 = 1 := f2
  clear f0 f2
  subst g0
  subst g2
  clear hn0 hn2 hsc h4 hb4 HO3 HC3 HB3 HLA q0 q1 HS3 HX3
  simp only [Nat.add_zero, List.length_cons, List.length_nil, List.getElem_cons_zero, List.getElem_cons_succ, Nat.reduceMul, Nat.reduceAdd] at s0 s1 hsl n0 n2 z0 z2 l0
  go_wp2_with fail
  go_ret
  exact ⟨rfl, HB4.out⟩
end Go.Proofs.YtlkfmnabbmceeaaGreatDoor
