/-
  The document's forms: an instruction's word and what stands behind it. No condition.
-/
import Derived.Test.YtgdnnaiidmfncaaDoorInstrF
set_option linter.unusedVariables false
set_option linter.unusedSimpArgs false
namespace Go.Proofs.YtgdnnaiidmfncaaDoor
open Go.RowKit
set_option maxHeartbeats 4000000
set_option maxRecDepth 100000

def formsV (op : Int) : Value := .tuple #[.string (strOf (rowI op).1), .string (strOf (rowI op).2)]
theorem words_at (k : Nat) (hk : k < 28) : ((rowsI.drop 1).map (fun r => Value.string (strOf r.1)))[k]? = some (.string (strOf (rowI ((k : Int) + 1)).1)) := by
  have hl : k + 1 < rowsI.length := by show k + 1 < 29; omega
  rw [List.getElem?_map, List.getElem?_drop, Nat.add_comm 1 k, List.getElem?_eq_getElem hl]
  unfold rowI
  rw [if_neg (by omega), show (((k : Int) + 1).toNat) = k + 1 by omega, List.getD_eq_getElem?_getD, List.getElem?_eq_getElem hl]
  rfl
theorem form_c1 (k : Nat) (hk : k < 28) (h0 : ((k : Int) + 1 ≤ 12)) (hf : (rowI ((k : Int) + 1)).2 = [68, 44, 32, 65, 44, 32, 66]) (w : World) :
    Calls Tryd.prog 28 #[.int .i64 ((k : Int) + 1)] w fun e w' => e = .returned (formsV ((k : Int) + 1)) ∧ Below w.heap.size w w' := by
  unfold formsV
  rw [hf]
  have HA := Lib.hid (words_at k hk)
  have HO := Lib.hid (show OwnAt (w.alloc (.cells #[.string ⟨#[97, 100, 100]⟩, .string ⟨#[115, 117, 98]⟩, .string ⟨#[109, 117, 108]⟩, .string ⟨#[100, 105, 118]⟩, .string ⟨#[114, 101, 109]⟩, .string ⟨#[97, 110, 100]⟩, .string ⟨#[111, 114]⟩, .string ⟨#[120, 111, 114]⟩, .string ⟨#[115, 108, 108]⟩, .string ⟨#[115, 114, 97]⟩, .string ⟨#[115, 108, 116]⟩, .string ⟨#[115, 108, 116, 117]⟩, .string ⟨#[115, 101, 113, 122]⟩, .string ⟨#[115, 110, 101, 122]⟩, .string ⟨#[109, 118]⟩, .string ⟨#[108, 105]⟩, .string ⟨#[108, 97]⟩, .string ⟨#[97, 100, 100, 105]⟩, .string ⟨#[108, 100]⟩, .string ⟨#[115, 100]⟩, .string ⟨#[98, 101, 113]⟩, .string ⟨#[98, 110, 101]⟩, .string ⟨#[98, 108, 116]⟩, .string ⟨#[98, 103, 101]⟩, .string ⟨#[106]⟩, .string ⟨#[106, 97, 108]⟩, .string ⟨#[114, 101, 116]⟩, .string ⟨#[101, 99, 97, 108, 108]⟩] 9)) w.heap.size ((rowsI.drop 1).map (fun r : Bs × Bs => Value.string (strOf r.1))) 9 from OwnAt.new w ((rowsI.drop 1).map (fun r : Bs × Bs => Value.string (strOf r.1))) 9)
  have HB := Lib.hid ((Below.refl w.heap.size w).alloc (Nat.le_refl _) (.cells #[.string ⟨#[97, 100, 100]⟩, .string ⟨#[115, 117, 98]⟩, .string ⟨#[109, 117, 108]⟩, .string ⟨#[100, 105, 118]⟩, .string ⟨#[114, 101, 109]⟩, .string ⟨#[97, 110, 100]⟩, .string ⟨#[111, 114]⟩, .string ⟨#[120, 111, 114]⟩, .string ⟨#[115, 108, 108]⟩, .string ⟨#[115, 114, 97]⟩, .string ⟨#[115, 108, 116]⟩, .string ⟨#[115, 108, 116, 117]⟩, .string ⟨#[115, 101, 113, 122]⟩, .string ⟨#[115, 110, 101, 122]⟩, .string ⟨#[109, 118]⟩, .string ⟨#[108, 105]⟩, .string ⟨#[108, 97]⟩, .string ⟨#[97, 100, 100, 105]⟩, .string ⟨#[108, 100]⟩, .string ⟨#[115, 100]⟩, .string ⟨#[98, 101, 113]⟩, .string ⟨#[98, 110, 101]⟩, .string ⟨#[98, 108, 116]⟩, .string ⟨#[98, 103, 101]⟩, .string ⟨#[106]⟩, .string ⟨#[106, 97, 108]⟩, .string ⟨#[114, 101, 116]⟩, .string ⟨#[101, 99, 97, 108, 108]⟩] 9))
  obtain ⟨wd, hwd⟩ : ∃ wd, (rowI ((k : Int) + 1)).1 = wd := ⟨_, rfl⟩
  rw [hwd] at HA ⊢
  clear hf hwd
  have c0 := HO.out.at k _ HA.out
  have hkI : (k : Int) < 28 := by omega
  have hkA : (k : Int) + 1 ≤ 28 := by omega
  have hkB : (1 : Int) ≤ (k : Int) + 1 := by omega
  obtain ⟨W, hW⟩ : ∃ W, w.alloc (.cells #[.string ⟨#[97, 100, 100]⟩, .string ⟨#[115, 117, 98]⟩, .string ⟨#[109, 117, 108]⟩, .string ⟨#[100, 105, 118]⟩, .string ⟨#[114, 101, 109]⟩, .string ⟨#[97, 110, 100]⟩, .string ⟨#[111, 114]⟩, .string ⟨#[120, 111, 114]⟩, .string ⟨#[115, 108, 108]⟩, .string ⟨#[115, 114, 97]⟩, .string ⟨#[115, 108, 116]⟩, .string ⟨#[115, 108, 116, 117]⟩, .string ⟨#[115, 101, 113, 122]⟩, .string ⟨#[115, 110, 101, 122]⟩, .string ⟨#[109, 118]⟩, .string ⟨#[108, 105]⟩, .string ⟨#[108, 97]⟩, .string ⟨#[97, 100, 100, 105]⟩, .string ⟨#[108, 100]⟩, .string ⟨#[115, 100]⟩, .string ⟨#[98, 101, 113]⟩, .string ⟨#[98, 110, 101]⟩, .string ⟨#[98, 108, 116]⟩, .string ⟨#[98, 103, 101]⟩, .string ⟨#[106]⟩, .string ⟨#[106, 97, 108]⟩, .string ⟨#[114, 101, 116]⟩, .string ⟨#[101, 99, 97, 108, 108]⟩] 9) = W := ⟨_, rfl⟩
  rw [hW] at c0 HB
  clear HO
  go_enter Tryd.func28, Tryd.ntmps28
  go_wp2_with fail
  go_ret2
  exact ⟨rfl, HB.out⟩
theorem form_c2 (k : Nat) (hk : k < 28) (h0 : (12 < (k : Int) + 1)) (h1 : ((k : Int) + 1 ≤ 15)) (hf : (rowI ((k : Int) + 1)).2 = [68, 44, 32, 65]) (w : World) :
    Calls Tryd.prog 28 #[.int .i64 ((k : Int) + 1)] w fun e w' => e = .returned (formsV ((k : Int) + 1)) ∧ Below w.heap.size w w' := by
  unfold formsV
  rw [hf]
  have HA := Lib.hid (words_at k hk)
  have HO := Lib.hid (show OwnAt (w.alloc (.cells #[.string ⟨#[97, 100, 100]⟩, .string ⟨#[115, 117, 98]⟩, .string ⟨#[109, 117, 108]⟩, .string ⟨#[100, 105, 118]⟩, .string ⟨#[114, 101, 109]⟩, .string ⟨#[97, 110, 100]⟩, .string ⟨#[111, 114]⟩, .string ⟨#[120, 111, 114]⟩, .string ⟨#[115, 108, 108]⟩, .string ⟨#[115, 114, 97]⟩, .string ⟨#[115, 108, 116]⟩, .string ⟨#[115, 108, 116, 117]⟩, .string ⟨#[115, 101, 113, 122]⟩, .string ⟨#[115, 110, 101, 122]⟩, .string ⟨#[109, 118]⟩, .string ⟨#[108, 105]⟩, .string ⟨#[108, 97]⟩, .string ⟨#[97, 100, 100, 105]⟩, .string ⟨#[108, 100]⟩, .string ⟨#[115, 100]⟩, .string ⟨#[98, 101, 113]⟩, .string ⟨#[98, 110, 101]⟩, .string ⟨#[98, 108, 116]⟩, .string ⟨#[98, 103, 101]⟩, .string ⟨#[106]⟩, .string ⟨#[106, 97, 108]⟩, .string ⟨#[114, 101, 116]⟩, .string ⟨#[101, 99, 97, 108, 108]⟩] 9)) w.heap.size ((rowsI.drop 1).map (fun r : Bs × Bs => Value.string (strOf r.1))) 9 from OwnAt.new w ((rowsI.drop 1).map (fun r : Bs × Bs => Value.string (strOf r.1))) 9)
  have HB := Lib.hid ((Below.refl w.heap.size w).alloc (Nat.le_refl _) (.cells #[.string ⟨#[97, 100, 100]⟩, .string ⟨#[115, 117, 98]⟩, .string ⟨#[109, 117, 108]⟩, .string ⟨#[100, 105, 118]⟩, .string ⟨#[114, 101, 109]⟩, .string ⟨#[97, 110, 100]⟩, .string ⟨#[111, 114]⟩, .string ⟨#[120, 111, 114]⟩, .string ⟨#[115, 108, 108]⟩, .string ⟨#[115, 114, 97]⟩, .string ⟨#[115, 108, 116]⟩, .string ⟨#[115, 108, 116, 117]⟩, .string ⟨#[115, 101, 113, 122]⟩, .string ⟨#[115, 110, 101, 122]⟩, .string ⟨#[109, 118]⟩, .string ⟨#[108, 105]⟩, .string ⟨#[108, 97]⟩, .string ⟨#[97, 100, 100, 105]⟩, .string ⟨#[108, 100]⟩, .string ⟨#[115, 100]⟩, .string ⟨#[98, 101, 113]⟩, .string ⟨#[98, 110, 101]⟩, .string ⟨#[98, 108, 116]⟩, .string ⟨#[98, 103, 101]⟩, .string ⟨#[106]⟩, .string ⟨#[106, 97, 108]⟩, .string ⟨#[114, 101, 116]⟩, .string ⟨#[101, 99, 97, 108, 108]⟩] 9))
  obtain ⟨wd, hwd⟩ : ∃ wd, (rowI ((k : Int) + 1)).1 = wd := ⟨_, rfl⟩
  rw [hwd] at HA ⊢
  clear hf hwd
  have c0 := HO.out.at k _ HA.out
  have hkI : (k : Int) < 28 := by omega
  have hkA : (k : Int) + 1 ≤ 28 := by omega
  have hkB : (1 : Int) ≤ (k : Int) + 1 := by omega
  obtain ⟨W, hW⟩ : ∃ W, w.alloc (.cells #[.string ⟨#[97, 100, 100]⟩, .string ⟨#[115, 117, 98]⟩, .string ⟨#[109, 117, 108]⟩, .string ⟨#[100, 105, 118]⟩, .string ⟨#[114, 101, 109]⟩, .string ⟨#[97, 110, 100]⟩, .string ⟨#[111, 114]⟩, .string ⟨#[120, 111, 114]⟩, .string ⟨#[115, 108, 108]⟩, .string ⟨#[115, 114, 97]⟩, .string ⟨#[115, 108, 116]⟩, .string ⟨#[115, 108, 116, 117]⟩, .string ⟨#[115, 101, 113, 122]⟩, .string ⟨#[115, 110, 101, 122]⟩, .string ⟨#[109, 118]⟩, .string ⟨#[108, 105]⟩, .string ⟨#[108, 97]⟩, .string ⟨#[97, 100, 100, 105]⟩, .string ⟨#[108, 100]⟩, .string ⟨#[115, 100]⟩, .string ⟨#[98, 101, 113]⟩, .string ⟨#[98, 110, 101]⟩, .string ⟨#[98, 108, 116]⟩, .string ⟨#[98, 103, 101]⟩, .string ⟨#[106]⟩, .string ⟨#[106, 97, 108]⟩, .string ⟨#[114, 101, 116]⟩, .string ⟨#[101, 99, 97, 108, 108]⟩] 9) = W := ⟨_, rfl⟩
  rw [hW] at c0 HB
  clear HO
  go_enter Tryd.func28, Tryd.ntmps28
  go_wp2_with fail
  go_ret2
  exact ⟨rfl, HB.out⟩
theorem form_c3 (k : Nat) (hk : k < 28) (h0 : (15 < (k : Int) + 1)) (h1 : ((((k : Int) + 1) == 16) = true)) (hf : (rowI ((k : Int) + 1)).2 = [68, 44, 32, 78]) (w : World) :
    Calls Tryd.prog 28 #[.int .i64 ((k : Int) + 1)] w fun e w' => e = .returned (formsV ((k : Int) + 1)) ∧ Below w.heap.size w w' := by
  unfold formsV
  rw [hf]
  have HA := Lib.hid (words_at k hk)
  have HO := Lib.hid (show OwnAt (w.alloc (.cells #[.string ⟨#[97, 100, 100]⟩, .string ⟨#[115, 117, 98]⟩, .string ⟨#[109, 117, 108]⟩, .string ⟨#[100, 105, 118]⟩, .string ⟨#[114, 101, 109]⟩, .string ⟨#[97, 110, 100]⟩, .string ⟨#[111, 114]⟩, .string ⟨#[120, 111, 114]⟩, .string ⟨#[115, 108, 108]⟩, .string ⟨#[115, 114, 97]⟩, .string ⟨#[115, 108, 116]⟩, .string ⟨#[115, 108, 116, 117]⟩, .string ⟨#[115, 101, 113, 122]⟩, .string ⟨#[115, 110, 101, 122]⟩, .string ⟨#[109, 118]⟩, .string ⟨#[108, 105]⟩, .string ⟨#[108, 97]⟩, .string ⟨#[97, 100, 100, 105]⟩, .string ⟨#[108, 100]⟩, .string ⟨#[115, 100]⟩, .string ⟨#[98, 101, 113]⟩, .string ⟨#[98, 110, 101]⟩, .string ⟨#[98, 108, 116]⟩, .string ⟨#[98, 103, 101]⟩, .string ⟨#[106]⟩, .string ⟨#[106, 97, 108]⟩, .string ⟨#[114, 101, 116]⟩, .string ⟨#[101, 99, 97, 108, 108]⟩] 9)) w.heap.size ((rowsI.drop 1).map (fun r : Bs × Bs => Value.string (strOf r.1))) 9 from OwnAt.new w ((rowsI.drop 1).map (fun r : Bs × Bs => Value.string (strOf r.1))) 9)
  have HB := Lib.hid ((Below.refl w.heap.size w).alloc (Nat.le_refl _) (.cells #[.string ⟨#[97, 100, 100]⟩, .string ⟨#[115, 117, 98]⟩, .string ⟨#[109, 117, 108]⟩, .string ⟨#[100, 105, 118]⟩, .string ⟨#[114, 101, 109]⟩, .string ⟨#[97, 110, 100]⟩, .string ⟨#[111, 114]⟩, .string ⟨#[120, 111, 114]⟩, .string ⟨#[115, 108, 108]⟩, .string ⟨#[115, 114, 97]⟩, .string ⟨#[115, 108, 116]⟩, .string ⟨#[115, 108, 116, 117]⟩, .string ⟨#[115, 101, 113, 122]⟩, .string ⟨#[115, 110, 101, 122]⟩, .string ⟨#[109, 118]⟩, .string ⟨#[108, 105]⟩, .string ⟨#[108, 97]⟩, .string ⟨#[97, 100, 100, 105]⟩, .string ⟨#[108, 100]⟩, .string ⟨#[115, 100]⟩, .string ⟨#[98, 101, 113]⟩, .string ⟨#[98, 110, 101]⟩, .string ⟨#[98, 108, 116]⟩, .string ⟨#[98, 103, 101]⟩, .string ⟨#[106]⟩, .string ⟨#[106, 97, 108]⟩, .string ⟨#[114, 101, 116]⟩, .string ⟨#[101, 99, 97, 108, 108]⟩] 9))
  obtain ⟨wd, hwd⟩ : ∃ wd, (rowI ((k : Int) + 1)).1 = wd := ⟨_, rfl⟩
  rw [hwd] at HA ⊢
  clear hf hwd
  have c0 := HO.out.at k _ HA.out
  have hkI : (k : Int) < 28 := by omega
  have hkA : (k : Int) + 1 ≤ 28 := by omega
  have hkB : (1 : Int) ≤ (k : Int) + 1 := by omega
  obtain ⟨W, hW⟩ : ∃ W, w.alloc (.cells #[.string ⟨#[97, 100, 100]⟩, .string ⟨#[115, 117, 98]⟩, .string ⟨#[109, 117, 108]⟩, .string ⟨#[100, 105, 118]⟩, .string ⟨#[114, 101, 109]⟩, .string ⟨#[97, 110, 100]⟩, .string ⟨#[111, 114]⟩, .string ⟨#[120, 111, 114]⟩, .string ⟨#[115, 108, 108]⟩, .string ⟨#[115, 114, 97]⟩, .string ⟨#[115, 108, 116]⟩, .string ⟨#[115, 108, 116, 117]⟩, .string ⟨#[115, 101, 113, 122]⟩, .string ⟨#[115, 110, 101, 122]⟩, .string ⟨#[109, 118]⟩, .string ⟨#[108, 105]⟩, .string ⟨#[108, 97]⟩, .string ⟨#[97, 100, 100, 105]⟩, .string ⟨#[108, 100]⟩, .string ⟨#[115, 100]⟩, .string ⟨#[98, 101, 113]⟩, .string ⟨#[98, 110, 101]⟩, .string ⟨#[98, 108, 116]⟩, .string ⟨#[98, 103, 101]⟩, .string ⟨#[106]⟩, .string ⟨#[106, 97, 108]⟩, .string ⟨#[114, 101, 116]⟩, .string ⟨#[101, 99, 97, 108, 108]⟩] 9) = W := ⟨_, rfl⟩
  rw [hW] at c0 HB
  clear HO
  go_enter Tryd.func28, Tryd.ntmps28
  go_wp2_with fail
  go_ret2
  exact ⟨rfl, HB.out⟩
theorem form_c4 (k : Nat) (hk : k < 28) (h0 : (15 < (k : Int) + 1)) (h1 : ((((k : Int) + 1) == 16) = false)) (h2 : ((((k : Int) + 1) == 17) = true)) (hf : (rowI ((k : Int) + 1)).2 = [68, 44, 32, 76]) (w : World) :
    Calls Tryd.prog 28 #[.int .i64 ((k : Int) + 1)] w fun e w' => e = .returned (formsV ((k : Int) + 1)) ∧ Below w.heap.size w w' := by
  unfold formsV
  rw [hf]
  have HA := Lib.hid (words_at k hk)
  have HO := Lib.hid (show OwnAt (w.alloc (.cells #[.string ⟨#[97, 100, 100]⟩, .string ⟨#[115, 117, 98]⟩, .string ⟨#[109, 117, 108]⟩, .string ⟨#[100, 105, 118]⟩, .string ⟨#[114, 101, 109]⟩, .string ⟨#[97, 110, 100]⟩, .string ⟨#[111, 114]⟩, .string ⟨#[120, 111, 114]⟩, .string ⟨#[115, 108, 108]⟩, .string ⟨#[115, 114, 97]⟩, .string ⟨#[115, 108, 116]⟩, .string ⟨#[115, 108, 116, 117]⟩, .string ⟨#[115, 101, 113, 122]⟩, .string ⟨#[115, 110, 101, 122]⟩, .string ⟨#[109, 118]⟩, .string ⟨#[108, 105]⟩, .string ⟨#[108, 97]⟩, .string ⟨#[97, 100, 100, 105]⟩, .string ⟨#[108, 100]⟩, .string ⟨#[115, 100]⟩, .string ⟨#[98, 101, 113]⟩, .string ⟨#[98, 110, 101]⟩, .string ⟨#[98, 108, 116]⟩, .string ⟨#[98, 103, 101]⟩, .string ⟨#[106]⟩, .string ⟨#[106, 97, 108]⟩, .string ⟨#[114, 101, 116]⟩, .string ⟨#[101, 99, 97, 108, 108]⟩] 9)) w.heap.size ((rowsI.drop 1).map (fun r : Bs × Bs => Value.string (strOf r.1))) 9 from OwnAt.new w ((rowsI.drop 1).map (fun r : Bs × Bs => Value.string (strOf r.1))) 9)
  have HB := Lib.hid ((Below.refl w.heap.size w).alloc (Nat.le_refl _) (.cells #[.string ⟨#[97, 100, 100]⟩, .string ⟨#[115, 117, 98]⟩, .string ⟨#[109, 117, 108]⟩, .string ⟨#[100, 105, 118]⟩, .string ⟨#[114, 101, 109]⟩, .string ⟨#[97, 110, 100]⟩, .string ⟨#[111, 114]⟩, .string ⟨#[120, 111, 114]⟩, .string ⟨#[115, 108, 108]⟩, .string ⟨#[115, 114, 97]⟩, .string ⟨#[115, 108, 116]⟩, .string ⟨#[115, 108, 116, 117]⟩, .string ⟨#[115, 101, 113, 122]⟩, .string ⟨#[115, 110, 101, 122]⟩, .string ⟨#[109, 118]⟩, .string ⟨#[108, 105]⟩, .string ⟨#[108, 97]⟩, .string ⟨#[97, 100, 100, 105]⟩, .string ⟨#[108, 100]⟩, .string ⟨#[115, 100]⟩, .string ⟨#[98, 101, 113]⟩, .string ⟨#[98, 110, 101]⟩, .string ⟨#[98, 108, 116]⟩, .string ⟨#[98, 103, 101]⟩, .string ⟨#[106]⟩, .string ⟨#[106, 97, 108]⟩, .string ⟨#[114, 101, 116]⟩, .string ⟨#[101, 99, 97, 108, 108]⟩] 9))
  obtain ⟨wd, hwd⟩ : ∃ wd, (rowI ((k : Int) + 1)).1 = wd := ⟨_, rfl⟩
  rw [hwd] at HA ⊢
  clear hf hwd
  have c0 := HO.out.at k _ HA.out
  have hkI : (k : Int) < 28 := by omega
  have hkA : (k : Int) + 1 ≤ 28 := by omega
  have hkB : (1 : Int) ≤ (k : Int) + 1 := by omega
  obtain ⟨W, hW⟩ : ∃ W, w.alloc (.cells #[.string ⟨#[97, 100, 100]⟩, .string ⟨#[115, 117, 98]⟩, .string ⟨#[109, 117, 108]⟩, .string ⟨#[100, 105, 118]⟩, .string ⟨#[114, 101, 109]⟩, .string ⟨#[97, 110, 100]⟩, .string ⟨#[111, 114]⟩, .string ⟨#[120, 111, 114]⟩, .string ⟨#[115, 108, 108]⟩, .string ⟨#[115, 114, 97]⟩, .string ⟨#[115, 108, 116]⟩, .string ⟨#[115, 108, 116, 117]⟩, .string ⟨#[115, 101, 113, 122]⟩, .string ⟨#[115, 110, 101, 122]⟩, .string ⟨#[109, 118]⟩, .string ⟨#[108, 105]⟩, .string ⟨#[108, 97]⟩, .string ⟨#[97, 100, 100, 105]⟩, .string ⟨#[108, 100]⟩, .string ⟨#[115, 100]⟩, .string ⟨#[98, 101, 113]⟩, .string ⟨#[98, 110, 101]⟩, .string ⟨#[98, 108, 116]⟩, .string ⟨#[98, 103, 101]⟩, .string ⟨#[106]⟩, .string ⟨#[106, 97, 108]⟩, .string ⟨#[114, 101, 116]⟩, .string ⟨#[101, 99, 97, 108, 108]⟩] 9) = W := ⟨_, rfl⟩
  rw [hW] at c0 HB
  clear HO
  go_enter Tryd.func28, Tryd.ntmps28
  go_wp2_with fail
  go_ret2
  exact ⟨rfl, HB.out⟩
theorem form_c5 (k : Nat) (hk : k < 28) (h0 : (15 < (k : Int) + 1)) (h1 : ((((k : Int) + 1) == 16) = false)) (h2 : ((((k : Int) + 1) == 17) = false)) (h3 : ((((k : Int) + 1) == 18) = true)) (hf : (rowI ((k : Int) + 1)).2 = [68, 44, 32, 65, 44, 32, 83]) (w : World) :
    Calls Tryd.prog 28 #[.int .i64 ((k : Int) + 1)] w fun e w' => e = .returned (formsV ((k : Int) + 1)) ∧ Below w.heap.size w w' := by
  unfold formsV
  rw [hf]
  have HA := Lib.hid (words_at k hk)
  have HO := Lib.hid (show OwnAt (w.alloc (.cells #[.string ⟨#[97, 100, 100]⟩, .string ⟨#[115, 117, 98]⟩, .string ⟨#[109, 117, 108]⟩, .string ⟨#[100, 105, 118]⟩, .string ⟨#[114, 101, 109]⟩, .string ⟨#[97, 110, 100]⟩, .string ⟨#[111, 114]⟩, .string ⟨#[120, 111, 114]⟩, .string ⟨#[115, 108, 108]⟩, .string ⟨#[115, 114, 97]⟩, .string ⟨#[115, 108, 116]⟩, .string ⟨#[115, 108, 116, 117]⟩, .string ⟨#[115, 101, 113, 122]⟩, .string ⟨#[115, 110, 101, 122]⟩, .string ⟨#[109, 118]⟩, .string ⟨#[108, 105]⟩, .string ⟨#[108, 97]⟩, .string ⟨#[97, 100, 100, 105]⟩, .string ⟨#[108, 100]⟩, .string ⟨#[115, 100]⟩, .string ⟨#[98, 101, 113]⟩, .string ⟨#[98, 110, 101]⟩, .string ⟨#[98, 108, 116]⟩, .string ⟨#[98, 103, 101]⟩, .string ⟨#[106]⟩, .string ⟨#[106, 97, 108]⟩, .string ⟨#[114, 101, 116]⟩, .string ⟨#[101, 99, 97, 108, 108]⟩] 9)) w.heap.size ((rowsI.drop 1).map (fun r : Bs × Bs => Value.string (strOf r.1))) 9 from OwnAt.new w ((rowsI.drop 1).map (fun r : Bs × Bs => Value.string (strOf r.1))) 9)
  have HB := Lib.hid ((Below.refl w.heap.size w).alloc (Nat.le_refl _) (.cells #[.string ⟨#[97, 100, 100]⟩, .string ⟨#[115, 117, 98]⟩, .string ⟨#[109, 117, 108]⟩, .string ⟨#[100, 105, 118]⟩, .string ⟨#[114, 101, 109]⟩, .string ⟨#[97, 110, 100]⟩, .string ⟨#[111, 114]⟩, .string ⟨#[120, 111, 114]⟩, .string ⟨#[115, 108, 108]⟩, .string ⟨#[115, 114, 97]⟩, .string ⟨#[115, 108, 116]⟩, .string ⟨#[115, 108, 116, 117]⟩, .string ⟨#[115, 101, 113, 122]⟩, .string ⟨#[115, 110, 101, 122]⟩, .string ⟨#[109, 118]⟩, .string ⟨#[108, 105]⟩, .string ⟨#[108, 97]⟩, .string ⟨#[97, 100, 100, 105]⟩, .string ⟨#[108, 100]⟩, .string ⟨#[115, 100]⟩, .string ⟨#[98, 101, 113]⟩, .string ⟨#[98, 110, 101]⟩, .string ⟨#[98, 108, 116]⟩, .string ⟨#[98, 103, 101]⟩, .string ⟨#[106]⟩, .string ⟨#[106, 97, 108]⟩, .string ⟨#[114, 101, 116]⟩, .string ⟨#[101, 99, 97, 108, 108]⟩] 9))
  obtain ⟨wd, hwd⟩ : ∃ wd, (rowI ((k : Int) + 1)).1 = wd := ⟨_, rfl⟩
  rw [hwd] at HA ⊢
  clear hf hwd
  have c0 := HO.out.at k _ HA.out
  have hkI : (k : Int) < 28 := by omega
  have hkA : (k : Int) + 1 ≤ 28 := by omega
  have hkB : (1 : Int) ≤ (k : Int) + 1 := by omega
  obtain ⟨W, hW⟩ : ∃ W, w.alloc (.cells #[.string ⟨#[97, 100, 100]⟩, .string ⟨#[115, 117, 98]⟩, .string ⟨#[109, 117, 108]⟩, .string ⟨#[100, 105, 118]⟩, .string ⟨#[114, 101, 109]⟩, .string ⟨#[97, 110, 100]⟩, .string ⟨#[111, 114]⟩, .string ⟨#[120, 111, 114]⟩, .string ⟨#[115, 108, 108]⟩, .string ⟨#[115, 114, 97]⟩, .string ⟨#[115, 108, 116]⟩, .string ⟨#[115, 108, 116, 117]⟩, .string ⟨#[115, 101, 113, 122]⟩, .string ⟨#[115, 110, 101, 122]⟩, .string ⟨#[109, 118]⟩, .string ⟨#[108, 105]⟩, .string ⟨#[108, 97]⟩, .string ⟨#[97, 100, 100, 105]⟩, .string ⟨#[108, 100]⟩, .string ⟨#[115, 100]⟩, .string ⟨#[98, 101, 113]⟩, .string ⟨#[98, 110, 101]⟩, .string ⟨#[98, 108, 116]⟩, .string ⟨#[98, 103, 101]⟩, .string ⟨#[106]⟩, .string ⟨#[106, 97, 108]⟩, .string ⟨#[114, 101, 116]⟩, .string ⟨#[101, 99, 97, 108, 108]⟩] 9) = W := ⟨_, rfl⟩
  rw [hW] at c0 HB
  clear HO
  go_enter Tryd.func28, Tryd.ntmps28
  go_wp2_with fail
  go_ret2
  exact ⟨rfl, HB.out⟩
theorem form_c6 (k : Nat) (hk : k < 28) (h0 : (15 < (k : Int) + 1)) (h1 : ((((k : Int) + 1) == 16) = false)) (h2 : ((((k : Int) + 1) == 17) = false)) (h3 : ((((k : Int) + 1) == 18) = false)) (h4 : ((((k : Int) + 1) == 19) = true)) (hf : (rowI ((k : Int) + 1)).2 = [68, 44, 32, 83, 40, 65, 41]) (w : World) :
    Calls Tryd.prog 28 #[.int .i64 ((k : Int) + 1)] w fun e w' => e = .returned (formsV ((k : Int) + 1)) ∧ Below w.heap.size w w' := by
  unfold formsV
  rw [hf]
  have HA := Lib.hid (words_at k hk)
  have HO := Lib.hid (show OwnAt (w.alloc (.cells #[.string ⟨#[97, 100, 100]⟩, .string ⟨#[115, 117, 98]⟩, .string ⟨#[109, 117, 108]⟩, .string ⟨#[100, 105, 118]⟩, .string ⟨#[114, 101, 109]⟩, .string ⟨#[97, 110, 100]⟩, .string ⟨#[111, 114]⟩, .string ⟨#[120, 111, 114]⟩, .string ⟨#[115, 108, 108]⟩, .string ⟨#[115, 114, 97]⟩, .string ⟨#[115, 108, 116]⟩, .string ⟨#[115, 108, 116, 117]⟩, .string ⟨#[115, 101, 113, 122]⟩, .string ⟨#[115, 110, 101, 122]⟩, .string ⟨#[109, 118]⟩, .string ⟨#[108, 105]⟩, .string ⟨#[108, 97]⟩, .string ⟨#[97, 100, 100, 105]⟩, .string ⟨#[108, 100]⟩, .string ⟨#[115, 100]⟩, .string ⟨#[98, 101, 113]⟩, .string ⟨#[98, 110, 101]⟩, .string ⟨#[98, 108, 116]⟩, .string ⟨#[98, 103, 101]⟩, .string ⟨#[106]⟩, .string ⟨#[106, 97, 108]⟩, .string ⟨#[114, 101, 116]⟩, .string ⟨#[101, 99, 97, 108, 108]⟩] 9)) w.heap.size ((rowsI.drop 1).map (fun r : Bs × Bs => Value.string (strOf r.1))) 9 from OwnAt.new w ((rowsI.drop 1).map (fun r : Bs × Bs => Value.string (strOf r.1))) 9)
  have HB := Lib.hid ((Below.refl w.heap.size w).alloc (Nat.le_refl _) (.cells #[.string ⟨#[97, 100, 100]⟩, .string ⟨#[115, 117, 98]⟩, .string ⟨#[109, 117, 108]⟩, .string ⟨#[100, 105, 118]⟩, .string ⟨#[114, 101, 109]⟩, .string ⟨#[97, 110, 100]⟩, .string ⟨#[111, 114]⟩, .string ⟨#[120, 111, 114]⟩, .string ⟨#[115, 108, 108]⟩, .string ⟨#[115, 114, 97]⟩, .string ⟨#[115, 108, 116]⟩, .string ⟨#[115, 108, 116, 117]⟩, .string ⟨#[115, 101, 113, 122]⟩, .string ⟨#[115, 110, 101, 122]⟩, .string ⟨#[109, 118]⟩, .string ⟨#[108, 105]⟩, .string ⟨#[108, 97]⟩, .string ⟨#[97, 100, 100, 105]⟩, .string ⟨#[108, 100]⟩, .string ⟨#[115, 100]⟩, .string ⟨#[98, 101, 113]⟩, .string ⟨#[98, 110, 101]⟩, .string ⟨#[98, 108, 116]⟩, .string ⟨#[98, 103, 101]⟩, .string ⟨#[106]⟩, .string ⟨#[106, 97, 108]⟩, .string ⟨#[114, 101, 116]⟩, .string ⟨#[101, 99, 97, 108, 108]⟩] 9))
  obtain ⟨wd, hwd⟩ : ∃ wd, (rowI ((k : Int) + 1)).1 = wd := ⟨_, rfl⟩
  rw [hwd] at HA ⊢
  clear hf hwd
  have c0 := HO.out.at k _ HA.out
  have hkI : (k : Int) < 28 := by omega
  have hkA : (k : Int) + 1 ≤ 28 := by omega
  have hkB : (1 : Int) ≤ (k : Int) + 1 := by omega
  obtain ⟨W, hW⟩ : ∃ W, w.alloc (.cells #[.string ⟨#[97, 100, 100]⟩, .string ⟨#[115, 117, 98]⟩, .string ⟨#[109, 117, 108]⟩, .string ⟨#[100, 105, 118]⟩, .string ⟨#[114, 101, 109]⟩, .string ⟨#[97, 110, 100]⟩, .string ⟨#[111, 114]⟩, .string ⟨#[120, 111, 114]⟩, .string ⟨#[115, 108, 108]⟩, .string ⟨#[115, 114, 97]⟩, .string ⟨#[115, 108, 116]⟩, .string ⟨#[115, 108, 116, 117]⟩, .string ⟨#[115, 101, 113, 122]⟩, .string ⟨#[115, 110, 101, 122]⟩, .string ⟨#[109, 118]⟩, .string ⟨#[108, 105]⟩, .string ⟨#[108, 97]⟩, .string ⟨#[97, 100, 100, 105]⟩, .string ⟨#[108, 100]⟩, .string ⟨#[115, 100]⟩, .string ⟨#[98, 101, 113]⟩, .string ⟨#[98, 110, 101]⟩, .string ⟨#[98, 108, 116]⟩, .string ⟨#[98, 103, 101]⟩, .string ⟨#[106]⟩, .string ⟨#[106, 97, 108]⟩, .string ⟨#[114, 101, 116]⟩, .string ⟨#[101, 99, 97, 108, 108]⟩] 9) = W := ⟨_, rfl⟩
  rw [hW] at c0 HB
  clear HO
  go_enter Tryd.func28, Tryd.ntmps28
  go_wp2_with fail
  go_ret2
  exact ⟨rfl, HB.out⟩
theorem form_c7 (k : Nat) (hk : k < 28) (h0 : (15 < (k : Int) + 1)) (h1 : ((((k : Int) + 1) == 16) = false)) (h2 : ((((k : Int) + 1) == 17) = false)) (h3 : ((((k : Int) + 1) == 18) = false)) (h4 : ((((k : Int) + 1) == 19) = false)) (h5 : ((((k : Int) + 1) == 20) = true)) (hf : (rowI ((k : Int) + 1)).2 = [66, 44, 32, 83, 40, 65, 41]) (w : World) :
    Calls Tryd.prog 28 #[.int .i64 ((k : Int) + 1)] w fun e w' => e = .returned (formsV ((k : Int) + 1)) ∧ Below w.heap.size w w' := by
  unfold formsV
  rw [hf]
  have HA := Lib.hid (words_at k hk)
  have HO := Lib.hid (show OwnAt (w.alloc (.cells #[.string ⟨#[97, 100, 100]⟩, .string ⟨#[115, 117, 98]⟩, .string ⟨#[109, 117, 108]⟩, .string ⟨#[100, 105, 118]⟩, .string ⟨#[114, 101, 109]⟩, .string ⟨#[97, 110, 100]⟩, .string ⟨#[111, 114]⟩, .string ⟨#[120, 111, 114]⟩, .string ⟨#[115, 108, 108]⟩, .string ⟨#[115, 114, 97]⟩, .string ⟨#[115, 108, 116]⟩, .string ⟨#[115, 108, 116, 117]⟩, .string ⟨#[115, 101, 113, 122]⟩, .string ⟨#[115, 110, 101, 122]⟩, .string ⟨#[109, 118]⟩, .string ⟨#[108, 105]⟩, .string ⟨#[108, 97]⟩, .string ⟨#[97, 100, 100, 105]⟩, .string ⟨#[108, 100]⟩, .string ⟨#[115, 100]⟩, .string ⟨#[98, 101, 113]⟩, .string ⟨#[98, 110, 101]⟩, .string ⟨#[98, 108, 116]⟩, .string ⟨#[98, 103, 101]⟩, .string ⟨#[106]⟩, .string ⟨#[106, 97, 108]⟩, .string ⟨#[114, 101, 116]⟩, .string ⟨#[101, 99, 97, 108, 108]⟩] 9)) w.heap.size ((rowsI.drop 1).map (fun r : Bs × Bs => Value.string (strOf r.1))) 9 from OwnAt.new w ((rowsI.drop 1).map (fun r : Bs × Bs => Value.string (strOf r.1))) 9)
  have HB := Lib.hid ((Below.refl w.heap.size w).alloc (Nat.le_refl _) (.cells #[.string ⟨#[97, 100, 100]⟩, .string ⟨#[115, 117, 98]⟩, .string ⟨#[109, 117, 108]⟩, .string ⟨#[100, 105, 118]⟩, .string ⟨#[114, 101, 109]⟩, .string ⟨#[97, 110, 100]⟩, .string ⟨#[111, 114]⟩, .string ⟨#[120, 111, 114]⟩, .string ⟨#[115, 108, 108]⟩, .string ⟨#[115, 114, 97]⟩, .string ⟨#[115, 108, 116]⟩, .string ⟨#[115, 108, 116, 117]⟩, .string ⟨#[115, 101, 113, 122]⟩, .string ⟨#[115, 110, 101, 122]⟩, .string ⟨#[109, 118]⟩, .string ⟨#[108, 105]⟩, .string ⟨#[108, 97]⟩, .string ⟨#[97, 100, 100, 105]⟩, .string ⟨#[108, 100]⟩, .string ⟨#[115, 100]⟩, .string ⟨#[98, 101, 113]⟩, .string ⟨#[98, 110, 101]⟩, .string ⟨#[98, 108, 116]⟩, .string ⟨#[98, 103, 101]⟩, .string ⟨#[106]⟩, .string ⟨#[106, 97, 108]⟩, .string ⟨#[114, 101, 116]⟩, .string ⟨#[101, 99, 97, 108, 108]⟩] 9))
  obtain ⟨wd, hwd⟩ : ∃ wd, (rowI ((k : Int) + 1)).1 = wd := ⟨_, rfl⟩
  rw [hwd] at HA ⊢
  clear hf hwd
  have c0 := HO.out.at k _ HA.out
  have hkI : (k : Int) < 28 := by omega
  have hkA : (k : Int) + 1 ≤ 28 := by omega
  have hkB : (1 : Int) ≤ (k : Int) + 1 := by omega
  obtain ⟨W, hW⟩ : ∃ W, w.alloc (.cells #[.string ⟨#[97, 100, 100]⟩, .string ⟨#[115, 117, 98]⟩, .string ⟨#[109, 117, 108]⟩, .string ⟨#[100, 105, 118]⟩, .string ⟨#[114, 101, 109]⟩, .string ⟨#[97, 110, 100]⟩, .string ⟨#[111, 114]⟩, .string ⟨#[120, 111, 114]⟩, .string ⟨#[115, 108, 108]⟩, .string ⟨#[115, 114, 97]⟩, .string ⟨#[115, 108, 116]⟩, .string ⟨#[115, 108, 116, 117]⟩, .string ⟨#[115, 101, 113, 122]⟩, .string ⟨#[115, 110, 101, 122]⟩, .string ⟨#[109, 118]⟩, .string ⟨#[108, 105]⟩, .string ⟨#[108, 97]⟩, .string ⟨#[97, 100, 100, 105]⟩, .string ⟨#[108, 100]⟩, .string ⟨#[115, 100]⟩, .string ⟨#[98, 101, 113]⟩, .string ⟨#[98, 110, 101]⟩, .string ⟨#[98, 108, 116]⟩, .string ⟨#[98, 103, 101]⟩, .string ⟨#[106]⟩, .string ⟨#[106, 97, 108]⟩, .string ⟨#[114, 101, 116]⟩, .string ⟨#[101, 99, 97, 108, 108]⟩] 9) = W := ⟨_, rfl⟩
  rw [hW] at c0 HB
  clear HO
  go_enter Tryd.func28, Tryd.ntmps28
  go_wp2_with fail
  go_ret2
  exact ⟨rfl, HB.out⟩
theorem form_c8 (k : Nat) (hk : k < 28) (h0 : (15 < (k : Int) + 1)) (h1 : ((((k : Int) + 1) == 16) = false)) (h2 : ((((k : Int) + 1) == 17) = false)) (h3 : ((((k : Int) + 1) == 18) = false)) (h4 : ((((k : Int) + 1) == 19) = false)) (h5 : ((((k : Int) + 1) == 20) = false)) (h6 : ((k : Int) + 1 ≤ 24)) (hf : (rowI ((k : Int) + 1)).2 = [65, 44, 32, 66, 44, 32, 76]) (w : World) :
    Calls Tryd.prog 28 #[.int .i64 ((k : Int) + 1)] w fun e w' => e = .returned (formsV ((k : Int) + 1)) ∧ Below w.heap.size w w' := by
  unfold formsV
  rw [hf]
  have HA := Lib.hid (words_at k hk)
  have HO := Lib.hid (show OwnAt (w.alloc (.cells #[.string ⟨#[97, 100, 100]⟩, .string ⟨#[115, 117, 98]⟩, .string ⟨#[109, 117, 108]⟩, .string ⟨#[100, 105, 118]⟩, .string ⟨#[114, 101, 109]⟩, .string ⟨#[97, 110, 100]⟩, .string ⟨#[111, 114]⟩, .string ⟨#[120, 111, 114]⟩, .string ⟨#[115, 108, 108]⟩, .string ⟨#[115, 114, 97]⟩, .string ⟨#[115, 108, 116]⟩, .string ⟨#[115, 108, 116, 117]⟩, .string ⟨#[115, 101, 113, 122]⟩, .string ⟨#[115, 110, 101, 122]⟩, .string ⟨#[109, 118]⟩, .string ⟨#[108, 105]⟩, .string ⟨#[108, 97]⟩, .string ⟨#[97, 100, 100, 105]⟩, .string ⟨#[108, 100]⟩, .string ⟨#[115, 100]⟩, .string ⟨#[98, 101, 113]⟩, .string ⟨#[98, 110, 101]⟩, .string ⟨#[98, 108, 116]⟩, .string ⟨#[98, 103, 101]⟩, .string ⟨#[106]⟩, .string ⟨#[106, 97, 108]⟩, .string ⟨#[114, 101, 116]⟩, .string ⟨#[101, 99, 97, 108, 108]⟩] 9)) w.heap.size ((rowsI.drop 1).map (fun r : Bs × Bs => Value.string (strOf r.1))) 9 from OwnAt.new w ((rowsI.drop 1).map (fun r : Bs × Bs => Value.string (strOf r.1))) 9)
  have HB := Lib.hid ((Below.refl w.heap.size w).alloc (Nat.le_refl _) (.cells #[.string ⟨#[97, 100, 100]⟩, .string ⟨#[115, 117, 98]⟩, .string ⟨#[109, 117, 108]⟩, .string ⟨#[100, 105, 118]⟩, .string ⟨#[114, 101, 109]⟩, .string ⟨#[97, 110, 100]⟩, .string ⟨#[111, 114]⟩, .string ⟨#[120, 111, 114]⟩, .string ⟨#[115, 108, 108]⟩, .string ⟨#[115, 114, 97]⟩, .string ⟨#[115, 108, 116]⟩, .string ⟨#[115, 108, 116, 117]⟩, .string ⟨#[115, 101, 113, 122]⟩, .string ⟨#[115, 110, 101, 122]⟩, .string ⟨#[109, 118]⟩, .string ⟨#[108, 105]⟩, .string ⟨#[108, 97]⟩, .string ⟨#[97, 100, 100, 105]⟩, .string ⟨#[108, 100]⟩, .string ⟨#[115, 100]⟩, .string ⟨#[98, 101, 113]⟩, .string ⟨#[98, 110, 101]⟩, .string ⟨#[98, 108, 116]⟩, .string ⟨#[98, 103, 101]⟩, .string ⟨#[106]⟩, .string ⟨#[106, 97, 108]⟩, .string ⟨#[114, 101, 116]⟩, .string ⟨#[101, 99, 97, 108, 108]⟩] 9))
  obtain ⟨wd, hwd⟩ : ∃ wd, (rowI ((k : Int) + 1)).1 = wd := ⟨_, rfl⟩
  rw [hwd] at HA ⊢
  clear hf hwd
  have c0 := HO.out.at k _ HA.out
  have hkI : (k : Int) < 28 := by omega
  have hkA : (k : Int) + 1 ≤ 28 := by omega
  have hkB : (1 : Int) ≤ (k : Int) + 1 := by omega
  obtain ⟨W, hW⟩ : ∃ W, w.alloc (.cells #[.string ⟨#[97, 100, 100]⟩, .string ⟨#[115, 117, 98]⟩, .string ⟨#[109, 117, 108]⟩, .string ⟨#[100, 105, 118]⟩, .string ⟨#[114, 101, 109]⟩, .string ⟨#[97, 110, 100]⟩, .string ⟨#[111, 114]⟩, .string ⟨#[120, 111, 114]⟩, .string ⟨#[115, 108, 108]⟩, .string ⟨#[115, 114, 97]⟩, .string ⟨#[115, 108, 116]⟩, .string ⟨#[115, 108, 116, 117]⟩, .string ⟨#[115, 101, 113, 122]⟩, .string ⟨#[115, 110, 101, 122]⟩, .string ⟨#[109, 118]⟩, .string ⟨#[108, 105]⟩, .string ⟨#[108, 97]⟩, .string ⟨#[97, 100, 100, 105]⟩, .string ⟨#[108, 100]⟩, .string ⟨#[115, 100]⟩, .string ⟨#[98, 101, 113]⟩, .string ⟨#[98, 110, 101]⟩, .string ⟨#[98, 108, 116]⟩, .string ⟨#[98, 103, 101]⟩, .string ⟨#[106]⟩, .string ⟨#[106, 97, 108]⟩, .string ⟨#[114, 101, 116]⟩, .string ⟨#[101, 99, 97, 108, 108]⟩] 9) = W := ⟨_, rfl⟩
  rw [hW] at c0 HB
  clear HO
  go_enter Tryd.func28, Tryd.ntmps28
  go_wp2_with fail
  go_ret2
  exact ⟨rfl, HB.out⟩
theorem form_c9 (k : Nat) (hk : k < 28) (h0 : (15 < (k : Int) + 1)) (h1 : ((((k : Int) + 1) == 16) = false)) (h2 : ((((k : Int) + 1) == 17) = false)) (h3 : ((((k : Int) + 1) == 18) = false)) (h4 : ((((k : Int) + 1) == 19) = false)) (h5 : ((((k : Int) + 1) == 20) = false)) (h6 : (24 < (k : Int) + 1)) (h7 : ((k : Int) + 1 ≤ 26)) (hf : (rowI ((k : Int) + 1)).2 = [76]) (w : World) :
    Calls Tryd.prog 28 #[.int .i64 ((k : Int) + 1)] w fun e w' => e = .returned (formsV ((k : Int) + 1)) ∧ Below w.heap.size w w' := by
  unfold formsV
  rw [hf]
  have HA := Lib.hid (words_at k hk)
  have HO := Lib.hid (show OwnAt (w.alloc (.cells #[.string ⟨#[97, 100, 100]⟩, .string ⟨#[115, 117, 98]⟩, .string ⟨#[109, 117, 108]⟩, .string ⟨#[100, 105, 118]⟩, .string ⟨#[114, 101, 109]⟩, .string ⟨#[97, 110, 100]⟩, .string ⟨#[111, 114]⟩, .string ⟨#[120, 111, 114]⟩, .string ⟨#[115, 108, 108]⟩, .string ⟨#[115, 114, 97]⟩, .string ⟨#[115, 108, 116]⟩, .string ⟨#[115, 108, 116, 117]⟩, .string ⟨#[115, 101, 113, 122]⟩, .string ⟨#[115, 110, 101, 122]⟩, .string ⟨#[109, 118]⟩, .string ⟨#[108, 105]⟩, .string ⟨#[108, 97]⟩, .string ⟨#[97, 100, 100, 105]⟩, .string ⟨#[108, 100]⟩, .string ⟨#[115, 100]⟩, .string ⟨#[98, 101, 113]⟩, .string ⟨#[98, 110, 101]⟩, .string ⟨#[98, 108, 116]⟩, .string ⟨#[98, 103, 101]⟩, .string ⟨#[106]⟩, .string ⟨#[106, 97, 108]⟩, .string ⟨#[114, 101, 116]⟩, .string ⟨#[101, 99, 97, 108, 108]⟩] 9)) w.heap.size ((rowsI.drop 1).map (fun r : Bs × Bs => Value.string (strOf r.1))) 9 from OwnAt.new w ((rowsI.drop 1).map (fun r : Bs × Bs => Value.string (strOf r.1))) 9)
  have HB := Lib.hid ((Below.refl w.heap.size w).alloc (Nat.le_refl _) (.cells #[.string ⟨#[97, 100, 100]⟩, .string ⟨#[115, 117, 98]⟩, .string ⟨#[109, 117, 108]⟩, .string ⟨#[100, 105, 118]⟩, .string ⟨#[114, 101, 109]⟩, .string ⟨#[97, 110, 100]⟩, .string ⟨#[111, 114]⟩, .string ⟨#[120, 111, 114]⟩, .string ⟨#[115, 108, 108]⟩, .string ⟨#[115, 114, 97]⟩, .string ⟨#[115, 108, 116]⟩, .string ⟨#[115, 108, 116, 117]⟩, .string ⟨#[115, 101, 113, 122]⟩, .string ⟨#[115, 110, 101, 122]⟩, .string ⟨#[109, 118]⟩, .string ⟨#[108, 105]⟩, .string ⟨#[108, 97]⟩, .string ⟨#[97, 100, 100, 105]⟩, .string ⟨#[108, 100]⟩, .string ⟨#[115, 100]⟩, .string ⟨#[98, 101, 113]⟩, .string ⟨#[98, 110, 101]⟩, .string ⟨#[98, 108, 116]⟩, .string ⟨#[98, 103, 101]⟩, .string ⟨#[106]⟩, .string ⟨#[106, 97, 108]⟩, .string ⟨#[114, 101, 116]⟩, .string ⟨#[101, 99, 97, 108, 108]⟩] 9))
  obtain ⟨wd, hwd⟩ : ∃ wd, (rowI ((k : Int) + 1)).1 = wd := ⟨_, rfl⟩
  rw [hwd] at HA ⊢
  clear hf hwd
  have c0 := HO.out.at k _ HA.out
  have hkI : (k : Int) < 28 := by omega
  have hkA : (k : Int) + 1 ≤ 28 := by omega
  have hkB : (1 : Int) ≤ (k : Int) + 1 := by omega
  obtain ⟨W, hW⟩ : ∃ W, w.alloc (.cells #[.string ⟨#[97, 100, 100]⟩, .string ⟨#[115, 117, 98]⟩, .string ⟨#[109, 117, 108]⟩, .string ⟨#[100, 105, 118]⟩, .string ⟨#[114, 101, 109]⟩, .string ⟨#[97, 110, 100]⟩, .string ⟨#[111, 114]⟩, .string ⟨#[120, 111, 114]⟩, .string ⟨#[115, 108, 108]⟩, .string ⟨#[115, 114, 97]⟩, .string ⟨#[115, 108, 116]⟩, .string ⟨#[115, 108, 116, 117]⟩, .string ⟨#[115, 101, 113, 122]⟩, .string ⟨#[115, 110, 101, 122]⟩, .string ⟨#[109, 118]⟩, .string ⟨#[108, 105]⟩, .string ⟨#[108, 97]⟩, .string ⟨#[97, 100, 100, 105]⟩, .string ⟨#[108, 100]⟩, .string ⟨#[115, 100]⟩, .string ⟨#[98, 101, 113]⟩, .string ⟨#[98, 110, 101]⟩, .string ⟨#[98, 108, 116]⟩, .string ⟨#[98, 103, 101]⟩, .string ⟨#[106]⟩, .string ⟨#[106, 97, 108]⟩, .string ⟨#[114, 101, 116]⟩, .string ⟨#[101, 99, 97, 108, 108]⟩] 9) = W := ⟨_, rfl⟩
  rw [hW] at c0 HB
  clear HO
  go_enter Tryd.func28, Tryd.ntmps28
  go_wp2_with fail
  go_ret2
  exact ⟨rfl, HB.out⟩
theorem form_c10 (k : Nat) (hk : k < 28) (h0 : (15 < (k : Int) + 1)) (h1 : ((((k : Int) + 1) == 16) = false)) (h2 : ((((k : Int) + 1) == 17) = false)) (h3 : ((((k : Int) + 1) == 18) = false)) (h4 : ((((k : Int) + 1) == 19) = false)) (h5 : ((((k : Int) + 1) == 20) = false)) (h6 : (24 < (k : Int) + 1)) (h7 : (26 < (k : Int) + 1)) (hf : (rowI ((k : Int) + 1)).2 = []) (w : World) :
    Calls Tryd.prog 28 #[.int .i64 ((k : Int) + 1)] w fun e w' => e = .returned (formsV ((k : Int) + 1)) ∧ Below w.heap.size w w' := by
  unfold formsV
  rw [hf]
  have HA := Lib.hid (words_at k hk)
  have HO := Lib.hid (show OwnAt (w.alloc (.cells #[.string ⟨#[97, 100, 100]⟩, .string ⟨#[115, 117, 98]⟩, .string ⟨#[109, 117, 108]⟩, .string ⟨#[100, 105, 118]⟩, .string ⟨#[114, 101, 109]⟩, .string ⟨#[97, 110, 100]⟩, .string ⟨#[111, 114]⟩, .string ⟨#[120, 111, 114]⟩, .string ⟨#[115, 108, 108]⟩, .string ⟨#[115, 114, 97]⟩, .string ⟨#[115, 108, 116]⟩, .string ⟨#[115, 108, 116, 117]⟩, .string ⟨#[115, 101, 113, 122]⟩, .string ⟨#[115, 110, 101, 122]⟩, .string ⟨#[109, 118]⟩, .string ⟨#[108, 105]⟩, .string ⟨#[108, 97]⟩, .string ⟨#[97, 100, 100, 105]⟩, .string ⟨#[108, 100]⟩, .string ⟨#[115, 100]⟩, .string ⟨#[98, 101, 113]⟩, .string ⟨#[98, 110, 101]⟩, .string ⟨#[98, 108, 116]⟩, .string ⟨#[98, 103, 101]⟩, .string ⟨#[106]⟩, .string ⟨#[106, 97, 108]⟩, .string ⟨#[114, 101, 116]⟩, .string ⟨#[101, 99, 97, 108, 108]⟩] 9)) w.heap.size ((rowsI.drop 1).map (fun r : Bs × Bs => Value.string (strOf r.1))) 9 from OwnAt.new w ((rowsI.drop 1).map (fun r : Bs × Bs => Value.string (strOf r.1))) 9)
  have HB := Lib.hid ((Below.refl w.heap.size w).alloc (Nat.le_refl _) (.cells #[.string ⟨#[97, 100, 100]⟩, .string ⟨#[115, 117, 98]⟩, .string ⟨#[109, 117, 108]⟩, .string ⟨#[100, 105, 118]⟩, .string ⟨#[114, 101, 109]⟩, .string ⟨#[97, 110, 100]⟩, .string ⟨#[111, 114]⟩, .string ⟨#[120, 111, 114]⟩, .string ⟨#[115, 108, 108]⟩, .string ⟨#[115, 114, 97]⟩, .string ⟨#[115, 108, 116]⟩, .string ⟨#[115, 108, 116, 117]⟩, .string ⟨#[115, 101, 113, 122]⟩, .string ⟨#[115, 110, 101, 122]⟩, .string ⟨#[109, 118]⟩, .string ⟨#[108, 105]⟩, .string ⟨#[108, 97]⟩, .string ⟨#[97, 100, 100, 105]⟩, .string ⟨#[108, 100]⟩, .string ⟨#[115, 100]⟩, .string ⟨#[98, 101, 113]⟩, .string ⟨#[98, 110, 101]⟩, .string ⟨#[98, 108, 116]⟩, .string ⟨#[98, 103, 101]⟩, .string ⟨#[106]⟩, .string ⟨#[106, 97, 108]⟩, .string ⟨#[114, 101, 116]⟩, .string ⟨#[101, 99, 97, 108, 108]⟩] 9))
  obtain ⟨wd, hwd⟩ : ∃ wd, (rowI ((k : Int) + 1)).1 = wd := ⟨_, rfl⟩
  rw [hwd] at HA ⊢
  clear hf hwd
  have c0 := HO.out.at k _ HA.out
  have hkI : (k : Int) < 28 := by omega
  have hkA : (k : Int) + 1 ≤ 28 := by omega
  have hkB : (1 : Int) ≤ (k : Int) + 1 := by omega
  obtain ⟨W, hW⟩ : ∃ W, w.alloc (.cells #[.string ⟨#[97, 100, 100]⟩, .string ⟨#[115, 117, 98]⟩, .string ⟨#[109, 117, 108]⟩, .string ⟨#[100, 105, 118]⟩, .string ⟨#[114, 101, 109]⟩, .string ⟨#[97, 110, 100]⟩, .string ⟨#[111, 114]⟩, .string ⟨#[120, 111, 114]⟩, .string ⟨#[115, 108, 108]⟩, .string ⟨#[115, 114, 97]⟩, .string ⟨#[115, 108, 116]⟩, .string ⟨#[115, 108, 116, 117]⟩, .string ⟨#[115, 101, 113, 122]⟩, .string ⟨#[115, 110, 101, 122]⟩, .string ⟨#[109, 118]⟩, .string ⟨#[108, 105]⟩, .string ⟨#[108, 97]⟩, .string ⟨#[97, 100, 100, 105]⟩, .string ⟨#[108, 100]⟩, .string ⟨#[115, 100]⟩, .string ⟨#[98, 101, 113]⟩, .string ⟨#[98, 110, 101]⟩, .string ⟨#[98, 108, 116]⟩, .string ⟨#[98, 103, 101]⟩, .string ⟨#[106]⟩, .string ⟨#[106, 97, 108]⟩, .string ⟨#[114, 101, 116]⟩, .string ⟨#[101, 99, 97, 108, 108]⟩] 9) = W := ⟨_, rfl⟩
  rw [hW] at c0 HB
  clear HO
  go_enter Tryd.func28, Tryd.ntmps28
  go_wp2_with fail
  go_ret2
  exact ⟨rfl, HB.out⟩
theorem form_out (op : Int) (h : ¬ (1 ≤ op ∧ op ≤ 28)) (w : World) :
    Calls Tryd.prog 28 #[.int .i64 op] w fun e w' => e = .returned (formsV op) ∧ Below w.heap.size w w' := by
  have e : rowI op = ([], []) := by
    unfold rowI
    by_cases h0 : op < 0 ∨ 29 ≤ op
    · rw [if_pos h0]
    · rw [if_neg h0]
      have : op = 0 := by omega
      subst this; rfl
  have HB := Lib.hid ((Below.refl w.heap.size w).alloc (Nat.le_refl _) (.cells #[.string ⟨#[97, 100, 100]⟩, .string ⟨#[115, 117, 98]⟩, .string ⟨#[109, 117, 108]⟩, .string ⟨#[100, 105, 118]⟩, .string ⟨#[114, 101, 109]⟩, .string ⟨#[97, 110, 100]⟩, .string ⟨#[111, 114]⟩, .string ⟨#[120, 111, 114]⟩, .string ⟨#[115, 108, 108]⟩, .string ⟨#[115, 114, 97]⟩, .string ⟨#[115, 108, 116]⟩, .string ⟨#[115, 108, 116, 117]⟩, .string ⟨#[115, 101, 113, 122]⟩, .string ⟨#[115, 110, 101, 122]⟩, .string ⟨#[109, 118]⟩, .string ⟨#[108, 105]⟩, .string ⟨#[108, 97]⟩, .string ⟨#[97, 100, 100, 105]⟩, .string ⟨#[108, 100]⟩, .string ⟨#[115, 100]⟩, .string ⟨#[98, 101, 113]⟩, .string ⟨#[98, 110, 101]⟩, .string ⟨#[98, 108, 116]⟩, .string ⟨#[98, 103, 101]⟩, .string ⟨#[106]⟩, .string ⟨#[106, 97, 108]⟩, .string ⟨#[114, 101, 116]⟩, .string ⟨#[101, 99, 97, 108, 108]⟩] 9))
  unfold formsV
  rw [e]
  clear e
  rcases (show op < 1 ∨ 28 < op by omega) with h1 | h1
  · clear h
    go_enter Tryd.func28, Tryd.ntmps28
    go_wp2_with fail
    go_ret2
    exact ⟨rfl, HB.out⟩
  · clear h
    go_enter Tryd.func28, Tryd.ntmps28
    go_wp2_with fail
    go_ret2
    exact ⟨rfl, HB.out⟩
theorem form_any (op : Int) (w : World) :
    Calls Tryd.prog 28 #[.int .i64 op] w fun e w' => e = .returned (formsV op) ∧ Below w.heap.size w w' := by
  by_cases hin : 1 ≤ op ∧ op ≤ 28
  · obtain ⟨k, rfl⟩ : ∃ k : Nat, op = (k : Int) + 1 := ⟨(op - 1).toNat, by omega⟩
    have hk : k < 28 := by omega
    have hf := (row_form ((k : Int) + 1) (by omega) (by omega)).2
    have ne : ∀ z : Int, ¬ ((k : Int) + 1 = z) → (((k : Int) + 1) == z) = false := fun z h => by simpa using h
    have eq : ∀ z : Int, (k : Int) + 1 = z → (((k : Int) + 1) == z) = true := fun z h => by simpa using h
    rw [if_neg (show ¬ (k : Int) + 1 = 0 by omega)] at hf
    by_cases a0 : (k : Int) + 1 ≤ 12
    · rw [if_pos a0] at hf
      exact form_c1 k hk (by omega) hf w
    · rw [if_neg a0] at hf
      by_cases a1 : (k : Int) + 1 ≤ 15
      · rw [if_pos a1] at hf
        exact form_c2 k hk (by omega) (by omega) hf w
      · rw [if_neg a1] at hf
        by_cases a2 : (k : Int) + 1 = 16
        · rw [if_pos a2] at hf
          exact form_c3 k hk (by omega) (eq 16 (by omega)) hf w
        · rw [if_neg a2] at hf
          by_cases a3 : (k : Int) + 1 = 17
          · rw [if_pos a3] at hf
            exact form_c4 k hk (by omega) (ne 16 (by omega)) (eq 17 (by omega)) hf w
          · rw [if_neg a3] at hf
            by_cases a4 : (k : Int) + 1 ≤ 18
            · rw [if_pos a4] at hf
              exact form_c5 k hk (by omega) (ne 16 (by omega)) (ne 17 (by omega)) (eq 18 (by omega)) hf w
            · rw [if_neg a4] at hf
              by_cases a5 : (k : Int) + 1 = 19
              · rw [if_pos a5] at hf
                exact form_c6 k hk (by omega) (ne 16 (by omega)) (ne 17 (by omega)) (ne 18 (by omega)) (eq 19 (by omega)) hf w
              · rw [if_neg a5] at hf
                by_cases a6 : (k : Int) + 1 = 20
                · rw [if_pos a6] at hf
                  exact form_c7 k hk (by omega) (ne 16 (by omega)) (ne 17 (by omega)) (ne 18 (by omega)) (ne 19 (by omega)) (eq 20 (by omega)) hf w
                · rw [if_neg a6] at hf
                  by_cases a7 : (k : Int) + 1 ≤ 24
                  · rw [if_pos a7] at hf
                    exact form_c8 k hk (by omega) (ne 16 (by omega)) (ne 17 (by omega)) (ne 18 (by omega)) (ne 19 (by omega)) (ne 20 (by omega)) (by omega) hf w
                  · rw [if_neg a7] at hf
                    by_cases a8 : (k : Int) + 1 ≤ 26
                    · rw [if_pos a8] at hf
                      exact form_c9 k hk (by omega) (ne 16 (by omega)) (ne 17 (by omega)) (ne 18 (by omega)) (ne 19 (by omega)) (ne 20 (by omega)) (by omega) (by omega) hf w
                    · rw [if_neg a8] at hf
                      exact form_c10 k hk (by omega) (ne 16 (by omega)) (ne 17 (by omega)) (ne 18 (by omega)) (ne 19 (by omega)) (ne 20 (by omega)) (by omega) (by omega) hf w
  · exact form_out op hin w
end Go.Proofs.YtgdnnaiidmfncaaDoor
