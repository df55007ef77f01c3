/-
  What comes in to be read: numbers, no more than memory has. No condition.
-/
import Derived.Test.YtpgjfpphigeliaaGreatDoorMachOp
import Derived.Test.YtpgjfpphigeliaaGreatDoorMachA
set_option linter.unusedVariables false
set_option linter.unusedSimpArgs false
namespace Go.Proofs.YtpgjfpphigeliaaGreatDoor
open Go.ChangeShapes Go.WideShapes Go.ChangeAt Go.RowKit
set_option maxHeartbeats 4000000
set_option maxRecDepth 100000

theorem open_inp {H : Type} {enc : TypeId × Value → H} {W : World} {base : Nat} {x : Value} {d : DataW H} {p : List MemPlace} (hv : Value.okWide Tryz.prog W .any base 23 x) (h : DataW.Trod enc Tryz.prog W 0 (fun _ => true) true 23 x d p)
    (hsz : ∀ a b, d = .slice a b → (a.length + b.length) * Tryz.prog.bytesOf 3 ≤ reachBytes) : ∃ raw, InpAt W raw x ∧ (∀ n, n ∈ raw → I64 n) ∧ (raw.length + 203) * 8 ≤ 140737488355328 := by
  obtain ⟨raw, h1, h2⟩ := open_ints hv h hsz
  obtain ⟨fuel, hf⟩ := h
  obtain ⟨a1, c1, e1⟩ := RwAt.shape h1
  obtain ⟨a0, len, cap, e0⟩ := okWide_slice Tryz.underlying23 hv
  have e2 : len = raw.length := by rw [e0] at e1; injection e1
  rw [e0] at hf
  rcases Go.Deep.open_slice Tryz.underlying23 hf with ⟨hcs, hx⟩ | ⟨a, len', cap', m, n, Dd, Pl, hcs, hb, hl, hm, hmm, hx, hi⟩
  · cases hcs
    refine ⟨raw, ⟨h1, ⟨none, 0, 0, e0, Nat.le_refl _, by decide⟩⟩, h2, ?_⟩
    rw [← e2]; decide
  · cases hcs
    refine ⟨raw, ⟨h1, ⟨some a, len, cap, e0, hl, by unfold maxLen at hm; omega⟩⟩, h2, ?_⟩
    have h3 := hsz _ _ (congrArg Prod.fst hx)
    rw [ribytesInt, List.length_map, List.length_range] at h3
    have h4 : reachBytes = 140737488351232 := rfl
    rw [h4] at h3
    rw [← e2]
    omega
end Go.Proofs.YtpgjfpphigeliaaGreatDoor
