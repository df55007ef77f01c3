/-
  A byte as a text; pieces of texts. No condition.
  What a text is read as is right, and has that text. No condition.
-/
import Derived.Test.YtgdnnaiidmfncaaDoorInstrH
set_option linter.unusedVariables false
set_option linter.unusedSimpArgs false
namespace Go.Proofs.YtgdnnaiidmfncaaDoor
open Go.RowKit
set_option maxHeartbeats 4000000
set_option maxRecDepth 100000

theorem iconv_one (n : Int) (h0 : 0 ≤ n) (h1 : n < 256) (W : World) (b : Nat) (hc : W.cell? ⟨b, 0, none⟩ = some (.int .u8 n)) :
    (convert 46 9 (.slice (some ⟨b, 0, none⟩) 1 1)).run Tryd.prog W = .ok (.string (strOf [UInt8.ofNat n.toNat])) W := by
  refine run_convert_bytes_back (P := Tryd.prog) W 46 9 5 ⟨b, 0, none⟩ 1 [UInt8.ofNat n.toNat] Tryd.underlying46 Tryd.underlying5 Tryd.underlying9 (fun j hj => ?_)
  have hj0 : j = 0 := by simp at hj; omega
  subst hj0
  have e : ((UInt8.ofNat n.toNat).toNat : Int) = n := by
    rw [UInt8.toNat_ofNat']
    have : n.toNat % 2 ^ 8 = n.toNat := Nat.mod_eq_of_lt (by omega)
    omega
  show W.cell? _ = some (.int .u8 ((UInt8.ofNat n.toNat).toNat : Int))
  rw [e]; exact hc
theorem strOf_take (l : Bs) (n : Nat) : (strOf l).extract 0 n = strOf (l.take n) := by
  apply ByteArray.ext
  rw [ByteArray.data_extract]
  simp [strOf]
theorem strOf_append (a b : Bs) : strOf a ++ strOf b = strOf (a ++ b) := by
  apply ByteArray.ext
  simp [strOf]
end Go.Proofs.YtgdnnaiidmfncaaDoor

namespace Go.Proofs.YtgdnnaiidmfncaaDoor
open Go.RowKit
set_option maxHeartbeats 4000000
set_option maxRecDepth 100000

theorem step_fits (o : Ins) (f t : Bs) (h : FitsI o) : FitsI (stepP o f t) := by
  have hf := atoiV_fits (Lib.trimPrefix t [120])
  unfold stepP
  cases f with
  | nil => exact h
  | cons c _ =>
    dsimp only
    split
    · exact h
    · unfold setI
      split
      · exact h
      · split
        · exact h
        · split
          · exact h
          · split
            · exact hf
            · exact h
theorem fold_fits : ∀ (fs ts : List Bs) (o : Ins), FitsI o → FitsI (foldP fs ts o)
  | [], _, o, h => by simpa [foldP] using h
  | _ :: _, [], o, h => by simpa [foldP] using h
  | f :: fs, t :: ts, o, h => fold_fits fs ts _ (step_fits o f t h)
theorem find_fits (word rest s : Bs) : ∀ (k : Nat) (op : Int) (Y : Ins), findI word rest s k op = some Y → FitsI Y
  | 0, _, _, h => by cases h
  | k + 1, op, Y, h => by
    unfold findI at h
    split at h
    · cases h
      exact fold_fits _ _ _ ⟨(by decide : (-9223372036854775808 : Int) ≤ 0), (by decide : (0 : Int) ≤ 9223372036854775807)⟩
    · exact find_fits word rest s k (op + 1) Y h
theorem right_name {X : Ins} (h : rightI X = true) : X.name.length ≤ 40 := by
  obtain ⟨_, he⟩ := (foldR_spec X _ _ _).1 (right_open h).1
  have hn := congrArg Ins.name he
  dsimp only at hn
  by_cases hc : (76 : UInt8) ∈ (rowI X.op).2
  · exact (label_mem ((right_open h).2.2.1 hc)).2.2
  · rw [if_neg hc] at hn
    have : X.name = [] := hn
    rw [this]; exact Nat.zero_le _
/-- What a text is read as is right, and has that text. -/
theorem parse_some {t : Bs} {Y : Ins} (h : parseI t = some Y) : GoodI Y ∧ textI Y = t := by
  obtain ⟨h1, h2⟩ := parseI_sound t Y h
  exact ⟨⟨h1, find_fits _ _ _ _ _ _ h, right_name h1⟩, h2⟩
end Go.Proofs.YtgdnnaiidmfncaaDoor
