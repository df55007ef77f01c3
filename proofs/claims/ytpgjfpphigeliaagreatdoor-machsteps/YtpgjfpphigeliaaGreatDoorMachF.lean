/-
  pick, line, Same, begins: what the laws of layer 9 call. Conditions: rows lie in memory.
  Code of the laws: which instructions may be, the machine that it makes, step by step. Plain functions alone.
  awake of layer 9: the chapter's example holds. Condition: the library's variables lie in memory.
  A branch goes just where its numbers are as it says: the code of MachBranch. Plain functions alone.
  Faults: the codes of MachFaults. Plain functions alone.
  awake of layer 9, its walk. Condition: the library's variables lie in memory.
-/
import Derived.Test.YtpgjfpphigeliaaGreatDoorMachE
import Derived.Test.YtpgjfpphigeliaaGreatDoorAsmK
import Derived.Test.YtpgjfpphigeliaaGreatDoorInstrF
import Derived.Test.YtpgjfpphigeliaaGreatDoorAsmI
set_option linter.unusedVariables false
set_option linter.unusedSimpArgs false
namespace Go.Proofs.YtpgjfpphigeliaaGreatDoor
open Go.RowKit
set_option maxHeartbeats 4000000
set_option maxRecDepth 100000

theorem jpick_any (c n : Int) (hc : I64 c) (h0 : 0 < n) (h1 : n ≤ 9223372036854775807) (w : World) :
    Calls Tryz.prog 13 #[.int .i64 c, .int .i64 n] w fun e w' => e = .returned (.int .i64 (ipick c n)) ∧ w = w' := by
  obtain ⟨l, u⟩ := hc
  unfold ipick
  by_cases hneg : c < 0
  · rw [if_pos hneg]
    have hn0 : (n == 0) = false := by simp; omega
    go_enter Tryz.func13, Tryz.ntmps13
    go_wp2_with fail
    go_ret
    exact ⟨ret_int (by show -((c + 1).tmod n) = _; rw [← Int.neg_tmod, Int.tmod_eq_emod_of_nonneg (by omega)]), rfl⟩
  · rw [if_neg hneg]
    have hneg' : 0 ≤ c := by omega
    go_enter Tryz.func13, Tryz.ntmps13
    go_wp2_with fail
    go_ret
    exact ⟨rfl, rfl⟩
theorem mline_any (o d a b n : Int) (s : ByteArray) (w : World) :
    Calls Tryz.prog 17 #[.agg #[.int .i64 o, .int .i64 d, .int .i64 a, .int .i64 b, .int .i64 n, .string s]] w fun e w' => e = .returned (.agg #[.string ⟨#[]⟩, .int .i64 o, .int .i64 d, .int .i64 a, .int .i64 b, .int .i64 n, .string s]) ∧ Below w.heap.size w w' := by
  have hB1 : Below w.heap.size w (w.alloc (.cells #[.int .i64 o, .int .i64 d, .int .i64 a, .int .i64 b, .int .i64 n, .string s] 39)) := (Below.refl _ _).alloc (Nat.le_refl _) _
  have hB2 := hB1.trans (((Below.refl _ (w.alloc (.cells #[.int .i64 o, .int .i64 d, .int .i64 a, .int .i64 b, .int .i64 n, .string s] 39))).alloc (Nat.le_refl _) (.cells #[.string ⟨#[]⟩, .int .i64 o, .int .i64 d, .int .i64 a, .int .i64 b, .int .i64 n, .string s] 41)).mono hB1.size)
  have ho := OwnAt.new (w.alloc (.cells #[.int .i64 o, .int .i64 d, .int .i64 a, .int .i64 b, .int .i64 n, .string s] 39)) [.string ⟨#[]⟩, .int .i64 o, .int .i64 d, .int .i64 a, .int .i64 b, .int .i64 n, .string s] 41
  rw [show (w.alloc (.cells #[.int .i64 o, .int .i64 d, .int .i64 a, .int .i64 b, .int .i64 n, .string s] 39)).heap.size = w.heap.size + 1 by simp] at ho
  have HB2 := Lib.hid hB2; have HO := Lib.hid ho
  clear hB1 hB2 ho
  go_enter Tryz.func17, Tryz.ntmps17
  go_wp2_with fail
  refine bodyPost_ret (results_cell_row (P := Tryz.prog) rfl _ _ (w.heap.size + 1) 41 #[.string ⟨#[]⟩, .int .i64 o, .int .i64 d, .int .i64 a, .int .i64 b, .int .i64 n, .string s] (0, 0) _ rfl HO.out Tryz.underlying41 rfl (by kernel_rfl)) rfl ?_
  exact ⟨rfl, HB2.out⟩
theorem jsame_eq (st cd sp : Int) (o : List Int) (v1 v2 : Value) (w : World) (h1 : NumsAt w o v1) (h2 : NumsAt w o v2) :
    Calls Tryz.prog 16 #[.agg #[.int .i64 st, .int .i64 cd, v1, .int .i64 sp], .agg #[.int .i64 st, .int .i64 cd, v2, .int .i64 sp]] w fun e w' => e = .returned (.bool true) ∧ Below w.heap.size w w' := by
  obtain ⟨a1, c1, rfl⟩ := RwAt.shape h1
  obtain ⟨a2, c2, rfl⟩ := RwAt.shape h2
  have hl := RwAt.len h1
  have hlI : (o.length : Int) ≤ 140737488355328 := by omega
  have H1 := Lib.hid h1; have H2 := Lib.hid h2
  clear h1 h2 hl
  go_enter Tryz.func16, Tryz.ntmps16
  have hB1 : Below w.heap.size w (w.alloc (.cells #[.int .i64 st, .int .i64 cd, .slice a1 o.length c1, .int .i64 sp] 31)) := (Below.refl _ _).alloc (Nat.le_refl _) _
  have o1 := OwnAt.new w [.int .i64 st, .int .i64 cd, .slice a1 o.length c1, .int .i64 sp] 31
  obtain ⟨W1, hW1⟩ : ∃ W1, w.alloc (.cells #[.int .i64 st, .int .i64 cd, .slice a1 o.length c1, .int .i64 sp] 31) = W1 := ⟨_, rfl⟩
  rw [hW1] at hB1 o1
  have hs1 : W1.heap.size = w.heap.size + 1 := by rw [← hW1]; simp
  have hB2 : Below W1.heap.size W1 (W1.alloc (.cells #[.int .i64 st, .int .i64 cd, .slice a2 o.length c2, .int .i64 sp] 31)) := (Below.refl _ _).alloc (Nat.le_refl _) _
  have o2 := OwnAt.new W1 [.int .i64 st, .int .i64 cd, .slice a2 o.length c2, .int .i64 sp] 31
  have o1' := o1.old hB2
  rw [hs1] at o2
  obtain ⟨W2, hW2⟩ : ∃ W2, W1.alloc (.cells #[.int .i64 st, .int .i64 cd, .slice a2 o.length c2, .int .i64 sp] 31) = W2 := ⟨_, rfl⟩
  rw [hW2] at o1' o2 hB2
  have HB := Lib.hid (hB1.trans (hB2.mono hB1.size))
  have HO1 := Lib.hid o1'
  have HO2 := Lib.hid o2
  have HW := Lib.hid (And.intro hW1 hW2)
  clear hB1 o1 hW1 hs1 hB2 o2 o1' hW2
  go_upto_region 1 with (fail)
  rw [HW.out.1, HW.out.2]
  clear HW
  have d0 := HO1.out.at 0 _ rfl
  have d1 := HO1.out.at 1 _ rfl
  have d2 := HO1.out.at 2 _ rfl
  have d3 := HO1.out.at 3 _ rfl
  have e0 := HO2.out.at 0 _ rfl
  have e1 := HO2.out.at 1 _ rfl
  have e2 := HO2.out.at 2 _ rfl
  have e3 := HO2.out.at 3 _ rfl
  have dl := HO1.out.lt
  have el := HO2.out.lt
  go_wp2_with fail
  clear d0 d1 d2 d3 e0 e1 e2 e3 dl el
  go_loopw [5] (fun s5 wx => ∃ i : Nat, i ≤ o.length ∧ s5 = .int .i64 i ∧ Hid (Below W2.heap.size W2 wx)) (fun s5 _ => o.length - (intOf s5).toNat)
  case atStart => exact ⟨0, Nat.zero_le _, rfl, Lib.hid (Below.refl _ _)⟩
  case round =>
    obtain ⟨i, hi, rfl, HBX⟩ := hrel
    have d2 := (HO1.out.old HBX.out).at 2 _ rfl
    have e2 := (HO2.out.old HBX.out).at 2 _ rfl
    have dl := (HO1.out.old HBX.out).lt
    have el := (HO2.out.old HBX.out).lt
    by_cases hlt : i < o.length
    · obtain ⟨b1, o1, rfl, hb1, c1⟩ := NumsAt.at ((H1.out.old HB.out).old HBX.out) hlt
      obtain ⟨b2, o2, rfl, hb2, c2⟩ := NumsAt.at ((H2.out.old HB.out).old HBX.out) hlt
      obtain ⟨z, hz⟩ : ∃ z, o[i] = z := ⟨_, rfl⟩
      rw [hz] at c1 c2
      have hzI : (z == z) = true := beq_self_eq_true z
      clear hz
      go_wp2_with (go_quiet (fail))
      exact ⟨⟨i + 1, hlt, by first | rfl | (simp; done) | go_num, Lib.hid (mdrewN HBX.out _)⟩, by simp [intOf]; omega⟩
    · have he : i = o.length := by omega
      subst he
      go_wp2_with fail
      go_ret
      exact ⟨rfl, HB.out.trans (HBX.out.mono HB.out.size)⟩
theorem begins_yes (a m b : List Int) (hb : b = a ++ m) (v1 v2 : Value) (w : World) (h1 : NumsAt w a v1) (h2 : NumsAt w b v2) :
    Calls Tryz.prog 15 #[v1, v2] w fun e w' => e = .returned (.bool true) ∧ Below w.heap.size w w' := by
  obtain ⟨a1, c1, rfl⟩ := RwAt.shape h1
  obtain ⟨a2, c2, rfl⟩ := RwAt.shape h2
  have hl := RwAt.len h2
  have hlI : (b.length : Int) ≤ 140737488355328 := by omega
  have hla2 : a.length ≤ b.length := by rw [hb, List.length_append]; omega
  have hla : (a.length : Int) ≤ b.length := by omega
  have H1 := Lib.hid h1; have H2 := Lib.hid h2
  have HG : Hid (∀ i (h : i < a.length), b[i]? = some a[i]) := Lib.hid fun i h => by rw [hb, List.getElem?_append_left h, List.getElem?_eq_getElem h]
  clear h1 h2 hl hb
  go_enter Tryz.func15, Tryz.ntmps15
  go_wp2_with fail
  go_loopw [5] (fun s5 wx => ∃ i : Nat, i ≤ a.length ∧ s5 = .int .i64 i ∧ Hid (Below w.heap.size w wx)) (fun s5 _ => a.length - (intOf s5).toNat)
  case atStart => exact ⟨0, Nat.zero_le _, rfl, Lib.hid (Below.refl _ _)⟩
  case round =>
    obtain ⟨i, hi, rfl, HBX⟩ := hrel
    by_cases hlt : i < a.length
    · obtain ⟨b1, o1, rfl, hb1, c1⟩ := NumsAt.at (H1.out.old HBX.out) hlt
      have hlt2 : i < b.length := by omega
      obtain ⟨b2, o2, rfl, hb2, c2⟩ := NumsAt.at (H2.out.old HBX.out) hlt2
      have hg := HG.out i hlt
      rw [List.getElem?_eq_getElem hlt2] at hg
      rw [Option.some.inj hg] at c2
      obtain ⟨z, hz⟩ : ∃ z, a[i] = z := ⟨_, rfl⟩
      rw [hz] at c1 c2
      have hzI : (z == z) = true := beq_self_eq_true z
      clear hz hg
      go_wp2_with (go_quiet (fail))
      exact ⟨⟨i + 1, hlt, by first | rfl | (simp; done) | go_num, Lib.hid (mdrewN HBX.out _)⟩, by simp [intOf]; omega⟩
    · have he : i = a.length := by omega
      subst he
      go_wp2_with fail
      go_ret
      exact ⟨rfl, HBX.out⟩
end Go.Proofs.YtpgjfpphigeliaaGreatDoor

namespace Go.Proofs.YtpgjfpphigeliaaGreatDoor
open Go.RowKit (wrap64)
set_option maxRecDepth 100000
set_option maxHeartbeats 4000000

def lnI (i : Ins) : Ln := ⟨[], i⟩
theorem right_li {d n : Int} (h : 0 ≤ d ∧ d < 32) : rightI ⟨16, d, 0, 0, n, []⟩ = true := by
  simp [rightI, rowI, rowsI, foldR, stepR, partI, mayI, setI, zeroI, insEq, h, labelB]
theorem right_la {d : Int} {s : Bs} (h : 0 ≤ d ∧ d < 32) (hs : labelB s = true) : rightI ⟨17, d, 0, 0, 0, s⟩ = true := by
  simp [rightI, rowI, rowsI, foldR, stepR, partI, mayI, setI, zeroI, insEq, h, hs]
theorem right_addi {d a n : Int} (h : 0 ≤ d ∧ d < 32) (ha : 0 ≤ a ∧ a < 32) (hn : -2047 ≤ n ∧ n ≤ 2047) : rightI ⟨18, d, a, 0, n, []⟩ = true := by
  simp [rightI, rowI, rowsI, foldR, stepR, partI, mayI, setI, zeroI, insEq, h, ha, hn, labelB]
theorem right_ld {d a n : Int} (h : 0 ≤ d ∧ d < 32) (ha : 0 ≤ a ∧ a < 32) (hn : -2047 ≤ n ∧ n ≤ 2047) : rightI ⟨19, d, a, 0, n, []⟩ = true := by
  simp [rightI, rowI, rowsI, foldR, stepR, partI, mayI, setI, zeroI, insEq, h, ha, hn, labelB]
theorem right_sd {b a n : Int} (h : 0 ≤ b ∧ b < 32) (ha : 0 ≤ a ∧ a < 32) (hn : -2047 ≤ n ∧ n ≤ 2047) : rightI ⟨20, 0, a, b, n, []⟩ = true := by
  simp [rightI, rowI, rowsI, foldR, stepR, partI, mayI, setI, zeroI, insEq, h, ha, hn, labelB]
theorem right_mv {d a : Int} (h : 0 ≤ d ∧ d < 32) (ha : 0 ≤ a ∧ a < 32) : rightI ⟨15, d, a, 0, 0, []⟩ = true := by
  simp [rightI, rowI, rowsI, foldR, stepR, partI, mayI, setI, zeroI, insEq, h, ha, labelB]
theorem right_one {op d a : Int} (ho : op = 13 ∨ op = 14 ∨ op = 15) (h : 0 ≤ d ∧ d < 32) (ha : 0 ≤ a ∧ a < 32) : rightI ⟨op, d, a, 0, 0, []⟩ = true := by
  rcases ho with rfl | rfl | rfl
  all_goals simp [rightI, rowI, rowsI, foldR, stepR, partI, mayI, setI, zeroI, insEq, h, ha, labelB]
theorem right_two {op d a b : Int} (ho : 1 ≤ op ∧ op ≤ 12) (h : 0 ≤ d ∧ d < 32) (ha : 0 ≤ a ∧ a < 32) (hb : 0 ≤ b ∧ b < 32) : rightI ⟨op, d, a, b, 0, []⟩ = true := by
  have : op = 1 ∨ op = 2 ∨ op = 3 ∨ op = 4 ∨ op = 5 ∨ op = 6 ∨ op = 7 ∨ op = 8 ∨ op = 9 ∨ op = 10 ∨ op = 11 ∨ op = 12 := by omega
  rcases this with rfl | rfl | rfl | rfl | rfl | rfl | rfl | rfl | rfl | rfl | rfl | rfl
  all_goals simp [rightI, rowI, rowsI, foldR, stepR, partI, mayI, setI, zeroI, insEq, h, ha, hb, labelB]
theorem right_br {op a b : Int} {s : Bs} (ho : 21 ≤ op ∧ op ≤ 24) (ha : 0 ≤ a ∧ a < 32) (hb : 0 ≤ b ∧ b < 32) (hs : labelB s = true) : rightI ⟨op, 0, a, b, 0, s⟩ = true := by
  have : op = 21 ∨ op = 22 ∨ op = 23 ∨ op = 24 := by omega
  rcases this with rfl | rfl | rfl | rfl
  all_goals simp [rightI, rowI, rowsI, foldR, stepR, partI, mayI, setI, zeroI, insEq, ha, hb, hs]
theorem right_call : rightI (zeroI 28) = true := by kernel_rfl
theorem right_ret : rightI (zeroI 27) = true := by kernel_rfl
/-- The machine of code that may be. -/
def machR (c : Cd) : MC := ⟨insL c.lines, (insL c.lines).map (toA c), fun s => (startZ c.arrs 65536 s).getD 0, sizeZ c.arrs⟩
theorem machC_ok {c : Cd} (h : checkC c = (0, 0)) : machC c = machR c := by
  unfold machC machR flatA
  rw [h, if_pos rfl]
theorem runC_ok {c : Cd} (h : checkC c = (0, 0)) (inp : List Int) (n : Int) : runC c inp n = runR (machR c) n (startS inp) := by rw [runC_is, machC_ok h]
/-- Lines without labels, of known names. -/
theorem check_plain {c : Cd} (h1 : c.lines.length ≤ 40000) (h2 : arrsE c.arrs = 0) (h3 : ∀ x, x ∈ c.lines → x.label = [] ∧ rightI x.ins = true ∧ knownB c x.ins = true) : checkC c = (0, 0) := by
  refine checkC_ok h1 h2 fun j hj => ?_
  obtain ⟨e1, e2, e3⟩ := h3 _ (List.getElem_mem hj)
  refine lineE_zero.2 ⟨?_, fun h => absurd e1 h, e3⟩
  unfold wellB
  rw [if_pos e1]; exact e2
theorem known_none {c : Cd} {x : Ins} (ho : ¬ x.op = 17) (hn : x.name = []) : knownB c x = true := by
  unfold knownB
  rw [if_neg ho, hn]; simp
theorem run_next {C : MC} {n : Int} {s t : MS} (h1 : s.st = 0) (h2 : s.pl < C.list.length) (h3 : s.steps < n) (h4 : nextZ C s = t) : runR C n s = runR C n t := by
  rw [runR_step h1 h2 h3, h4]
theorem updN_same (f : Nat → Int) (k : Nat) (v : Int) : updN f k v k = v := if_pos rfl
theorem updN_ne {f : Nat → Int} {j k : Nat} (v : Int) (h : j ≠ k) : updN f k v j = f j := if_neg h
theorem updZ_same (f : Int → Int) (k : Int) (v : Int) : updZ f k v k = v := if_pos rfl
theorem updZ_ne {f : Int → Int} {j k : Int} (v : Int) (h : j ≠ k) : updZ f k v j = f j := if_neg h
/-- A register is set, and the first one is 0. -/
def putX (x : Nat → Int) (k : Nat) (v : Int) : Nat → Int := updN (updN x k v) 0 0
theorem putX_zero (x : Nat → Int) (k : Nat) (v : Int) : putX x k v 0 = 0 := updN_same _ 0 0
theorem putX_same (x : Nat → Int) {k : Nat} (v : Int) (hk : k ≠ 0) : putX x k v k = v := by
  unfold putX; rw [updN_ne _ hk, updN_same]
theorem putX_ne (x : Nat → Int) {j k : Nat} (v : Int) (h : j ≠ k) (h0 : j ≠ 0) : putX x k v j = x j := by
  unfold putX; rw [updN_ne _ h0, updN_ne _ h]
theorem upd00 {x : Nat → Int} (h : x 0 = 0) : updN x 0 0 = x := by
  funext j
  unfold updN
  split
  · rename_i e; rw [e, h]
  · rfl
section
variable {C : MC} {x : Nat → Int} {mem : Int → Int} {inp out : List Int} {steps : Int} {pn : Nat} {i : Ins} {t : Int}
theorem nx_any (hi : C.list[pn]? = some i) (ht : C.tos[pn]? = some t) : nextZ C ⟨x, mem, inp, pn, 0, 0, out, steps⟩ = (goZ C (afterZ C ⟨x, mem, inp, pn + 1, 0, 0, out, steps + 1⟩ i) i t).setX 0 0 := by
  unfold nextZ stepZ insZ toZ
  dsimp only
  rw [Int.toNat_natCast, hi, ht]; rfl
theorem nx_reg (hi : C.list[pn]? = some i) (ht : C.tos[pn]? = some t) (ho : i.op ≤ 18) (v : Int) (hv : plainZ C ⟨x, mem, inp, pn + 1, 0, 0, out, steps + 1⟩ i = some v) :
    nextZ C ⟨x, mem, inp, pn, 0, 0, out, steps⟩ = ⟨putX x i.d.toNat v, mem, inp, ((pn + 1 : Nat) : Int), 0, 0, out, steps + 1⟩ := by
  rw [nx_any hi ht]
  unfold afterZ goZ
  rw [hv]
  dsimp only
  rw [if_neg (by omega), if_neg (by omega), if_neg (by omega), if_neg (by omega), if_neg (by omega)]
  rfl
theorem nx_go (hi : C.list[pn]? = some i) (ht : C.tos[pn]? = some t) (ho : 18 < i.op) :
    nextZ C ⟨x, mem, inp, pn, 0, 0, out, steps⟩ = (goZ C ⟨x, mem, inp, pn + 1, 0, 0, out, steps + 1⟩ i t).setX 0 0 := by
  rw [nx_any hi ht]
  have hp : plainZ C ⟨x, mem, inp, pn + 1, 0, 0, out, steps + 1⟩ i = none := by
    unfold plainZ
    rw [if_neg (by omega), if_neg (by omega), if_neg (by omega), if_neg (by omega), if_neg (by omega), if_neg (by omega), if_neg (by omega)]
  unfold afterZ
  rw [hp]
theorem goZ_mem {s : MS} (ho : i.op = 19 ∨ i.op = 20) : goZ C s i t = memZ C s i := if_pos ho
theorem goZ_br {s : MS} (ho : 21 ≤ i.op ∧ i.op ≤ 25) : goZ C s i t = if goesZ s i = true then { s with pl := t } else s := by
  unfold goZ; rw [if_neg (by omega), if_pos ho]
theorem goZ_jal {s : MS} (ho : i.op = 26) : goZ C s i t = { s.setX 1 (4 * s.pl) with pl := t } := by
  unfold goZ; rw [if_neg (by omega), if_neg (by omega), if_pos ho]
theorem goZ_ret {s : MS} (ho : i.op = 27) : goZ C s i t = backZ C s := by
  unfold goZ; rw [if_neg (by omega), if_neg (by omega), if_neg (by omega), if_pos ho]
theorem goZ_call {s : MS} (ho : i.op = 28) : goZ C s i t = ecallZ s := by
  unfold goZ; rw [if_neg (by omega), if_neg (by omega), if_neg (by omega), if_neg (by omega), if_pos ho]
theorem set00 (hx : x 0 = 0) (pl st code : Int) : (⟨x, mem, inp, pl, st, code, out, steps⟩ : MS).setX 0 0 = ⟨x, mem, inp, pl, st, code, out, steps⟩ := by
  show (⟨updN x 0 0, _, _, _, _, _, _, _⟩ : MS) = _
  rw [upd00 hx]
theorem nx_ld (hi : C.list[pn]? = some i) (ht : C.tos[pn]? = some t) (ho : i.op = 19) (k : Int) (hk : numberZ (wrap64 (x i.a.toNat + i.n)) C.arrays = k) (h0 : 0 ≤ k) :
    nextZ C ⟨x, mem, inp, pn, 0, 0, out, steps⟩ = ⟨putX x i.d.toNat (mem k), mem, inp, ((pn + 1 : Nat) : Int), 0, 0, out, steps + 1⟩ := by
  rw [nx_go hi ht (by omega), goZ_mem (.inl ho)]
  unfold memZ MS.reg
  dsimp only
  rw [hk, if_neg (by omega), if_pos ho]; rfl
theorem nx_sd (hi : C.list[pn]? = some i) (ht : C.tos[pn]? = some t) (ho : i.op = 20) (k : Int) (hk : numberZ (wrap64 (x i.a.toNat + i.n)) C.arrays = k) (h0 : 0 ≤ k) (hx : x 0 = 0) :
    nextZ C ⟨x, mem, inp, pn, 0, 0, out, steps⟩ = ⟨x, updZ mem k (x i.b.toNat), inp, ((pn + 1 : Nat) : Int), 0, 0, out, steps + 1⟩ := by
  rw [nx_go hi ht (by omega), goZ_mem (.inr ho)]
  unfold memZ MS.reg
  dsimp only
  rw [hk, if_neg (by omega), if_neg (by omega), set00 hx]; rfl
theorem nx_bad (hi : C.list[pn]? = some i) (ht : C.tos[pn]? = some t) (ho : i.op = 19 ∨ i.op = 20) (hk : numberZ (wrap64 (x i.a.toNat + i.n)) C.arrays < 0) :
    (nextZ C ⟨x, mem, inp, pn, 0, 0, out, steps⟩).tells = (6, 0, out, steps + 1) := by
  rw [nx_go hi ht (by omega), goZ_mem ho]
  unfold memZ MS.reg
  dsimp only
  rw [if_pos hk]; rfl
theorem nx_br (hi : C.list[pn]? = some i) (ht : C.tos[pn]? = some t) (ho : 21 ≤ i.op ∧ i.op ≤ 25) (b : Bool) (hb : goesZ ⟨x, mem, inp, pn + 1, 0, 0, out, steps + 1⟩ i = b) (hx : x 0 = 0) :
    nextZ C ⟨x, mem, inp, pn, 0, 0, out, steps⟩ = ⟨x, mem, inp, if b = true then t else ((pn + 1 : Nat) : Int), 0, 0, out, steps + 1⟩ := by
  rw [nx_go hi ht (by omega), goZ_br ho, hb]
  cases b
  · rw [if_neg (by decide), if_neg (by decide), set00 hx]; rfl
  · rw [if_pos rfl, if_pos rfl, set00 hx]
theorem nx_jal (hi : C.list[pn]? = some i) (ht : C.tos[pn]? = some t) (ho : i.op = 26) :
    nextZ C ⟨x, mem, inp, pn, 0, 0, out, steps⟩ = ⟨putX x 1 (4 * ((pn : Int) + 1)), mem, inp, t, 0, 0, out, steps + 1⟩ := by
  rw [nx_go hi ht (by omega), goZ_jal ho]; rfl
theorem nx_ret (hi : C.list[pn]? = some i) (ht : C.tos[pn]? = some t) (ho : i.op = 27) (k : Nat) (hk : x 1 = 4 * (k : Int)) (h1 : 1 ≤ k) (h2 : k ≤ C.list.length) (h3 : opAt C.list ((k : Int) - 1) = 26) (hx : x 0 = 0) :
    nextZ C ⟨x, mem, inp, pn, 0, 0, out, steps⟩ = ⟨x, mem, inp, k, 0, 0, out, steps + 1⟩ := by
  have e : (4 * (k : Int)).tdiv 4 = k := by rw [Int.tdiv_eq_ediv_of_nonneg (by omega)]; omega
  rw [nx_go hi ht (by omega), goZ_ret ho]
  unfold backZ MS.reg
  rw [show (⟨x, mem, inp, (pn : Int) + 1, 0, 0, out, steps + 1⟩ : MS).x (1 : Int).toNat = 4 * (k : Int) from hk, e, h3]
  rw [if_neg (by omega), set00 hx]
theorem nx_lost (hi : C.list[pn]? = some i) (ht : C.tos[pn]? = some t) (ho : i.op = 27) (h3 : ∀ k, opAt C.list k ≠ 26) :
    (nextZ C ⟨x, mem, inp, pn, 0, 0, out, steps⟩).tells = (6, 0, out, steps + 1) := by
  rw [nx_go hi ht (by omega), goZ_ret ho]
  unfold backZ
  rw [if_pos (.inr (.inr (.inr (h3 _))))]; rfl
theorem nx_tell (hi : C.list[pn]? = some i) (ht : C.tos[pn]? = some t) (ho : i.op = 28) (h17 : x 17 = 1) (hx : x 0 = 0) :
    nextZ C ⟨x, mem, inp, pn, 0, 0, out, steps⟩ = ⟨x, mem, inp, ((pn + 1 : Nat) : Int), 0, 0, out ++ [x 10], steps + 1⟩ := by
  rw [nx_go hi ht (by omega), goZ_call ho]
  unfold ecallZ
  rw [if_pos (show (⟨x, mem, inp, (pn : Int) + 1, 0, 0, out, steps + 1⟩ : MS).reg 17 = 1 from h17), set00 hx]; rfl
theorem nx_read (hi : C.list[pn]? = some i) (ht : C.tos[pn]? = some t) (ho : i.op = 28) (h17 : x 17 = 2) :
    nextZ C ⟨x, mem, inp, pn, 0, 0, out, steps⟩ = ⟨putX x 10 (inp.headD (-1)), mem, inp.tail, ((pn + 1 : Nat) : Int), 0, 0, out, steps + 1⟩ := by
  have e : (⟨x, mem, inp, (pn : Int) + 1, 0, 0, out, steps + 1⟩ : MS).reg 17 = 2 := h17
  rw [nx_go hi ht (by omega), goZ_call ho]
  unfold ecallZ
  rw [e, if_neg (by decide), if_pos rfl]; rfl
theorem nx_exit (hi : C.list[pn]? = some i) (ht : C.tos[pn]? = some t) (ho : i.op = 28) (h17 : x 17 = 3) :
    (nextZ C ⟨x, mem, inp, pn, 0, 0, out, steps⟩).tells = (1, x 10, out, steps + 1) := by
  have e : (⟨x, mem, inp, (pn : Int) + 1, 0, 0, out, steps + 1⟩ : MS).reg 17 = 3 := h17
  rw [nx_go hi ht (by omega), goZ_call ho]
  unfold ecallZ
  rw [e, if_neg (by decide), if_neg (by decide), if_pos rfl]; rfl
theorem nx_status (hi : C.list[pn]? = some i) (ht : C.tos[pn]? = some t) (ho : i.op = 28) (h17 : x 17 = 4) (h10 : 4 < x 10) :
    (nextZ C ⟨x, mem, inp, pn, 0, 0, out, steps⟩).tells = (6, 0, out, steps + 1) := by
  have e : (⟨x, mem, inp, (pn : Int) + 1, 0, 0, out, steps + 1⟩ : MS).reg 17 = 4 := h17
  have e2 : 4 < (⟨x, mem, inp, (pn : Int) + 1, 0, 0, out, steps + 1⟩ : MS).reg 10 := h10
  rw [nx_go hi ht (by omega), goZ_call ho]
  unfold ecallZ
  rw [e, if_neg (by decide), if_neg (by decide), if_neg (by decide), if_pos rfl, if_pos (.inr e2)]; rfl
theorem nx_unknown (hi : C.list[pn]? = some i) (ht : C.tos[pn]? = some t) (ho : i.op = 28) (h17 : 5 < x 17) :
    (nextZ C ⟨x, mem, inp, pn, 0, 0, out, steps⟩).tells = (6, 0, out, steps + 1) := by
  have e : 5 < (⟨x, mem, inp, (pn : Int) + 1, 0, 0, out, steps + 1⟩ : MS).reg 17 := h17
  rw [nx_go hi ht (by omega), goZ_call ho]
  unfold ecallZ
  rw [if_neg (by omega), if_neg (by omega), if_neg (by omega), if_neg (by omega), if_neg (by omega)]; rfl
/-- The last step of a run. -/
theorem run_last {s : MS} {n : Int} {r : Int × Int × List Int × Int} (h1 : s.st = 0) (h2 : s.pl < C.list.length) (h3 : s.steps < n) (h4 : (nextZ C s).tells = r) (h5 : r.1 ≠ 0) : (runR C n s).tells = r := by
  have e : (nextZ C s).st = r.1 := by rw [← h4]; rfl
  rw [runR_step h1 h2 h3, runR_st (by rw [e]; exact h5), h4]
theorem run_out_end {s : MS} {n : Int} (h1 : s.st = 0) (h2 : (C.list.length : Int) ≤ s.pl) : (runR C n s).tells = (6, 0, s.out, s.steps) := by rw [runR_end h1 h2]; rfl
end
end Go.Proofs.YtpgjfpphigeliaaGreatDoor

namespace Go.Proofs.YtpgjfpphigeliaaGreatDoor
open Go.RowKit
set_option maxHeartbeats 4000000
set_option maxRecDepth 100000

def awI1 : Ins := ⟨16, 17, 0, 0, 3, []⟩
def awI2 : Ins := ⟨16, 10, 0, 0, 7, []⟩
def awI3 : Ins := zeroI 28
def awC : Cd := ⟨[⟨[97], 2⟩], [lnI awI1, lnI awI2, lnI awI3]⟩
def awS : Bs := [46, 97, 114, 114, 97, 121, 32, 97, 32, 50, 10, 108, 105, 32, 120, 49, 55, 44, 32, 51, 10, 108, 105, 32, 120, 49, 48, 44, 32, 55, 10, 101, 99, 97, 108, 108, 10]
theorem aw_arrs : arrsE awC.arrs = 0 := by decide
theorem aw_wl : ∀ x, x ∈ awC.lines → x.label = [] ∧ rightI x.ins = true ∧ knownB awC x.ins = true := by
  intro x hx
  simp only [awC, List.mem_cons, List.not_mem_nil, or_false] at hx
  rcases hx with rfl | rfl | rfl
  · exact ⟨rfl, right_li ⟨by decide, by decide⟩, known_none (by decide) rfl⟩
  · exact ⟨rfl, right_li ⟨by decide, by decide⟩, known_none (by decide) rfl⟩
  · exact ⟨rfl, right_call, known_none (by decide) rfl⟩
theorem aw_check : checkC awC = (0, 0) := check_plain (by decide) aw_arrs aw_wl
theorem aw_short : ShortC awC := ⟨fun x hx => by
    simp only [awC, List.mem_cons, List.not_mem_nil, or_false] at hx
    rcases hx with rfl | rfl | rfl <;> exact ⟨by decide, by decide⟩, fun a ha => by
    simp only [awC, List.mem_cons, List.not_mem_nil, or_false] at ha
    subst ha; decide⟩
theorem aw_fine : FineC awC := ⟨by rw [aw_check], by decide, aw_short⟩
theorem aw_i64 : ∀ x, x ∈ awC.lines → I64 x.ins.n := by
  intro x hx
  simp only [awC, List.mem_cons, List.not_mem_nil, or_false] at hx
  rcases hx with rfl | rfl | rfl <;> exact ⟨by decide, by decide⟩
def zeroM : Int → Int := fun _ => 0
theorem startS_is (inp : List Int) : startS inp = ⟨spX, zeroM, inp, ((0 : Nat) : Int), 0, 0, [], 0⟩ := rfl
theorem aw_run (n : Int) (hn : 3 ≤ n) : (runC awC [] n).tells = (1, 7, [], 3) := by
  rw [runC_ok aw_check, startS_is]
  rw [run_next (t := ⟨putX spX 17 3, zeroM, [], ((1 : Nat) : Int), 0, 0, [], 0 + 1⟩) rfl (by decide) (show (0 : Int) < n by omega) (nx_reg (pn := 0) (i := awI1) (t := -1) rfl rfl (by decide) 3 rfl)]
  rw [run_next (t := ⟨putX (putX spX 17 3) 10 7, zeroM, [], ((2 : Nat) : Int), 0, 0, [], 0 + 1 + 1⟩) rfl (by decide) (show (0 + 1 : Int) < n by omega) (nx_reg (pn := 1) (i := awI2) (t := -1) rfl rfl (by decide) 7 rfl)]
  exact run_last rfl (by decide) (show (0 + 1 + 1 : Int) < n by omega) (nx_exit (pn := 2) (i := awI3) (t := -1) rfl rfl rfl rfl) (by decide)
theorem aw_run2 : (runC awC [] 2).tells = (0, 0, [], 2) := by
  rw [runC_ok aw_check, startS_is]
  rw [run_next (t := ⟨putX spX 17 3, zeroM, [], ((1 : Nat) : Int), 0, 0, [], 0 + 1⟩) rfl (by decide) (show (0 : Int) < 2 by omega) (nx_reg (pn := 0) (i := awI1) (t := -1) rfl rfl (by decide) 3 rfl)]
  rw [run_next (t := ⟨putX (putX spX 17 3) 10 7, zeroM, [], ((2 : Nat) : Int), 0, 0, [], 0 + 1 + 1⟩) rfl (by decide) (show (0 + 1 : Int) < 2 by omega) (nx_reg (pn := 1) (i := awI2) (t := -1) rfl rfl (by decide) 7 rfl)]
  rw [runR_stop rfl (by decide) (by decide)]; rfl
theorem aw_wells : ∀ x, x ∈ awC.lines → wellB x = true ∧ FitsI x.ins := by
  intro x hx
  obtain ⟨h1, h2, h3⟩ := aw_wl x hx
  refine ⟨by unfold wellB; rw [if_pos h1]; exact h2, ?_⟩
  simp only [awC, List.mem_cons, List.not_mem_nil, or_false] at hx
  rcases hx with rfl | rfl | rfl <;> exact ⟨by decide, by decide⟩
def awA : Bs := [46, 97, 114, 114, 97, 121, 32, 97, 32, 50]
theorem itoa_j2 : Lib.itoa 2 = [50] := by decide +kernel
theorem awA_take : takeB [] [] awA = some ([⟨[97], 2⟩], []) :=
  arr_take [] awA [97] [50] 2 (by decide) (cut_one 32 [97] [50] (by decide)) (by rw [← itoa_j2]; exact num_back 2 (by decide) (by decide)) (by decide)
theorem itoa_j3 : Lib.itoa 3 = [51] := by decide +kernel
theorem itoa_j7 : Lib.itoa 7 = [55] := by decide +kernel
theorem aw_lines : NE (linesG [] awS) = awA :: awC.lines.map lineC := by
  have e : awC.lines.map lineC = [[108, 105, 32, 120, 49, 55, 44, 32, 51], [108, 105, 32, 120, 49, 48, 44, 32, 55], [101, 99, 97, 108, 108]] := by
    decide +kernel
  rw [e]
  decide +kernel
theorem aw_takes : takesB [] [] (NE (linesG [] awS)) = some (awC.arrs, awC.lines) := by
  rw [aw_lines]
  show (match takeB [] [] awA with | none => none | some (a', l') => takesB a' l' (awC.lines.map lineC)) = _
  rw [awA_take]
  exact takesB_lines awC.lines [⟨[97], 2⟩] [] aw_wells
theorem aw_parse : parseA awS = (awC, 0, 0) := parse_of (by decide) aw_takes aw_check
end Go.Proofs.YtpgjfpphigeliaaGreatDoor

namespace Go.Proofs.YtpgjfpphigeliaaGreatDoor
open Go.RowKit
set_option maxHeartbeats 4000000
set_option maxRecDepth 100000

/-- A row in a block of its own. -/
theorem lns_block {w : World} {A : Nat} {L : List Ln} (h : OwnAt w A (L.flatMap lnCells) 41) (hl : L.length ≤ 140737488355328) : LnsAt w L (.slice (some ⟨A, 0, none⟩) L.length L.length) := by
  refine ⟨some ⟨A, 0, none⟩, L.length, A, 0, rfl, .inr rfl, hl, fun i p hi q u hq => ?_⟩
  have hqk : q < 7 := by rw [← lnCells_len p]; exact (List.getElem?_eq_some_iff.1 hq).1
  rw [Nat.zero_add]
  exact h.at (i * 7 + q) u (by rw [iflat_at lnCells 7 lnCells_len L i q p hi hqk]; exact hq)
theorem ars_block {w : World} {A : Nat} {L : List Ar} (h : OwnAt w A (L.flatMap arCells) 37) (hl : L.length ≤ 140737488355328) : ArwAt w L (.slice (some ⟨A, 0, none⟩) L.length L.length) := by
  refine ⟨some ⟨A, 0, none⟩, L.length, A, 0, rfl, .inr rfl, hl, fun i p hi q u hq => ?_⟩
  have hqk : q < 2 := by rw [← arCells_len p]; exact (List.getElem?_eq_some_iff.1 hq).1
  rw [Nat.zero_add]
  exact h.at (i * 2 + q) u (by rw [iflat_at arCells 2 arCells_len L i q p hi hqk]; exact hq)
theorem ints_block {w : World} {A : Nat} {L : List Int} (h : OwnAt w A (L.flatMap intCells) 3) (hl : L.length ≤ 140737488355328) : NumsAt w L (.slice (some ⟨A, 0, none⟩) L.length L.length) := by
  refine ⟨some ⟨A, 0, none⟩, L.length, A, 0, rfl, .inr rfl, hl, fun i p hi q u hq => ?_⟩
  have hqk : q < 1 := by rw [← intCells_len p]; exact (List.getElem?_eq_some_iff.1 hq).1
  rw [Nat.zero_add]
  exact h.at (i * 1 + q) u (by rw [iflat_at intCells 1 intCells_len L i q p hi hqk]; exact hq)
/-- Lines whose labels and names are short. -/
theorem short_of {c : Cd} (h1 : ∀ x, x ∈ c.lines → x.label.length ≤ 40 ∧ x.ins.name.length ≤ 40) (h2 : ∀ a, a ∈ c.arrs → a.name.length ≤ 40) : ShortC c :=
  ⟨fun x hx => ⟨by have := (h1 x hx).1; omega, by have := (h1 x hx).2; omega⟩, fun a ha => by have := h2 a ha; omega⟩
def farB : Bs := [102, 97, 114]
def brC (op a b : Int) : Cd := ⟨[], [lnI ⟨16, 5, 0, 0, a, []⟩, lnI ⟨16, 6, 0, 0, b, []⟩, lnI ⟨16, 17, 0, 0, 3, []⟩, lnI ⟨op, 0, 5, 6, 0, farB⟩, lnI (zeroI 28), ⟨farB, zeroI 0⟩, lnI ⟨16, 10, 0, 0, 1, []⟩, lnI (zeroI 28)]⟩
theorem br_check (op a b : Int) (ho : op = 21 ∨ op = 22 ∨ op = 23 ∨ op = 24) : checkC (brC op a b) = (0, 0) := by
  refine checkC_ok (of_decide_eq_true rfl) rfl fun j hj => ?_
  have hj : j = 0 ∨ j = 1 ∨ j = 2 ∨ j = 3 ∨ j = 4 ∨ j = 5 ∨ j = 6 ∨ j = 7 := by have : j < 8 := hj; omega
  have hw : ∀ i : Ins, rightI i = true → wellB (lnI i) = true := fun i h => h
  rcases hj with rfl | rfl | rfl | rfl | rfl | rfl | rfl | rfl
  · exact lineE_zero.2 ⟨hw _ (right_li ⟨by decide, by decide⟩), fun h => absurd rfl h, known_none (of_decide_eq_true rfl) rfl⟩
  · exact lineE_zero.2 ⟨hw _ (right_li ⟨by decide, by decide⟩), fun h => absurd rfl h, known_none (of_decide_eq_true rfl) rfl⟩
  · exact lineE_zero.2 ⟨hw _ (right_li ⟨by decide, by decide⟩), fun h => absurd rfl h, known_none (of_decide_eq_true rfl) rfl⟩
  · refine lineE_zero.2 ⟨hw _ (right_br (by omega) ⟨by decide, by decide⟩ ⟨by decide, by decide⟩ (by decide)), fun h => absurd rfl h, ?_⟩
    show knownB _ ⟨op, 0, 5, 6, 0, farB⟩ = true
    unfold knownB
    rw [if_neg (by show ¬ op = 17; omega)]; rfl
  · exact lineE_zero.2 ⟨hw _ right_call, fun h => absurd rfl h, known_none (of_decide_eq_true rfl) rfl⟩
  · refine lineE_zero.2 ⟨rfl, fun _ => ?_, known_none (of_decide_eq_true rfl) rfl⟩
    show (5 : Int) ≤ 5
    exact Int.le_refl _
  · exact lineE_zero.2 ⟨hw _ (right_li ⟨by decide, by decide⟩), fun h => absurd rfl h, known_none (of_decide_eq_true rfl) rfl⟩
  · exact lineE_zero.2 ⟨hw _ right_call, fun h => absurd rfl h, known_none (of_decide_eq_true rfl) rfl⟩
theorem br_fine (op a b : Int) (ho : op = 21 ∨ op = 22 ∨ op = 23 ∨ op = 24) : FineC (brC op a b) := by
  refine ⟨by rw [br_check op a b ho], (of_decide_eq_true rfl), short_of (fun x hx => ?_) (fun a ha => by cases ha)⟩
  simp only [brC, List.mem_cons, List.not_mem_nil, or_false] at hx
  rcases hx with rfl | rfl | rfl | rfl | rfl | rfl | rfl | rfl <;> exact ⟨(of_decide_eq_true rfl), (of_decide_eq_true rfl)⟩
theorem br_i64 (op a b : Int) (ha : I64 a) (hb : I64 b) : ∀ x, x ∈ (brC op a b).lines → I64 x.ins.n := by
  intro x hx
  simp only [brC, List.mem_cons, List.not_mem_nil, or_false] at hx
  rcases hx with rfl | rfl | rfl | rfl | rfl | rfl | rfl | rfl <;> first | exact ha | exact hb | exact ⟨(of_decide_eq_true rfl), (of_decide_eq_true rfl)⟩
def brS (a b : Int) : MS := ⟨putX (putX (putX spX 5 a) 6 b) 17 3, zeroM, [], ((3 : Nat) : Int), 0, 0, [], 3⟩
theorem br_run (op a b : Int) (ho : op = 21 ∨ op = 22 ∨ op = 23 ∨ op = 24) (g : Bool) (hg : goesZ ⟨putX (putX (putX spX 5 a) 6 b) 17 3, zeroM, [], ((3 : Nat) : Int) + 1, 0, 0, [], 4⟩ ⟨op, 0, 5, 6, 0, farB⟩ = g) : (runC (brC op a b) [] 9).tells = if g = true then (1, 1, [], 6) else (1, 0, [], 5) := by
  have ht : (machR (brC op a b)).tos[3]? = some 5 := by
    show some (toA (brC op a b) ⟨op, 0, 5, 6, 0, farB⟩) = some 5
    unfold toA
    rw [if_pos ⟨by show op ≠ 17; omega, by show farB ≠ []; decide⟩]; rfl
  rw [runC_ok (br_check op a b ho), startS_is]
  rw [run_next (t := ⟨putX spX 5 a, zeroM, [], ((1 : Nat) : Int), 0, 0, [], 1⟩) rfl (show (0 : Int) < 7 by decide) (of_decide_eq_true rfl) (nx_reg (pn := 0) (i := ⟨16, 5, 0, 0, a, []⟩) (t := -1) rfl rfl (of_decide_eq_true rfl) a rfl)]
  rw [run_next (t := ⟨putX (putX spX 5 a) 6 b, zeroM, [], ((2 : Nat) : Int), 0, 0, [], 2⟩) rfl (show (1 : Int) < 7 by decide) (of_decide_eq_true rfl) (nx_reg (pn := 1) (i := ⟨16, 6, 0, 0, b, []⟩) (t := -1) rfl rfl (of_decide_eq_true rfl) b rfl)]
  rw [run_next (t := ⟨putX (putX (putX spX 5 a) 6 b) 17 3, zeroM, [], ((3 : Nat) : Int), 0, 0, [], 3⟩) rfl (show (2 : Int) < 7 by decide) (of_decide_eq_true rfl) (nx_reg (pn := 2) (i := ⟨16, 17, 0, 0, 3, []⟩) (t := -1) rfl rfl (of_decide_eq_true rfl) 3 rfl)]
  rw [run_next rfl (show (3 : Int) < 7 by decide) (of_decide_eq_true rfl) (nx_br (pn := 3) (i := ⟨op, 0, 5, 6, 0, farB⟩) (t := 5) rfl ht ⟨by show 21 ≤ op; omega, by show op ≤ 25; omega⟩ g hg rfl)]
  cases g
  · rw [if_neg (by decide), if_neg (by decide)]
    exact run_last rfl (show (4 : Int) < 7 by decide) (of_decide_eq_true rfl) (nx_exit (pn := 4) (i := zeroI 28) (t := -1) rfl rfl rfl rfl) (by decide)
  · rw [if_pos rfl, if_pos rfl]
    rw [run_next (t := ⟨putX (putX (putX (putX spX 5 a) 6 b) 17 3) 10 1, zeroM, [], ((6 : Nat) : Int), 0, 0, [], 5⟩) rfl (show (5 : Int) < 7 by decide) (of_decide_eq_true rfl) (nx_reg (pn := 5) (i := ⟨16, 10, 0, 0, 1, []⟩) (t := -1) rfl rfl (of_decide_eq_true rfl) 1 rfl)]
    exact run_last rfl (show (6 : Int) < 7 by decide) (of_decide_eq_true rfl) (nx_exit (pn := 6) (i := zeroI 28) (t := -1) rfl rfl rfl rfl) (by decide)
end Go.Proofs.YtpgjfpphigeliaaGreatDoor

namespace Go.Proofs.YtpgjfpphigeliaaGreatDoor
open Go.RowKit
set_option maxHeartbeats 4000000
set_option maxRecDepth 100000

theorem fine_of {arrs : List Ar} {L : List Ln} (hE : arrsE arrs = 0) (hal : arrs.length ≤ 1000) (han : ∀ a, a ∈ arrs → a.name.length ≤ 40) (hl : L.length ≤ 1000) (h : ∀ x, x ∈ L → x.label = [] ∧ rightI x.ins = true ∧ knownB ⟨arrs, L⟩ x.ins = true) : checkC ⟨arrs, L⟩ = (0, 0) ∧ FineC ⟨arrs, L⟩ := by
  have hc : checkC ⟨arrs, L⟩ = (0, 0) := check_plain (by show L.length ≤ 40000; omega) hE h
  refine ⟨hc, by rw [hc], hal, short_of (fun x hx => ?_) han⟩
  obtain ⟨h1, h2, _⟩ := h x hx
  exact ⟨by rw [h1]; exact Nat.zero_le _, right_name h2⟩
theorem wrap_small {z : Int} (h0 : -9223372036854775808 ≤ z) (h1 : z ≤ 9223372036854775807) : wrap64 z = z := by unfold wrap64; omega
def arrA : List Ar := [⟨[97], 10⟩]
def faC (L : List Ln) : Cd := ⟨arrA, L⟩
theorem known_a {L : List Ln} {o d a b n : Int} : knownB (faC L) ⟨17, d, a, b, n, [97]⟩ = true := rfl
def fa0 (n : Int) : Cd := faC [lnI ⟨16, 5, 0, 0, 65616 + 8 * n, []⟩, lnI ⟨19, 6, 5, 0, 0, []⟩]
theorem fa0_ok (n : Int) (h0 : 0 ≤ n) (h1 : n < 1000) : (checkC (fa0 n) = (0, 0) ∧ FineC (fa0 n)) ∧ ∀ x, x ∈ (fa0 n).lines → I64 x.ins.n := by
  refine ⟨fine_of (by decide) (by decide) (by decide) (of_decide_eq_true rfl) (fun x hx => ?_), fun x hx => ?_⟩
  · simp only [List.mem_cons, List.not_mem_nil, or_false] at hx
    rcases hx with rfl | rfl
    · exact ⟨rfl, right_li ⟨by decide, by decide⟩, known_none (of_decide_eq_true rfl) rfl⟩
    · exact ⟨rfl, right_ld ⟨by decide, by decide⟩ ⟨by decide, by decide⟩ ⟨by decide, by decide⟩, known_none (of_decide_eq_true rfl) rfl⟩
  · simp only [fa0, faC, List.mem_cons, List.not_mem_nil, or_false] at hx
    rcases hx with rfl | rfl <;> (unfold I64 lnI; (try unfold zeroI); dsimp only; omega)
theorem fa0_run (n : Int) (h0 : 0 ≤ n) (h1 : n < 1000) : (runC (fa0 n) [] 99).tells = (6, 0, [], 2) := by
  rw [runC_ok (fa0_ok n h0 h1).1.1, startS_is]
  rw [run_next (t := ⟨putX spX 5 (65616 + 8 * n), zeroM, [], ((1 : Nat) : Int), 0, 0, [], 1⟩) rfl (show (0 : Int) < 2 by decide) (of_decide_eq_true rfl) (nx_reg (pn := 0) (i := ⟨16, 5, 0, 0, 65616 + 8 * n, []⟩) (t := -1) rfl rfl (of_decide_eq_true rfl) (65616 + 8 * n) rfl)]
  refine run_last rfl (show (1 : Int) < 2 by decide) (of_decide_eq_true rfl) (nx_bad (pn := 1) (i := ⟨19, 6, 5, 0, 0, []⟩) (t := -1) rfl rfl (.inl rfl) ?_) (by decide)
  show numberZ (wrap64 (65616 + 8 * n + 0)) 10 < 0
  rw [wrap_small (by omega) (by omega)]
  unfold numberZ
  rw [if_neg (by omega), if_neg (by omega), if_neg (by omega)]
  decide
def fa1 (n : Int) : Cd := faC [lnI ⟨17, 5, 0, 0, 0, [97]⟩, lnI ⟨20, 0, 5, 5, 1 + n % 7, []⟩]
theorem fa1_ok (n : Int) (h0 : 0 ≤ n) (h1 : n < 1000) : (checkC (fa1 n) = (0, 0) ∧ FineC (fa1 n)) ∧ ∀ x, x ∈ (fa1 n).lines → I64 x.ins.n := by
  refine ⟨fine_of (by decide) (by decide) (by decide) (of_decide_eq_true rfl) (fun x hx => ?_), fun x hx => ?_⟩
  · simp only [List.mem_cons, List.not_mem_nil, or_false] at hx
    rcases hx with rfl | rfl
    · exact ⟨rfl, right_la ⟨by decide, by decide⟩ (by decide), known_a (o := 17)⟩
    · exact ⟨rfl, right_sd ⟨by decide, by decide⟩ ⟨by decide, by decide⟩ ⟨by omega, by omega⟩, known_none (of_decide_eq_true rfl) rfl⟩
  · simp only [fa1, faC, List.mem_cons, List.not_mem_nil, or_false] at hx
    rcases hx with rfl | rfl <;> (unfold I64 lnI; (try unfold zeroI); dsimp only; omega)
theorem fa1_run (n : Int) (h0 : 0 ≤ n) (h1 : n < 1000) : (runC (fa1 n) [] 99).tells = (6, 0, [], 2) := by
  rw [runC_ok (fa1_ok n h0 h1).1.1, startS_is]
  rw [run_next (t := ⟨putX spX 5 65536, zeroM, [], ((1 : Nat) : Int), 0, 0, [], 1⟩) rfl (show (0 : Int) < 2 by decide) (of_decide_eq_true rfl) (nx_reg (pn := 0) (i := ⟨17, 5, 0, 0, 0, [97]⟩) (t := -1) rfl rfl (of_decide_eq_true rfl) 65536 rfl)]
  refine run_last rfl (show (1 : Int) < 2 by decide) (of_decide_eq_true rfl) (nx_bad (pn := 1) (i := ⟨20, 0, 5, 5, 1 + n % 7, []⟩) (t := -1) rfl rfl (.inr rfl) ?_) (by decide)
  show numberZ (wrap64 (65536 + (1 + n % 7))) 10 < 0
  rw [wrap_small (by omega) (by omega)]
  unfold numberZ
  rw [if_pos (by omega)]
  decide
def fa2 (n : Int) : Cd := faC [lnI ⟨16, 17, 0, 0, 6 + n, []⟩, lnI (zeroI 28)]
theorem fa2_ok (n : Int) (h0 : 0 ≤ n) (h1 : n < 1000) : (checkC (fa2 n) = (0, 0) ∧ FineC (fa2 n)) ∧ ∀ x, x ∈ (fa2 n).lines → I64 x.ins.n := by
  refine ⟨fine_of (by decide) (by decide) (by decide) (of_decide_eq_true rfl) (fun x hx => ?_), fun x hx => ?_⟩
  · simp only [List.mem_cons, List.not_mem_nil, or_false] at hx
    rcases hx with rfl | rfl
    · exact ⟨rfl, right_li ⟨by decide, by decide⟩, known_none (of_decide_eq_true rfl) rfl⟩
    · exact ⟨rfl, right_call, known_none (of_decide_eq_true rfl) rfl⟩
  · simp only [fa2, faC, List.mem_cons, List.not_mem_nil, or_false] at hx
    rcases hx with rfl | rfl <;> (unfold I64 lnI; (try unfold zeroI); dsimp only; omega)
theorem fa2_run (n : Int) (h0 : 0 ≤ n) (h1 : n < 1000) : (runC (fa2 n) [] 99).tells = (6, 0, [], 2) := by
  rw [runC_ok (fa2_ok n h0 h1).1.1, startS_is]
  rw [run_next (t := ⟨putX spX 17 (6 + n), zeroM, [], ((1 : Nat) : Int), 0, 0, [], 1⟩) rfl (show (0 : Int) < 2 by decide) (of_decide_eq_true rfl) (nx_reg (pn := 0) (i := ⟨16, 17, 0, 0, 6 + n, []⟩) (t := -1) rfl rfl (of_decide_eq_true rfl) (6 + n) rfl)]
  exact run_last rfl (show (1 : Int) < 2 by decide) (of_decide_eq_true rfl) (nx_unknown (pn := 1) (i := (zeroI 28)) (t := -1) rfl rfl rfl (show 5 < 6 + n by omega)) (by decide)
def fa3 (n : Int) : Cd := faC [lnI ⟨16, 1, 0, 0, n, []⟩, lnI (zeroI 27)]
theorem fa3_ok (n : Int) (h0 : 0 ≤ n) (h1 : n < 1000) : (checkC (fa3 n) = (0, 0) ∧ FineC (fa3 n)) ∧ ∀ x, x ∈ (fa3 n).lines → I64 x.ins.n := by
  refine ⟨fine_of (by decide) (by decide) (by decide) (of_decide_eq_true rfl) (fun x hx => ?_), fun x hx => ?_⟩
  · simp only [List.mem_cons, List.not_mem_nil, or_false] at hx
    rcases hx with rfl | rfl
    · exact ⟨rfl, right_li ⟨by decide, by decide⟩, known_none (of_decide_eq_true rfl) rfl⟩
    · exact ⟨rfl, right_ret, known_none (of_decide_eq_true rfl) rfl⟩
  · simp only [fa3, faC, List.mem_cons, List.not_mem_nil, or_false] at hx
    rcases hx with rfl | rfl <;> (unfold I64 lnI; (try unfold zeroI); dsimp only; omega)
theorem fa3_run (n : Int) (h0 : 0 ≤ n) (h1 : n < 1000) : (runC (fa3 n) [] 99).tells = (6, 0, [], 2) := by
  rw [runC_ok (fa3_ok n h0 h1).1.1, startS_is]
  rw [run_next (t := ⟨putX spX 1 n, zeroM, [], ((1 : Nat) : Int), 0, 0, [], 1⟩) rfl (show (0 : Int) < 2 by decide) (of_decide_eq_true rfl) (nx_reg (pn := 0) (i := ⟨16, 1, 0, 0, n, []⟩) (t := -1) rfl rfl (of_decide_eq_true rfl) n rfl)]
  refine run_last rfl (show (1 : Int) < 2 by decide) (of_decide_eq_true rfl) (nx_lost (pn := 1) (i := (zeroI 27)) (t := -1) rfl rfl rfl ?_) (by decide)
  intro k
  show opAt [⟨16, 1, 0, 0, n, []⟩, (zeroI 27)] k ≠ 26
  unfold opAt
  generalize k.toNat = j
  match j with
  | 0 => show (16 : Int) ≠ 26; decide
  | 1 => show (27 : Int) ≠ 26; decide
  | j + 2 => show (0 : Int) ≠ 26; decide
def fa4 (n : Int) : Cd := faC [lnI ⟨16, 10, 0, 0, 5 + n, []⟩, lnI ⟨16, 17, 0, 0, 4, []⟩, lnI (zeroI 28)]
theorem fa4_ok (n : Int) (h0 : 0 ≤ n) (h1 : n < 1000) : (checkC (fa4 n) = (0, 0) ∧ FineC (fa4 n)) ∧ ∀ x, x ∈ (fa4 n).lines → I64 x.ins.n := by
  refine ⟨fine_of (by decide) (by decide) (by decide) (of_decide_eq_true rfl) (fun x hx => ?_), fun x hx => ?_⟩
  · simp only [List.mem_cons, List.not_mem_nil, or_false] at hx
    rcases hx with rfl | rfl | rfl
    · exact ⟨rfl, right_li ⟨by decide, by decide⟩, known_none (of_decide_eq_true rfl) rfl⟩
    · exact ⟨rfl, right_li ⟨by decide, by decide⟩, known_none (of_decide_eq_true rfl) rfl⟩
    · exact ⟨rfl, right_call, known_none (of_decide_eq_true rfl) rfl⟩
  · simp only [fa4, faC, List.mem_cons, List.not_mem_nil, or_false] at hx
    rcases hx with rfl | rfl | rfl <;> (unfold I64 lnI; (try unfold zeroI); dsimp only; omega)
theorem fa4_run (n : Int) (h0 : 0 ≤ n) (h1 : n < 1000) : (runC (fa4 n) [] 99).tells = (6, 0, [], 3) := by
  rw [runC_ok (fa4_ok n h0 h1).1.1, startS_is]
  rw [run_next (t := ⟨putX spX 10 (5 + n), zeroM, [], ((1 : Nat) : Int), 0, 0, [], 1⟩) rfl (show (0 : Int) < 3 by decide) (of_decide_eq_true rfl) (nx_reg (pn := 0) (i := ⟨16, 10, 0, 0, 5 + n, []⟩) (t := -1) rfl rfl (of_decide_eq_true rfl) (5 + n) rfl)]
  rw [run_next (t := ⟨putX (putX spX 10 (5 + n)) 17 4, zeroM, [], ((2 : Nat) : Int), 0, 0, [], 2⟩) rfl (show (1 : Int) < 3 by decide) (of_decide_eq_true rfl) (nx_reg (pn := 1) (i := ⟨16, 17, 0, 0, 4, []⟩) (t := -1) rfl rfl (of_decide_eq_true rfl) 4 rfl)]
  exact run_last rfl (show (2 : Int) < 3 by decide) (of_decide_eq_true rfl) (nx_status (pn := 2) (i := (zeroI 28)) (t := -1) rfl rfl rfl rfl (show 4 < 5 + n by omega)) (by decide)
def fa5 (n : Int) : Cd := faC [lnI ⟨16, 10, 0, 0, n, []⟩, lnI ⟨15, 0, 10, 0, 0, []⟩]
theorem fa5_ok (n : Int) (h0 : 0 ≤ n) (h1 : n < 1000) : (checkC (fa5 n) = (0, 0) ∧ FineC (fa5 n)) ∧ ∀ x, x ∈ (fa5 n).lines → I64 x.ins.n := by
  refine ⟨fine_of (by decide) (by decide) (by decide) (of_decide_eq_true rfl) (fun x hx => ?_), fun x hx => ?_⟩
  · simp only [List.mem_cons, List.not_mem_nil, or_false] at hx
    rcases hx with rfl | rfl
    · exact ⟨rfl, right_li ⟨by decide, by decide⟩, known_none (of_decide_eq_true rfl) rfl⟩
    · exact ⟨rfl, right_mv ⟨by decide, by decide⟩ ⟨by decide, by decide⟩, known_none (of_decide_eq_true rfl) rfl⟩
  · simp only [fa5, faC, List.mem_cons, List.not_mem_nil, or_false] at hx
    rcases hx with rfl | rfl <;> (unfold I64 lnI; (try unfold zeroI); dsimp only; omega)
theorem fa5_run (n : Int) (h0 : 0 ≤ n) (h1 : n < 1000) : (runC (fa5 n) [] 99).tells = (6, 0, [], 2) := by
  rw [runC_ok (fa5_ok n h0 h1).1.1, startS_is]
  rw [run_next (t := ⟨putX spX 10 n, zeroM, [], ((1 : Nat) : Int), 0, 0, [], 1⟩) rfl (show (0 : Int) < 2 by decide) (of_decide_eq_true rfl) (nx_reg (pn := 0) (i := ⟨16, 10, 0, 0, n, []⟩) (t := -1) rfl rfl (of_decide_eq_true rfl) n rfl)]
  rw [run_next (t := ⟨putX (putX spX 10 n) 0 n, zeroM, [], ((2 : Nat) : Int), 0, 0, [], 2⟩) rfl (show (1 : Int) < 2 by decide) (of_decide_eq_true rfl) (nx_reg (pn := 1) (i := ⟨15, 0, 10, 0, 0, []⟩) (t := -1) rfl rfl (of_decide_eq_true rfl) n rfl)]
  exact run_out_end rfl (show (2 : Int) ≤ 2 by decide)
end Go.Proofs.YtpgjfpphigeliaaGreatDoor

namespace Go.Proofs.YtpgjfpphigeliaaGreatDoor
open Go.RowKit
set_option maxHeartbeats 4000000
set_option maxRecDepth 100000

theorem inp_nil (w : World) : InpAt w [] (.slice none 0 0) := ⟨RwAt.nil _ _ _, ⟨none, 0, 0, rfl, Nat.le_refl _, by decide⟩⟩
/-- Run, told as its four parts. -/
theorem run_tells (c : Cd) (h : FineC c) (hn : ∀ x, x ∈ c.lines → I64 x.ins.n) (inp : List Int) (hin : ∀ z, z ∈ inp → I64 z) (n : Int) (hnn : n ≤ 100000) (hn0 : 0 ≤ n) (st cd sp : Int) (o : List Int) (hr : (runC c inp n).tells = (st, cd, o, sp)) (va vl vin : Value) (w : World) (hc : CodeAt w c va vl) (hi : InpAt w inp vin) :
    Calls Tryz.prog 14 #[.agg #[va, vl], vin, .int .i64 n] w fun e w' => ∃ a cap, e = .returned (.agg #[.int .i64 st, .int .i64 cd, .slice a o.length cap, .int .i64 sp]) ∧ NumsOwn w' w.heap.size o (.slice a o.length cap) ∧ Below w.heap.size w w' := by
  refine (run_any c h hn inp hin n hnn ⟨by omega, by omega⟩ va vl vin w hc hi).mono ?_
  rintro e w' ⟨vout, h1, h2, h3⟩
  have e1 : (runC c inp n).st = st := congrArg (·.1) hr
  have e2 : (runC c inp n).code = cd := congrArg (·.2.1) hr
  have e3 : (runC c inp n).out = o := congrArg (·.2.2.1) hr
  have e4 : (runC c inp n).steps = sp := congrArg (·.2.2.2) hr
  rw [e1, e2, e4] at h1
  rw [e3] at h2
  obtain ⟨a, cap, rfl⟩ := RwOwn.shape h2
  exact ⟨a, cap, h1, h2, h3⟩
theorem jawake_any (w : World) (hl : ILib w) :
    Calls Tryz.prog 11 #[] w fun e w' => e = .returned (.bool true) ∧ Below w.heap.size w w' := by
  have HL := Lib.hid hl
  have HP : Hid (∀ w', ILib w' → Calls Tryz.prog 18 #[.string ⟨#[46, 97, 114, 114, 97, 121, 32, 97, 32, 50, 10, 108, 105, 32, 120, 49, 55, 44, 32, 51, 10, 108, 105, 32, 120, 49, 48, 44, 32, 55, 10, 101, 99, 97, 108, 108, 10]⟩] w' fun e w'' => ∃ aa ca al cl, e = .returned (.tuple #[.agg #[.slice aa 1 ca, .slice al 3 cl], .int .i64 0, .int .i64 0]) ∧ CodeAt w'' awC (.slice aa 1 ca) (.slice al 3 cl) ∧ Below w'.heap.size w' w'') := by
    intro w' h
    refine (codeParse_any awS (by decide) w' h).mono ?_
    rw [aw_parse]
    rintro e w2 ⟨va, vl, h1, h2, _, h4⟩
    obtain ⟨aa, ca, rfl⟩ := RwAt.shape h2.1
    obtain ⟨al, cl, rfl⟩ := RwAt.shape h2.2
    exact ⟨aa, ca, al, cl, h1, h2, h4⟩
  have HR1 : Hid (∀ w' va vl, CodeAt w' awC va vl → Calls Tryz.prog 14 #[.agg #[va, vl], .slice none 0 0, .int .i64 99] w' fun e w'' => ∃ a cap, e = .returned (.agg #[.int .i64 1, .int .i64 7, .slice a 0 cap, .int .i64 3]) ∧ NumsOwn w'' w'.heap.size [] (.slice a 0 cap) ∧ Below w'.heap.size w' w'') := Lib.hid fun w' va vl h => run_tells awC aw_fine aw_i64 [] (fun z hz => by cases hz) 99 (by decide) (by decide) 1 7 3 [] (aw_run 99 (by decide)) va vl _ w' h (inp_nil w')
  have HR2 : Hid (∀ w' va vl, CodeAt w' awC va vl → Calls Tryz.prog 14 #[.agg #[va, vl], .slice none 0 0, .int .i64 2] w' fun e w'' => ∃ a cap, e = .returned (.agg #[.int .i64 0, .int .i64 0, .slice a 0 cap, .int .i64 2]) ∧ NumsOwn w'' w'.heap.size [] (.slice a 0 cap) ∧ Below w'.heap.size w' w'') := Lib.hid fun w' va vl h => run_tells awC aw_fine aw_i64 [] (fun z hz => by cases hz) 2 (by decide) (by decide) 0 0 2 [] aw_run2 va vl _ w' h (inp_nil w')
  have HA1 : Hid (∀ w' va vl, CodeAt w' awC va vl → Calls Tryz.prog 19 #[.agg #[va, vl], .string ⟨#[97]⟩] w' fun e w'' => e = .returned (.int .i64 65536) ∧ Below w'.heap.size w' w'') := Lib.hid fun w' va vl h => addr_any awC aw_fine va vl [97] (by decide) w' h
  have HA2 : Hid (∀ w' va vl, CodeAt w' awC va vl → Calls Tryz.prog 19 #[.agg #[va, vl], .string ⟨#[98]⟩] w' fun e w'' => e = .returned (.int .i64 (-1)) ∧ Below w'.heap.size w' w'') := Lib.hid fun w' va vl h => addr_any awC aw_fine va vl [98] (by decide) w' h
  have HW1 : Hid (∀ w' va vl, CodeAt w' awC va vl → Calls Tryz.prog 20 #[.agg #[va, vl], .int .i64 65544] w' fun e w'' => e = .returned (.int .i64 1) ∧ Below w'.heap.size w' w'') := Lib.hid fun w' va vl h => where_any awC aw_fine va vl 65544 ⟨by decide, by decide⟩ w' h
  have HW2 : Hid (∀ w' va vl, CodeAt w' awC va vl → Calls Tryz.prog 20 #[.agg #[va, vl], .int .i64 65552] w' fun e w'' => e = .returned (.int .i64 (-1)) ∧ Below w'.heap.size w' w'') := Lib.hid fun w' va vl h => where_any awC aw_fine va vl 65552 ⟨by decide, by decide⟩ w' h
  have HW3 : Hid (∀ w' va vl, CodeAt w' awC va vl → Calls Tryz.prog 20 #[.agg #[va, vl], .int .i64 1073741816] w' fun e w'' => e = .returned (.int .i64 4097) ∧ Below w'.heap.size w' w'') := Lib.hid fun w' va vl h => where_any awC aw_fine va vl 1073741816 ⟨by decide, by decide⟩ w' h
  have HS1 := Lib.hid (fun v1 v2 w h1 h2 => jsame_eq 1 7 3 [] v1 v2 w h1 h2)
  have HS2 := Lib.hid (fun v1 v2 w h1 h2 => jsame_eq 0 0 2 [] v1 v2 w h1 h2)
  clear hl
  generalize awC = C at *
  go_enter Tryz.func11, Tryz.ntmps11
  go_wp2_with fail
  refine (HP.out _ HL.out).mono ?_
  rintro e w1 ⟨aa, ca, al, cl, rfl, hc1, hb1⟩
  have ho1 := OwnAt.new w1 [.slice aa 1 ca, .slice al 3 cl] 27
  have hbA : Below w1.heap.size w1 (w1.alloc (.cells #[.slice aa 1 ca, .slice al 3 cl] 27)) := (Below.refl _ _).alloc (Nat.le_refl _) _
  obtain ⟨W2, hW2⟩ : ∃ W2, w1.alloc (.cells #[.slice aa 1 ca, .slice al 3 cl] 27) = W2 := ⟨_, rfl⟩
  rw [hW2] at ho1 hbA
  have HW := Lib.hid hW2
  have HO := Lib.hid ho1
  have HC := Lib.hid (hc1.old hbA)
  have HB := Lib.hid (hb1.trans (hbA.mono hb1.size))
  clear ho1 hbA hc1 hb1 HP hW2
  have d0 := HO.out.at 0 _ rfl
  have d1 := HO.out.at 1 _ rfl
  go_upto_region 2 with (fail)
  rw [HW.out]
  clear HW HL
  go_wp2_with fail
  refine (HR1.out _ _ _ HC.out).mono ?_
  rintro e w3 ⟨r1, s1, rfl, hn1, hb3⟩
  replace HO := Lib.hid (HO.out.old hb3)
  replace HC := Lib.hid (HC.out.old hb3)
  replace HB := Lib.hid (HB.out.trans (hb3.mono HB.out.size))
  clear hb3
  have HN1 := Lib.hid (RwOwn.nilv hn1 (by decide) intCells_len)
  clear hn1 d0 d1
  have d0 := HO.out.at 0 _ rfl
  have d1 := HO.out.at 1 _ rfl
  have dl := HO.out.lt
  go_upto_region 3 with (fail)
  clear d0 d1 dl
  have hbX1 : Below w3.heap.size w3 (w3.alloc (.cells #[.int .i64 1, .int .i64 7, .slice r1 0 s1, .int .i64 3] 31)) := (Below.refl _ _).alloc (Nat.le_refl _) _
  have hoX := OwnAt.new w3 [.int .i64 1, .int .i64 7, .slice r1 0 s1, .int .i64 3] 31
  obtain ⟨W4, hWX⟩ : ∃ W4, w3.alloc (.cells #[.int .i64 1, .int .i64 7, .slice r1 0 s1, .int .i64 3] 31) = W4 := ⟨_, rfl⟩
  rw [hWX] at hbX1 hoX ⊢
  replace HO := Lib.hid (HO.out.old hbX1)
  replace HC := Lib.hid (HC.out.old hbX1)
  replace HB := Lib.hid (HB.out.trans (hbX1.mono HB.out.size))
  replace HN1 := Lib.hid (HN1.out.old hbX1)
  have HO4 := Lib.hid hoX
  clear hbX1 hWX hoX
  have d0 := HO.out.at 0 _ rfl
  have d1 := HO.out.at 1 _ rfl
  go_wp2_with fail
  refine (HR2.out _ _ _ HC.out).mono ?_
  rintro e w5 ⟨r2, s2, rfl, hn2, hb5⟩
  replace HO := Lib.hid (HO.out.old hb5)
  replace HC := Lib.hid (HC.out.old hb5)
  replace HB := Lib.hid (HB.out.trans (hb5.mono HB.out.size))
  replace HN1 := Lib.hid (HN1.out.old hb5)
  replace HO4 := Lib.hid (HO4.out.old hb5)
  clear hb5
  have HN2 := Lib.hid (RwOwn.nilv hn2 (by decide) intCells_len)
  clear hn2 d0 d1
  go_upto_region 4 with (fail)
  have hbX2 : Below w5.heap.size w5 (w5.alloc (.cells #[.int .i64 0, .int .i64 0, .slice r2 0 s2, .int .i64 2] 31)) := (Below.refl _ _).alloc (Nat.le_refl _) _
  have hoX := OwnAt.new w5 [.int .i64 0, .int .i64 0, .slice r2 0 s2, .int .i64 2] 31
  obtain ⟨W6, hWX⟩ : ∃ W6, w5.alloc (.cells #[.int .i64 0, .int .i64 0, .slice r2 0 s2, .int .i64 2] 31) = W6 := ⟨_, rfl⟩
  rw [hWX] at hbX2 hoX ⊢
  replace HO := Lib.hid (HO.out.old hbX2)
  replace HC := Lib.hid (HC.out.old hbX2)
  replace HB := Lib.hid (HB.out.trans (hbX2.mono HB.out.size))
  replace HN1 := Lib.hid (HN1.out.old hbX2)
  replace HO4 := Lib.hid (HO4.out.old hbX2)
  replace HN2 := Lib.hid (HN2.out.old hbX2)
  have HO6 := Lib.hid hoX
  clear hbX2 hWX hoX
  have d0 := HO4.out.at 0 _ rfl
  have d1 := HO4.out.at 1 _ rfl
  have d2 := HO4.out.at 2 _ rfl
  have d3 := HO4.out.at 3 _ rfl
  go_wp2_with fail
  refine (HS1.out _ _ _ HN1.out (RwAt.nil _ _ _)).mono ?_
  rintro e w7 ⟨rfl, hb7⟩
  replace HO := Lib.hid (HO.out.old hb7)
  replace HC := Lib.hid (HC.out.old hb7)
  replace HB := Lib.hid (HB.out.trans (hb7.mono HB.out.size))
  clear HN1
  clear HO4
  replace HN2 := Lib.hid (HN2.out.old hb7)
  replace HO6 := Lib.hid (HO6.out.old hb7)
  clear hb7
  clear d0 d1 d2 d3
  have d0 := HO6.out.at 0 _ rfl
  have d1 := HO6.out.at 1 _ rfl
  have d2 := HO6.out.at 2 _ rfl
  have d3 := HO6.out.at 3 _ rfl
  go_wp2_with fail
  refine (HS2.out _ _ _ HN2.out (RwAt.nil _ _ _)).mono ?_
  rintro e w8 ⟨rfl, hb8⟩
  replace HO := Lib.hid (HO.out.old hb8)
  replace HC := Lib.hid (HC.out.old hb8)
  replace HB := Lib.hid (HB.out.trans (hb8.mono HB.out.size))
  clear HN2
  clear HO6
  clear hb8
  clear d0 d1 d2 d3
  have d0 := HO.out.at 0 _ rfl
  have d1 := HO.out.at 1 _ rfl
  go_wp2_with fail
  refine (HA1.out _ _ _ HC.out).mono ?_
  rintro e w9 ⟨rfl, hb9⟩
  replace HO := Lib.hid (HO.out.old hb9)
  replace HC := Lib.hid (HC.out.old hb9)
  replace HB := Lib.hid (HB.out.trans (hb9.mono HB.out.size))
  clear hb9
  clear d0 d1
  have d0 := HO.out.at 0 _ rfl
  have d1 := HO.out.at 1 _ rfl
  go_wp2_with fail
  refine (HA2.out _ _ _ HC.out).mono ?_
  rintro e w10 ⟨rfl, hb10⟩
  replace HO := Lib.hid (HO.out.old hb10)
  replace HC := Lib.hid (HC.out.old hb10)
  replace HB := Lib.hid (HB.out.trans (hb10.mono HB.out.size))
  clear hb10
  clear d0 d1
  have d0 := HO.out.at 0 _ rfl
  have d1 := HO.out.at 1 _ rfl
  go_wp2_with fail
  refine (HW1.out _ _ _ HC.out).mono ?_
  rintro e w11 ⟨rfl, hb11⟩
  replace HO := Lib.hid (HO.out.old hb11)
  replace HC := Lib.hid (HC.out.old hb11)
  replace HB := Lib.hid (HB.out.trans (hb11.mono HB.out.size))
  clear hb11
  clear d0 d1
  have d0 := HO.out.at 0 _ rfl
  have d1 := HO.out.at 1 _ rfl
  go_wp2_with fail
  refine (HW2.out _ _ _ HC.out).mono ?_
  rintro e w12 ⟨rfl, hb12⟩
  replace HO := Lib.hid (HO.out.old hb12)
  replace HC := Lib.hid (HC.out.old hb12)
  replace HB := Lib.hid (HB.out.trans (hb12.mono HB.out.size))
  clear hb12
  clear d0 d1
  have d0 := HO.out.at 0 _ rfl
  have d1 := HO.out.at 1 _ rfl
  go_wp2_with fail
  refine (HW3.out _ _ _ HC.out).mono ?_
  rintro e w13 ⟨rfl, hb13⟩
  replace HO := Lib.hid (HO.out.old hb13)
  replace HC := Lib.hid (HC.out.old hb13)
  replace HB := Lib.hid (HB.out.trans (hb13.mono HB.out.size))
  clear hb13
  clear d0 d1
  go_wp2_with fail
  go_ret
  exact ⟨rfl, HB.out⟩
end Go.Proofs.YtpgjfpphigeliaaGreatDoor
