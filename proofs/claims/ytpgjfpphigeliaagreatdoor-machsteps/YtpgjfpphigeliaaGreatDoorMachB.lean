/-
  plain: what an instruction that goes nowhere makes of its register. Conditions: the machine lies in memory, the instruction is one of its own.
  end: the run ends. Condition: the machine lies in memory.
  memory: loads, or stores, a word. Conditions: the machine lies in memory, the instruction is one of its own.
  goes, back: does a branch go, where a return goes. Conditions: the machine lies in memory, the instruction is one of its own.
  ecall: does what the machine is asked. Condition: the machine lies in memory.
-/
import Derived.Test.YtpgjfpphigeliaaGreatDoorMachA
import Derived.BigQuiet
import Derived.Great.Walk
import Derived.BigRegion
set_option linter.unusedVariables false
set_option linter.unusedSimpArgs false
namespace Go.Proofs.YtpgjfpphigeliaaGreatDoor
open Go.RowKit
set_option maxHeartbeats 4000000
set_option maxRecDepth 100000

/-- The registers and the instruction's own cells, in whatever later world. -/
structure PlIn (w : World) (M I : Nat) (op d : Int) (an bn : Nat) (n : Int) (nm : Bs) (va vb : Int) (Bs' : Nat) : Prop where
  ra : w.cell? ⟨M, 4 + an, none⟩ = some (.int .i64 va)
  rb : w.cell? ⟨M, 4 + bn, none⟩ = some (.int .i64 vb)
  rs : w.cell? ⟨M, 38, none⟩ = some (.map (some Bs'))
  g0 : w.cell? ⟨I, 0, none⟩ = some (.int .i64 op)
  g1 : w.cell? ⟨I, 1, none⟩ = some (.int .i64 d)
  g2 : w.cell? ⟨I, 2, none⟩ = some (.int .i64 an)
  g3 : w.cell? ⟨I, 3, none⟩ = some (.int .i64 bn)
  g4 : w.cell? ⟨I, 4, none⟩ = some (.int .i64 n)
  g5 : w.cell? ⟨I, 5, none⟩ = some (.string (strOf nm))
  ml : M < w.heap.size
  il : I < w.heap.size
theorem PlIn.mk' {K : MKon} {k : Nat} {s : MS} {w : World} (h : MAt K k s w) {op d : Int} {an bn : Nat} {n : Int} {nm : Bs} (ha : an < 32) (hb : bn < 32) :
    PlIn (w.alloc (.cells (insCells ⟨op, d, an, bn, n, nm⟩).toArray 39)) K.M w.heap.size op d an bn n nm (s.x an) (s.x bn) K.Bs := by
  obtain ⟨vin, vout, h1, _, _⟩ := h.m
  have hal : Below w.heap.size w (w.alloc (.cells (insCells ⟨op, d, an, bn, n, nm⟩).toArray 39)) := (Below.refl _ _).alloc (Nat.le_refl _) _
  have hm := h1.old hal
  have ho := OwnAt.new w (insCells ⟨op, d, an, bn, n, nm⟩) 39
  exact ⟨hm.at (4 + an) _ (mc_reg _ _ _ _ _ _ _ _ _ _ _ _ _ _ an ha), hm.at (4 + bn) _ (mc_reg _ _ _ _ _ _ _ _ _ _ _ _ _ _ bn hb), hm.at 38 _ (mc_tail _ _ _ _ _ _ _ _ _ _ _ _ _ _ 2), ho.at 0 _ rfl, ho.at 1 _ rfl, ho.at 2 _ rfl, ho.at 3 _ rfl, ho.at 4 _ rfl, ho.at 5 _ rfl, hm.lt, ho.lt⟩
theorem PlIn.old {w w' : World} {M I : Nat} {op d : Int} {an bn : Nat} {n : Int} {nm : Bs} {va vb : Int} {Bs' : Nat} (h : PlIn w M I op d an bn n nm va vb Bs') (hb : Below w.heap.size w w') : PlIn w' M I op d an bn n nm va vb Bs' :=
  ⟨below_keeps hb h.ra, below_keeps hb h.rb, below_keeps hb h.rs, below_keeps hb h.g0, below_keeps hb h.g1, below_keeps hb h.g2, below_keeps hb h.g3, below_keeps hb h.g4, below_keeps hb h.g5, Nat.lt_of_lt_of_le h.ml hb.size, Nat.lt_of_lt_of_le h.il hb.size⟩
theorem plain_13 (K : MKon) (hf : MFix K) (k : Nat) (s : MS) (d : Int) (an bn : Nat) (n : Int) (nm : Bs) (ha : an < 32) (hb : bn < 32) (hn : I64 n) (hnm : nm.length ≤ 40) (hok : MOk s) (w : World) (h : MAt K k s w) :
    Calls Tryz.prog 42 #[.pointer (some ⟨K.M, 0, none⟩), insV ⟨13, d, an, bn, n, nm⟩] w fun e w' => e = .returned (.tuple #[.int .i64 (flagZ (s.x an == 0)), .bool true]) ∧ Below w.heap.size w w' := by
  have HB : Hid (Below w.heap.size w (w.alloc (.cells (insCells ⟨13, d, an, bn, n, nm⟩).toArray 39))) := Lib.hid ((Below.refl _ _).alloc (Nat.le_refl _) _)
  have hp := PlIn.mk' h (op := 13) (d := d) (n := n) (nm := nm) ha hb
  have xa := hok.x an
  have xb := hok.x bn
  obtain ⟨va, hva⟩ : ∃ va, s.x an = va := ⟨_, rfl⟩
  obtain ⟨vb, hvb⟩ : ∃ vb, s.x bn = vb := ⟨_, rfl⟩
  rw [hva] at hp xa
  rw [hvb] at hp xb
  have HVA := Lib.hid hva
  have HVB := Lib.hid hvb
  clear hva hvb
  have HP := Lib.hid hp
  clear hp
  have ra := HP.out.ra
  have g0 := HP.out.g0
  have g2 := HP.out.g2
  have haI : (an : Int) < 32 := by omega
  have hbI : (bn : Int) < 32 := by omega
  obtain ⟨xa1, xa2⟩ := xa
  obtain ⟨xb1, xb2⟩ := xb
  obtain ⟨hn1, hn2⟩ := hn
  unfold insV
  dsimp only
  go_enter Tryz.func42, Tryz.ntmps42
  go_upto_region 1 with (fail)
  obtain ⟨W1, hW1⟩ : ∃ W1, (w.alloc (.cells (insCells ⟨13, d, an, bn, n, nm⟩).toArray 39)) = W1 := ⟨_, rfl⟩
  have hW1' : (w.alloc (.cells #[.int .i64 13, .int .i64 d, .int .i64 an, .int .i64 bn, .int .i64 n, .string (strOf nm)] 39)) = W1 := hW1
  obtain ⟨I, hI⟩ : ∃ I, w.heap.size = I := ⟨_, rfl⟩
  rw [hW1] at HP HB ra g0 g2
  rw [hI] at HP g0 g2
  try rw [hW1]
  try rw [hW1']
  try rw [hI]
  clear hW1 hW1' hI
  have HBX := HB
  go_quiet (fail)
  go_wp2_with fail
  refine (mflag_any _ _).mono ?_
  rintro e w1 ⟨rfl, rfl⟩
  go_wp2_with fail
  go_ret2
  exact ⟨by first | rfl | (rw [HVA.out]; done) | (rw [HVA.out]; rfl) | (rw [HVA.out, HVB.out]; done) | (rw [HVA.out, HVB.out]; rfl), by first | exact below_drewN HBX.out _ | exact below_drewN (below_drewN HBX.out _) _⟩
theorem plain_14 (K : MKon) (hf : MFix K) (k : Nat) (s : MS) (d : Int) (an bn : Nat) (n : Int) (nm : Bs) (ha : an < 32) (hb : bn < 32) (hn : I64 n) (hnm : nm.length ≤ 40) (hok : MOk s) (w : World) (h : MAt K k s w) :
    Calls Tryz.prog 42 #[.pointer (some ⟨K.M, 0, none⟩), insV ⟨14, d, an, bn, n, nm⟩] w fun e w' => e = .returned (.tuple #[.int .i64 (flagZ (s.x an != 0)), .bool true]) ∧ Below w.heap.size w w' := by
  have HB : Hid (Below w.heap.size w (w.alloc (.cells (insCells ⟨14, d, an, bn, n, nm⟩).toArray 39))) := Lib.hid ((Below.refl _ _).alloc (Nat.le_refl _) _)
  have hp := PlIn.mk' h (op := 14) (d := d) (n := n) (nm := nm) ha hb
  have xa := hok.x an
  have xb := hok.x bn
  obtain ⟨va, hva⟩ : ∃ va, s.x an = va := ⟨_, rfl⟩
  obtain ⟨vb, hvb⟩ : ∃ vb, s.x bn = vb := ⟨_, rfl⟩
  rw [hva] at hp xa
  rw [hvb] at hp xb
  have HVA := Lib.hid hva
  have HVB := Lib.hid hvb
  clear hva hvb
  have HP := Lib.hid hp
  clear hp
  have ra := HP.out.ra
  have g0 := HP.out.g0
  have g2 := HP.out.g2
  have haI : (an : Int) < 32 := by omega
  have hbI : (bn : Int) < 32 := by omega
  obtain ⟨xa1, xa2⟩ := xa
  obtain ⟨xb1, xb2⟩ := xb
  obtain ⟨hn1, hn2⟩ := hn
  unfold insV
  dsimp only
  go_enter Tryz.func42, Tryz.ntmps42
  go_upto_region 1 with (fail)
  obtain ⟨W1, hW1⟩ : ∃ W1, (w.alloc (.cells (insCells ⟨14, d, an, bn, n, nm⟩).toArray 39)) = W1 := ⟨_, rfl⟩
  have hW1' : (w.alloc (.cells #[.int .i64 14, .int .i64 d, .int .i64 an, .int .i64 bn, .int .i64 n, .string (strOf nm)] 39)) = W1 := hW1
  obtain ⟨I, hI⟩ : ∃ I, w.heap.size = I := ⟨_, rfl⟩
  rw [hW1] at HP HB ra g0 g2
  rw [hI] at HP g0 g2
  try rw [hW1]
  try rw [hW1']
  try rw [hI]
  clear hW1 hW1' hI
  have HBX := HB
  go_quiet (fail)
  go_wp2_with fail
  refine (mflag_any _ _).mono ?_
  rintro e w1 ⟨rfl, rfl⟩
  go_wp2_with fail
  go_ret2
  exact ⟨by first | rfl | (rw [HVA.out]; done) | (rw [HVA.out]; rfl) | (rw [HVA.out, HVB.out]; done) | (rw [HVA.out, HVB.out]; rfl), by first | exact below_drewN HBX.out _ | exact below_drewN (below_drewN HBX.out _) _⟩
theorem plain_15 (K : MKon) (hf : MFix K) (k : Nat) (s : MS) (d : Int) (an bn : Nat) (n : Int) (nm : Bs) (ha : an < 32) (hb : bn < 32) (hn : I64 n) (hnm : nm.length ≤ 40) (hok : MOk s) (w : World) (h : MAt K k s w) :
    Calls Tryz.prog 42 #[.pointer (some ⟨K.M, 0, none⟩), insV ⟨15, d, an, bn, n, nm⟩] w fun e w' => e = .returned (.tuple #[.int .i64 (s.x an), .bool true]) ∧ Below w.heap.size w w' := by
  have HB : Hid (Below w.heap.size w (w.alloc (.cells (insCells ⟨15, d, an, bn, n, nm⟩).toArray 39))) := Lib.hid ((Below.refl _ _).alloc (Nat.le_refl _) _)
  have hp := PlIn.mk' h (op := 15) (d := d) (n := n) (nm := nm) ha hb
  have xa := hok.x an
  have xb := hok.x bn
  obtain ⟨va, hva⟩ : ∃ va, s.x an = va := ⟨_, rfl⟩
  obtain ⟨vb, hvb⟩ : ∃ vb, s.x bn = vb := ⟨_, rfl⟩
  rw [hva] at hp xa
  rw [hvb] at hp xb
  have HVA := Lib.hid hva
  have HVB := Lib.hid hvb
  clear hva hvb
  have HP := Lib.hid hp
  clear hp
  have ra := HP.out.ra
  have g0 := HP.out.g0
  have g2 := HP.out.g2
  have haI : (an : Int) < 32 := by omega
  have hbI : (bn : Int) < 32 := by omega
  obtain ⟨xa1, xa2⟩ := xa
  obtain ⟨xb1, xb2⟩ := xb
  obtain ⟨hn1, hn2⟩ := hn
  unfold insV
  dsimp only
  go_enter Tryz.func42, Tryz.ntmps42
  go_upto_region 1 with (fail)
  obtain ⟨W1, hW1⟩ : ∃ W1, (w.alloc (.cells (insCells ⟨15, d, an, bn, n, nm⟩).toArray 39)) = W1 := ⟨_, rfl⟩
  have hW1' : (w.alloc (.cells #[.int .i64 15, .int .i64 d, .int .i64 an, .int .i64 bn, .int .i64 n, .string (strOf nm)] 39)) = W1 := hW1
  obtain ⟨I, hI⟩ : ∃ I, w.heap.size = I := ⟨_, rfl⟩
  rw [hW1] at HP HB ra g0 g2
  rw [hI] at HP g0 g2
  try rw [hW1]
  try rw [hW1']
  try rw [hI]
  clear hW1 hW1' hI
  have HBX := HB
  go_quiet (fail)
  go_wp2_with fail
  go_ret2
  exact ⟨by first | rfl | (rw [HVA.out]; done) | (rw [HVA.out]; rfl) | (rw [HVA.out, HVB.out]; done) | (rw [HVA.out, HVB.out]; rfl), by first | exact below_drewN HBX.out _ | exact below_drewN (below_drewN HBX.out _) _⟩
theorem plain_16 (K : MKon) (hf : MFix K) (k : Nat) (s : MS) (d : Int) (an bn : Nat) (n : Int) (nm : Bs) (ha : an < 32) (hb : bn < 32) (hn : I64 n) (hnm : nm.length ≤ 40) (hok : MOk s) (w : World) (h : MAt K k s w) :
    Calls Tryz.prog 42 #[.pointer (some ⟨K.M, 0, none⟩), insV ⟨16, d, an, bn, n, nm⟩] w fun e w' => e = .returned (.tuple #[.int .i64 (n), .bool true]) ∧ Below w.heap.size w w' := by
  have HB : Hid (Below w.heap.size w (w.alloc (.cells (insCells ⟨16, d, an, bn, n, nm⟩).toArray 39))) := Lib.hid ((Below.refl _ _).alloc (Nat.le_refl _) _)
  have hp := PlIn.mk' h (op := 16) (d := d) (n := n) (nm := nm) ha hb
  have xa := hok.x an
  have xb := hok.x bn
  obtain ⟨va, hva⟩ : ∃ va, s.x an = va := ⟨_, rfl⟩
  obtain ⟨vb, hvb⟩ : ∃ vb, s.x bn = vb := ⟨_, rfl⟩
  rw [hva] at hp xa
  rw [hvb] at hp xb
  have HVA := Lib.hid hva
  have HVB := Lib.hid hvb
  clear hva hvb
  have HP := Lib.hid hp
  clear hp
  have ra := HP.out.ra
  have g0 := HP.out.g0
  have g2 := HP.out.g2
  have haI : (an : Int) < 32 := by omega
  have hbI : (bn : Int) < 32 := by omega
  obtain ⟨xa1, xa2⟩ := xa
  obtain ⟨xb1, xb2⟩ := xb
  obtain ⟨hn1, hn2⟩ := hn
  unfold insV
  dsimp only
  go_enter Tryz.func42, Tryz.ntmps42
  go_upto_region 1 with (fail)
  obtain ⟨W1, hW1⟩ : ∃ W1, (w.alloc (.cells (insCells ⟨16, d, an, bn, n, nm⟩).toArray 39)) = W1 := ⟨_, rfl⟩
  have hW1' : (w.alloc (.cells #[.int .i64 16, .int .i64 d, .int .i64 an, .int .i64 bn, .int .i64 n, .string (strOf nm)] 39)) = W1 := hW1
  obtain ⟨I, hI⟩ : ∃ I, w.heap.size = I := ⟨_, rfl⟩
  rw [hW1] at HP HB ra g0 g2
  rw [hI] at HP g0 g2
  try rw [hW1]
  try rw [hW1']
  try rw [hI]
  clear hW1 hW1' hI
  have HBX := HB
  have g4 := HP.out.g4
  go_quiet (fail)
  go_wp2_with fail
  go_ret2
  exact ⟨by first | rfl | (rw [HVA.out]; done) | (rw [HVA.out]; rfl) | (rw [HVA.out, HVB.out]; done) | (rw [HVA.out, HVB.out]; rfl), by first | exact below_drewN HBX.out _ | exact below_drewN (below_drewN HBX.out _) _⟩
theorem plain_18 (K : MKon) (hf : MFix K) (k : Nat) (s : MS) (d : Int) (an bn : Nat) (n : Int) (nm : Bs) (ha : an < 32) (hb : bn < 32) (hn : I64 n) (hnm : nm.length ≤ 40) (hok : MOk s) (w : World) (h : MAt K k s w) :
    Calls Tryz.prog 42 #[.pointer (some ⟨K.M, 0, none⟩), insV ⟨18, d, an, bn, n, nm⟩] w fun e w' => e = .returned (.tuple #[.int .i64 (RowKit.wrap64 (s.x an + n)), .bool true]) ∧ Below w.heap.size w w' := by
  have HB : Hid (Below w.heap.size w (w.alloc (.cells (insCells ⟨18, d, an, bn, n, nm⟩).toArray 39))) := Lib.hid ((Below.refl _ _).alloc (Nat.le_refl _) _)
  have hp := PlIn.mk' h (op := 18) (d := d) (n := n) (nm := nm) ha hb
  have xa := hok.x an
  have xb := hok.x bn
  obtain ⟨va, hva⟩ : ∃ va, s.x an = va := ⟨_, rfl⟩
  obtain ⟨vb, hvb⟩ : ∃ vb, s.x bn = vb := ⟨_, rfl⟩
  rw [hva] at hp xa
  rw [hvb] at hp xb
  have HVA := Lib.hid hva
  have HVB := Lib.hid hvb
  clear hva hvb
  have HP := Lib.hid hp
  clear hp
  have ra := HP.out.ra
  have g0 := HP.out.g0
  have g2 := HP.out.g2
  have haI : (an : Int) < 32 := by omega
  have hbI : (bn : Int) < 32 := by omega
  obtain ⟨xa1, xa2⟩ := xa
  obtain ⟨xb1, xb2⟩ := xb
  obtain ⟨hn1, hn2⟩ := hn
  unfold insV
  dsimp only
  go_enter Tryz.func42, Tryz.ntmps42
  go_upto_region 1 with (fail)
  obtain ⟨W1, hW1⟩ : ∃ W1, (w.alloc (.cells (insCells ⟨18, d, an, bn, n, nm⟩).toArray 39)) = W1 := ⟨_, rfl⟩
  have hW1' : (w.alloc (.cells #[.int .i64 18, .int .i64 d, .int .i64 an, .int .i64 bn, .int .i64 n, .string (strOf nm)] 39)) = W1 := hW1
  obtain ⟨I, hI⟩ : ∃ I, w.heap.size = I := ⟨_, rfl⟩
  rw [hW1] at HP HB ra g0 g2
  rw [hI] at HP g0 g2
  try rw [hW1]
  try rw [hW1']
  try rw [hI]
  clear hW1 hW1' hI
  have HBX := HB
  have g4 := HP.out.g4
  go_quiet (fail)
  go_wp2_with fail
  go_ret2
  exact ⟨by first | rfl | (rw [HVA.out]; done) | (rw [HVA.out]; rfl) | (rw [HVA.out, HVB.out]; done) | (rw [HVA.out, HVB.out]; rfl), by first | exact below_drewN HBX.out _ | exact below_drewN (below_drewN HBX.out _) _⟩
theorem plain_12 (K : MKon) (hf : MFix K) (k : Nat) (s : MS) (op d : Int) (an bn : Nat) (n : Int) (nm : Bs) (ha : an < 32) (hb : bn < 32) (hn : I64 n) (hnm : nm.length ≤ 40) (hok : MOk s) (w : World) (h : MAt K k s w) (hop : op ≤ 12) :
    Calls Tryz.prog 42 #[.pointer (some ⟨K.M, 0, none⟩), insV ⟨op, d, an, bn, n, nm⟩] w fun e w' => e = .returned (.tuple #[.int .i64 (sumZ op (s.x an) (s.x bn)), .bool true]) ∧ Below w.heap.size w w' := by
  have HB : Hid (Below w.heap.size w (w.alloc (.cells (insCells ⟨op, d, an, bn, n, nm⟩).toArray 39))) := Lib.hid ((Below.refl _ _).alloc (Nat.le_refl _) _)
  have hp := PlIn.mk' h (op := op) (d := d) (n := n) (nm := nm) ha hb
  have xa := hok.x an
  have xb := hok.x bn
  obtain ⟨va, hva⟩ : ∃ va, s.x an = va := ⟨_, rfl⟩
  obtain ⟨vb, hvb⟩ : ∃ vb, s.x bn = vb := ⟨_, rfl⟩
  rw [hva] at hp xa
  rw [hvb] at hp xb
  have HVA := Lib.hid hva
  have HVB := Lib.hid hvb
  clear hva hvb
  have HP := Lib.hid hp
  clear hp
  have ra := HP.out.ra
  have g0 := HP.out.g0
  have g2 := HP.out.g2
  have haI : (an : Int) < 32 := by omega
  have hbI : (bn : Int) < 32 := by omega
  obtain ⟨xa1, xa2⟩ := xa
  obtain ⟨xb1, xb2⟩ := xb
  obtain ⟨hn1, hn2⟩ := hn
  unfold insV
  dsimp only
  go_enter Tryz.func42, Tryz.ntmps42
  go_upto_region 1 with (fail)
  obtain ⟨W1, hW1⟩ : ∃ W1, (w.alloc (.cells (insCells ⟨op, d, an, bn, n, nm⟩).toArray 39)) = W1 := ⟨_, rfl⟩
  have hW1' : (w.alloc (.cells #[.int .i64 op, .int .i64 d, .int .i64 an, .int .i64 bn, .int .i64 n, .string (strOf nm)] 39)) = W1 := hW1
  obtain ⟨I, hI⟩ : ∃ I, w.heap.size = I := ⟨_, rfl⟩
  rw [hW1] at HP HB ra g0 g2
  rw [hI] at HP g0 g2
  try rw [hW1]
  try rw [hW1']
  try rw [hI]
  clear hW1 hW1' hI
  have HBX := HB
  have HSUM := Lib.hid (fun w => sum_any op va vb ⟨xa1, xa2⟩ ⟨xb1, xb2⟩ w)
  have o13 : (op == 13) = false := beq_eq_false_iff_ne.2 (by omega)
  have o14 : (op == 14) = false := beq_eq_false_iff_ne.2 (by omega)
  have o15 : (op == 15) = false := beq_eq_false_iff_ne.2 (by omega)
  have o16 : (op == 16) = false := beq_eq_false_iff_ne.2 (by omega)
  have o17 : (op == 17) = false := beq_eq_false_iff_ne.2 (by omega)
  have o18 : (op == 18) = false := beq_eq_false_iff_ne.2 (by omega)
  go_quiet (fail)
  go_wp2_with fail
  have HP2 := Lib.hid (HP.out.old (below_drewN (Below.refl _ _) nq))
  have HBX := Lib.hid (below_drewN HBX.out nq)
  generalize W1.drewN nq = W2 at *
  have g0 := HP2.out.g0
  have g3 := HP2.out.g3
  have rb := HP2.out.rb
  go_quiet ((go_at_call 75; exact Calls.quiet_of_same ((HSUM.out _).mono (fun e w' h => ⟨h.1, h.2.symm⟩))))
  go_wp2_with fail
  go_ret2
  exact ⟨by first | rfl | (rw [HVA.out]; done) | (rw [HVA.out]; rfl) | (rw [HVA.out, HVB.out]; done) | (rw [HVA.out, HVB.out]; rfl), by first | exact below_drewN HBX.out _ | exact below_drewN (below_drewN HBX.out _) _⟩
theorem plain_17 (K : MKon) (hf : MFix K) (k : Nat) (s : MS) (d : Int) (an bn : Nat) (n : Int) (nm : Bs) (ha : an < 32) (hb : bn < 32) (hn : I64 n) (hnm : nm.length ≤ 40) (hok : MOk s) (w : World) (h : MAt K k s w) :
    Calls Tryz.prog 42 #[.pointer (some ⟨K.M, 0, none⟩), insV ⟨17, d, an, bn, n, nm⟩] w fun e w' => e = .returned (.tuple #[.int .i64 (K.C.starts nm), .bool true]) ∧ Below w.heap.size w w' := by
  have HFR0 := h.fr.old ((Below.refl _ _).alloc (Nat.le_refl _) (.cells (insCells ⟨17, d, an, bn, n, nm⟩).toArray 39))
  have HFR := Lib.hid HFR0
  clear HFR0
  have HB : Hid (Below w.heap.size w (w.alloc (.cells (insCells ⟨17, d, an, bn, n, nm⟩).toArray 39))) := Lib.hid ((Below.refl _ _).alloc (Nat.le_refl _) _)
  have hp := PlIn.mk' h (op := 17) (d := d) (n := n) (nm := nm) ha hb
  have xa := hok.x an
  have xb := hok.x bn
  obtain ⟨va, hva⟩ : ∃ va, s.x an = va := ⟨_, rfl⟩
  obtain ⟨vb, hvb⟩ : ∃ vb, s.x bn = vb := ⟨_, rfl⟩
  rw [hva] at hp xa
  rw [hvb] at hp xb
  have HVA := Lib.hid hva
  have HVB := Lib.hid hvb
  clear hva hvb
  have HP := Lib.hid hp
  clear hp
  have ra := HP.out.ra
  have g0 := HP.out.g0
  have g2 := HP.out.g2
  have haI : (an : Int) < 32 := by omega
  have hbI : (bn : Int) < 32 := by omega
  obtain ⟨xa1, xa2⟩ := xa
  obtain ⟨xb1, xb2⟩ := xb
  obtain ⟨hn1, hn2⟩ := hn
  unfold insV
  dsimp only
  go_enter Tryz.func42, Tryz.ntmps42
  go_upto_region 1 with (fail)
  obtain ⟨W1, hW1⟩ : ∃ W1, (w.alloc (.cells (insCells ⟨17, d, an, bn, n, nm⟩).toArray 39)) = W1 := ⟨_, rfl⟩
  have hW1' : (w.alloc (.cells #[.int .i64 17, .int .i64 d, .int .i64 an, .int .i64 bn, .int .i64 n, .string (strOf nm)] 39)) = W1 := hW1
  obtain ⟨I, hI⟩ : ∃ I, w.heap.size = I := ⟨_, rfl⟩
  rw [hW1] at HP HB ra g0 g2 HFR
  rw [hI] at HP g0 g2
  try rw [hW1]
  try rw [hW1']
  try rw [hI]
  clear hW1 hW1' hI
  have HBX := HB
  go_quiet (fail)
  go_wp2_with fail
  have HP2 := Lib.hid (HP.out.old (below_drewN (Below.refl _ _) nq))
  have HBX := Lib.hid (below_drewN HBX.out nq)
  have hfr2 : MFr K (W1.drewN nq) := HFR.out.old (below_drewN (Below.refl _ _) nq)
  generalize W1.drewN nq = W2 at *
  have hlk : ∀ q, (Instr.lookup 64 (.map (some K.Bs)) (.string (strOf nm)) false).run Tryz.prog (W2.drewN q) = .ok (.int .i64 (K.C.starts nm)) (W2.drewN q) := fun q => by
    obtain ⟨f, m, hm, he⟩ := hf.starts
    have hm2 : MapIs (W2.drewN q) K.Bs m f := (hm.same (hfr2.block K.Bs hm.lt (fun e => hf.ms e.symm) (fun e => hf.ws e.symm))).old (below_drewN (Below.refl _ _) q)
    have := hm2.look nm (by omega)
    rw [he nm] at this
    exact this
  clear hfr2
  have g5 := HP2.out.g5
  have rs := HP2.out.rs
  have hml := HP2.out.ml
  have hil := HP2.out.il
  go_quiet (fail)
  go_wp2_with fail
  go_ret2
  exact ⟨by first | rfl | (rw [HVA.out]; done) | (rw [HVA.out]; rfl) | (rw [HVA.out, HVB.out]; done) | (rw [HVA.out, HVB.out]; rfl), by first | exact below_drewN HBX.out _ | exact below_drewN (below_drewN HBX.out _) _⟩
theorem plain_none (K : MKon) (hf : MFix K) (k : Nat) (s : MS) (op d : Int) (an bn : Nat) (n : Int) (nm : Bs) (ha : an < 32) (hb : bn < 32) (hn : I64 n) (hnm : nm.length ≤ 40) (hok : MOk s) (w : World) (h : MAt K k s w) (hop : 18 < op) :
    Calls Tryz.prog 42 #[.pointer (some ⟨K.M, 0, none⟩), insV ⟨op, d, an, bn, n, nm⟩] w fun e w' => e = .returned (.tuple #[.int .i64 0, .bool false]) ∧ Below w.heap.size w w' := by
  have HB : Hid (Below w.heap.size w (w.alloc (.cells (insCells ⟨op, d, an, bn, n, nm⟩).toArray 39))) := Lib.hid ((Below.refl _ _).alloc (Nat.le_refl _) _)
  have hp := PlIn.mk' h (op := op) (d := d) (n := n) (nm := nm) ha hb
  have xa := hok.x an
  have xb := hok.x bn
  obtain ⟨va, hva⟩ : ∃ va, s.x an = va := ⟨_, rfl⟩
  obtain ⟨vb, hvb⟩ : ∃ vb, s.x bn = vb := ⟨_, rfl⟩
  rw [hva] at hp xa
  rw [hvb] at hp xb
  have HVA := Lib.hid hva
  have HVB := Lib.hid hvb
  clear hva hvb
  have HP := Lib.hid hp
  clear hp
  have ra := HP.out.ra
  have g0 := HP.out.g0
  have g2 := HP.out.g2
  have haI : (an : Int) < 32 := by omega
  have hbI : (bn : Int) < 32 := by omega
  obtain ⟨xa1, xa2⟩ := xa
  obtain ⟨xb1, xb2⟩ := xb
  obtain ⟨hn1, hn2⟩ := hn
  unfold insV
  dsimp only
  go_enter Tryz.func42, Tryz.ntmps42
  go_upto_region 1 with (fail)
  obtain ⟨W1, hW1⟩ : ∃ W1, (w.alloc (.cells (insCells ⟨op, d, an, bn, n, nm⟩).toArray 39)) = W1 := ⟨_, rfl⟩
  have hW1' : (w.alloc (.cells #[.int .i64 op, .int .i64 d, .int .i64 an, .int .i64 bn, .int .i64 n, .string (strOf nm)] 39)) = W1 := hW1
  obtain ⟨I, hI⟩ : ∃ I, w.heap.size = I := ⟨_, rfl⟩
  rw [hW1] at HP HB ra g0 g2
  rw [hI] at HP g0 g2
  try rw [hW1]
  try rw [hW1']
  try rw [hI]
  clear hW1 hW1' hI
  have HBX := HB
  have o13 : (op == 13) = false := beq_eq_false_iff_ne.2 (by omega)
  have o14 : (op == 14) = false := beq_eq_false_iff_ne.2 (by omega)
  have o15 : (op == 15) = false := beq_eq_false_iff_ne.2 (by omega)
  have o16 : (op == 16) = false := beq_eq_false_iff_ne.2 (by omega)
  have o17 : (op == 17) = false := beq_eq_false_iff_ne.2 (by omega)
  have o18 : (op == 18) = false := beq_eq_false_iff_ne.2 (by omega)
  have o12 : ¬ op ≤ 12 := by omega
  go_quiet (fail)
  go_wp2_with fail
  go_ret2
  exact ⟨by first | rfl | (rw [HVA.out]; done) | (rw [HVA.out]; rfl) | (rw [HVA.out, HVB.out]; done) | (rw [HVA.out, HVB.out]; rfl), by first | exact below_drewN HBX.out _ | exact below_drewN (below_drewN HBX.out _) _⟩
theorem plain_any (K : MKon) (hf : MFix K) (k : Nat) (s : MS) (i : Ins) (hi : i ∈ K.C.list) (hok : MOk s) (w : World) (h : MAt K k s w) :
    Calls Tryz.prog 42 #[.pointer (some ⟨K.M, 0, none⟩), insV i] w fun e w' => e = .returned (.tuple #[.int .i64 ((plainZ K.C s i).getD 0), .bool (plainZ K.C s i).isSome]) ∧ Below w.heap.size w w' := by
  obtain ⟨⟨hd0, hd1⟩, ⟨ha0, ha1⟩, ⟨hb0, hb1⟩, hn, hnm⟩ := hf.ok.well i hi
  obtain ⟨op, d, a, b, n, nm⟩ := i
  dsimp only at hd0 hd1 ha0 ha1 hb0 hb1 hn hnm
  obtain ⟨an, rfl⟩ : ∃ an : Nat, a = an := ⟨a.toNat, by omega⟩
  obtain ⟨bn, rfl⟩ : ∃ bn : Nat, b = bn := ⟨b.toNat, by omega⟩
  have hra : s.reg (an : Int) = s.x an := rfl
  have hrb : s.reg (bn : Int) = s.x bn := rfl
  unfold plainZ
  dsimp only
  rw [hra, hrb]
  by_cases h13 : op = 13
  · rw [if_pos h13]; subst h13; exact plain_13 K hf k s d an bn n nm (by omega) (by omega) hn hnm hok w h
  rw [if_neg h13]
  by_cases h14 : op = 14
  · rw [if_pos h14]; subst h14; exact plain_14 K hf k s d an bn n nm (by omega) (by omega) hn hnm hok w h
  rw [if_neg h14]
  by_cases h15 : op = 15
  · rw [if_pos h15]; subst h15; exact plain_15 K hf k s d an bn n nm (by omega) (by omega) hn hnm hok w h
  rw [if_neg h15]
  by_cases h16 : op = 16
  · rw [if_pos h16]; subst h16; exact plain_16 K hf k s d an bn n nm (by omega) (by omega) hn hnm hok w h
  rw [if_neg h16]
  by_cases h17 : op = 17
  · rw [if_pos h17]; subst h17; exact plain_17 K hf k s d an bn n nm (by omega) (by omega) hn hnm hok w h
  rw [if_neg h17]
  by_cases h18 : op = 18
  · rw [if_pos h18]; subst h18; exact plain_18 K hf k s d an bn n nm (by omega) (by omega) hn hnm hok w h
  rw [if_neg h18]
  by_cases h12 : op ≤ 12
  · rw [if_pos h12]; exact plain_12 K hf k s op d an bn n nm (by omega) (by omega) hn hnm hok w h h12
  rw [if_neg h12]
  exact plain_none K hf k s op d an bn n nm (by omega) (by omega) hn hnm hok w h (by omega)
end Go.Proofs.YtpgjfpphigeliaaGreatDoor

namespace Go.Proofs.YtpgjfpphigeliaaGreatDoor
open Go.RowKit
set_option maxHeartbeats 4000000
set_option maxRecDepth 100000

/-- A return without results. -/
theorem bodyPost_ret0 {P : Program} {fn : Func} {R : Ending → World → Prop} {a : Act} {w : World} (hr : fn.results = #[]) (hd : a.defers = []) (hR : R (.returned (.tuple #[])) w) : bodyPost P fn R .ret a w :=
  ⟨hd, .tuple #[], by simp [results, hr], hR⟩
theorem end_any (K : MKon) (hf : MFix K) (k : Nat) (s : MS) (st code : Int) (w : World) (h : MAt K k s w) :
    Calls Tryz.prog 30 #[.pointer (some ⟨K.M, 0, none⟩), .int .i64 st, .int .i64 code] w fun e w' => e = .returned (.tuple #[]) ∧ MAt K k (s.done st code) w' := by
  have H := Lib.hid ((h.setSt hf st).setCode hf code)
  have c1 := h.cst
  have c2 := h.ccode
  have f1 := h.fz 41
  have f2 := h.fz 42
  have hl := h.lt
  clear h
  go_enter Tryz.func30, Tryz.ntmps30
  go_wp2_with fail
  exact Go.Great.bodyPost_end0 rfl rfl ⟨rfl, H.out⟩
end Go.Proofs.YtpgjfpphigeliaaGreatDoor

namespace Go.Proofs.YtpgjfpphigeliaaGreatDoor
open Go.RowKit
set_option maxHeartbeats 4000000
set_option maxRecDepth 100000

theorem memory_any (K : MKon) (hf : MFix K) (k : Nat) (s : MS) (i : Ins) (hi : i ∈ K.C.list) (hok : MOk s) (hk : k < 9223372036854775807) (w : World) (h : MAt K k s w) :
    Calls Tryz.prog 43 #[.pointer (some ⟨K.M, 0, none⟩), insV i] w fun e w' => e = .returned (.tuple #[]) ∧ MAt K (k + 1) (memZ K.C s i) w' := by
  obtain ⟨⟨hd0, hd1⟩, ⟨ha0, ha1⟩, ⟨hb0, hb1⟩, hn, hnm⟩ := hf.ok.well i hi
  obtain ⟨op, d, a, b, n, nm⟩ := i
  dsimp only at hd0 hd1 ha0 ha1 hb0 hb1 hn hnm
  obtain ⟨an, rfl⟩ : ∃ an : Nat, a = an := ⟨a.toNat, by omega⟩
  obtain ⟨bn, rfl⟩ : ∃ bn : Nat, b = bn := ⟨b.toNat, by omega⟩
  obtain ⟨dn, rfl⟩ : ∃ dn : Nat, d = dn := ⟨d.toNat, by omega⟩
  have hal : Below w.heap.size w (w.alloc (.cells (insCells ⟨op, dn, an, bn, n, nm⟩).toArray 39)) := (Below.refl _ _).alloc (Nat.le_refl _) _
  have HP := Lib.hid (PlIn.mk' h (op := op) (d := dn) (n := n) (nm := nm) (show an < 32 by omega) (show bn < 32 by omega))
  have HAT := Lib.hid (h.old hal)
  have HOK := Lib.hid hok
  have xa := hok.x an
  have xb := hok.x bn
  clear hal h hok
  obtain ⟨va, hva⟩ : ∃ va, s.x an = va := ⟨_, rfl⟩
  obtain ⟨vb, hvb⟩ : ∃ vb, s.x bn = vb := ⟨_, rfl⟩
  rw [hva] at HP xa
  rw [hvb] at HP xb
  have HVA : Hid (s.reg (an : Int) = va) := Lib.hid hva
  have HVB : Hid (s.reg (bn : Int) = vb) := Lib.hid hvb
  clear hva hvb
  obtain ⟨p, hp⟩ : ∃ p, numberZ (wrap64 (va + n)) K.C.arrays = p := ⟨_, rfl⟩
  have HNUM := Lib.hid (fun w => number_any (wrap64 (va + n)) K.C.arrays hf.ok.arr.1 hf.ok.arr.2 (wrap64_in _) w)
  have hpi := numberZ_in (wrap64 (va + n)) hf.ok.arr.1 hf.ok.arr.2
  rw [hp] at HNUM hpi
  have HME : Hid (memZ K.C s ⟨op, dn, an, bn, n, nm⟩ = if p < 0 then s.done 6 0 else if op = 19 then s.setX dn (s.mem p) else { s with mem := updZ s.mem p vb }) := Lib.hid (by
    unfold memZ
    dsimp only
    rw [HVA.out, HVB.out, hp])
  clear hp
  have ra := HP.out.ra
  have g0 := HP.out.g0
  have g2 := HP.out.g2
  have g4 := HP.out.g4
  have car := HAT.out.car
  have hml := HP.out.ml
  have hil := HP.out.il
  have haI : (an : Int) < 32 := by omega
  obtain ⟨xa1, xa2⟩ := xa
  obtain ⟨xb1, xb2⟩ := xb
  obtain ⟨hn1, hn2⟩ := hn
  obtain ⟨hp1, hp2⟩ := hpi
  unfold insV
  dsimp only
  go_enter Tryz.func43, Tryz.ntmps43
  go_upto_region 1 with (fail)
  obtain ⟨W1, hW1⟩ : ∃ W1, (w.alloc (.cells (insCells ⟨op, dn, an, bn, n, nm⟩).toArray 39)) = W1 := ⟨_, rfl⟩
  have hW1' : (w.alloc (.cells #[.int .i64 op, .int .i64 dn, .int .i64 an, .int .i64 bn, .int .i64 n, .string (strOf nm)] 39)) = W1 := hW1
  obtain ⟨I, hI⟩ : ∃ I, w.heap.size = I := ⟨_, rfl⟩
  rw [hW1] at HP HAT ra g0 g2 g4 car hml hil
  rw [hI] at HP g0 g2 g4 hil
  rw [hW1']
  try rw [hI]
  clear hW1 hW1' hI
  go_quiet ((go_at_call 37; exact Calls.quiet_of_same ((HNUM.out _).mono (fun e w' h => ⟨h.1, h.2.symm⟩))))
  have HP2 := Lib.hid (HP.out.old (below_drewN (Below.refl _ _) nq))
  have HAT2 := Lib.hid (HAT.out.old (below_drewN (Below.refl _ _) nq))
  generalize W1.drewN nq = W2 at *
  clear ra g0 g2 g4 car hml hil HP HAT
  have g0 := HP2.out.g0
  have g1 := HP2.out.g1
  have g3 := HP2.out.g3
  have rb := HP2.out.rb
  have cw := HAT2.out.cw
  have hml := HP2.out.ml
  have hil := HP2.out.il
  have hbI : (bn : Int) < 32 := by omega
  have hdI : (dn : Int) < 32 := by omega
  by_cases hneg : p < 0
  · rw [if_pos hneg] at HME
    have HE := Lib.hid (fun w h => end_any K hf k s 6 0 w h)
    go_wp2_with fail
    refine (HE.out _ HAT2.out).mono ?_
    rintro e w5 ⟨rfl, hb5⟩
    have H5 := Lib.hid hb5
    clear hb5
    go_wp2_with fail
    exact Go.Great.bodyPost_end0 rfl rfl ⟨rfl, by rw [HME.out]; exact H5.out.mono (Nat.le_succ _)⟩
  · rw [if_neg hneg] at HME
    by_cases h19 : op = 19
    · rw [if_pos h19] at HME
      subst h19
      have hlk : ∀ q, (Instr.lookup 63 (.map (some K.Bw)) (.int .i64 p) false).run Tryz.prog (W2.drewN q) = .ok (.int .i64 (s.mem p)) (W2.drewN q) := fun q => by
        obtain ⟨f, m, hm0, hm, he⟩ := HAT2.out.mem
        have := (hm.old (below_drewN (Below.refl _ _) q)).look p ⟨hp1, hp2⟩
        rw [he p] at this
        exact this
      have cd := HAT2.out.cx dn (by omega)
      have fd := HAT2.out.fz (4 + dn)
      have hlk0 : (Instr.lookup 63 (.map (some K.Bw)) (.int .i64 p) false).run Tryz.prog W2.drew = .ok (.int .i64 (s.mem p)) W2.drew := hlk 1
      have HW := Lib.hid ((HAT2.out.setX hf dn (by omega) (s.mem p)).old (Below.refl _ _).drew)
      go_wp2_with fail
      go_region
      go_wp2_with fail
      exact Go.Great.bodyPost_end0 rfl rfl ⟨rfl, by rw [HME.out]; exact HW.out.mono (Nat.le_succ _)⟩
    · rw [if_neg h19] at HME
      have h19' : (op == 19) = false := beq_eq_false_iff_ne.2 h19
      obtain ⟨f, m, hm0, hm, he⟩ := HAT2.out.mem
      obtain ⟨w', hrun, hm', hg'⟩ := (hm.old (show Below W2.heap.size W2 W2.drew from (Below.refl _ _).drew)).put (by omega) p ⟨hp1, hp2⟩ vb ⟨xb1, xb2⟩
      have HW := Lib.hid ((HAT2.out.old (show Below W2.heap.size W2 W2.drew from (Below.refl _ _).drew)).word hf hm0 he hm' hg')
      clear hm he hm' hg'
      go_wp2_with fail
      go_region
      go_wp2_with fail
      exact Go.Great.bodyPost_end0 rfl rfl ⟨rfl, by rw [HME.out]; exact HW.out⟩
end Go.Proofs.YtpgjfpphigeliaaGreatDoor

namespace Go.Proofs.YtpgjfpphigeliaaGreatDoor
open Go.RowKit
set_option maxHeartbeats 4000000
set_option maxRecDepth 100000

theorem goes_21 (K : MKon) (hf : MFix K) (k : Nat) (s : MS) (d : Int) (an bn : Nat) (n : Int) (nm : Bs) (ha : an < 32) (hb : bn < 32) (w : World) (h : MAt K k s w) :
    Calls Tryz.prog 44 #[.pointer (some ⟨K.M, 0, none⟩), insV ⟨21, d, an, bn, n, nm⟩] w fun e w' => e = .returned (.bool (s.x an == s.x bn)) ∧ Below w.heap.size w w' := by
  have HB : Hid (Below w.heap.size w (w.alloc (.cells (insCells ⟨21, d, an, bn, n, nm⟩).toArray 39))) := Lib.hid ((Below.refl _ _).alloc (Nat.le_refl _) _)
  have hp := PlIn.mk' h (op := 21) (d := d) (n := n) (nm := nm) ha hb
  obtain ⟨va, hva⟩ : ∃ va, s.x an = va := ⟨_, rfl⟩
  obtain ⟨vb, hvb⟩ : ∃ vb, s.x bn = vb := ⟨_, rfl⟩
  rw [hva] at hp
  rw [hvb] at hp
  have HVA := Lib.hid hva
  have HVB := Lib.hid hvb
  clear hva hvb h
  have HP := Lib.hid hp
  clear hp
  have ra := HP.out.ra
  have rb := HP.out.rb
  have g0 := HP.out.g0
  have g2 := HP.out.g2
  have g3 := HP.out.g3
  have haI : (an : Int) < 32 := by omega
  have hbI : (bn : Int) < 32 := by omega
  unfold insV
  dsimp only
  go_enter Tryz.func44, Tryz.ntmps44
  go_upto_region 1 with (fail)
  obtain ⟨W1, hW1⟩ : ∃ W1, (w.alloc (.cells (insCells ⟨21, d, an, bn, n, nm⟩).toArray 39)) = W1 := ⟨_, rfl⟩
  have hW1' : (w.alloc (.cells #[.int .i64 21, .int .i64 d, .int .i64 an, .int .i64 bn, .int .i64 n, .string (strOf nm)] 39)) = W1 := hW1
  obtain ⟨I, hI⟩ : ∃ I, w.heap.size = I := ⟨_, rfl⟩
  rw [hW1] at HP HB ra rb g0 g2 g3
  rw [hI] at HP g0 g2 g3
  rw [hW1']
  try rw [hI]
  clear hW1 hW1' hI
  go_quiet (fail)
  go_wp2_with fail
  go_ret
  exact ⟨by rw [HVA.out, HVB.out]; first | rfl | (simp; done), below_drewN HB.out _⟩
theorem goes_22 (K : MKon) (hf : MFix K) (k : Nat) (s : MS) (d : Int) (an bn : Nat) (n : Int) (nm : Bs) (ha : an < 32) (hb : bn < 32) (w : World) (h : MAt K k s w) :
    Calls Tryz.prog 44 #[.pointer (some ⟨K.M, 0, none⟩), insV ⟨22, d, an, bn, n, nm⟩] w fun e w' => e = .returned (.bool (s.x an != s.x bn)) ∧ Below w.heap.size w w' := by
  have HB : Hid (Below w.heap.size w (w.alloc (.cells (insCells ⟨22, d, an, bn, n, nm⟩).toArray 39))) := Lib.hid ((Below.refl _ _).alloc (Nat.le_refl _) _)
  have hp := PlIn.mk' h (op := 22) (d := d) (n := n) (nm := nm) ha hb
  obtain ⟨va, hva⟩ : ∃ va, s.x an = va := ⟨_, rfl⟩
  obtain ⟨vb, hvb⟩ : ∃ vb, s.x bn = vb := ⟨_, rfl⟩
  rw [hva] at hp
  rw [hvb] at hp
  have HVA := Lib.hid hva
  have HVB := Lib.hid hvb
  clear hva hvb h
  have HP := Lib.hid hp
  clear hp
  have ra := HP.out.ra
  have rb := HP.out.rb
  have g0 := HP.out.g0
  have g2 := HP.out.g2
  have g3 := HP.out.g3
  have haI : (an : Int) < 32 := by omega
  have hbI : (bn : Int) < 32 := by omega
  unfold insV
  dsimp only
  go_enter Tryz.func44, Tryz.ntmps44
  go_upto_region 1 with (fail)
  obtain ⟨W1, hW1⟩ : ∃ W1, (w.alloc (.cells (insCells ⟨22, d, an, bn, n, nm⟩).toArray 39)) = W1 := ⟨_, rfl⟩
  have hW1' : (w.alloc (.cells #[.int .i64 22, .int .i64 d, .int .i64 an, .int .i64 bn, .int .i64 n, .string (strOf nm)] 39)) = W1 := hW1
  obtain ⟨I, hI⟩ : ∃ I, w.heap.size = I := ⟨_, rfl⟩
  rw [hW1] at HP HB ra rb g0 g2 g3
  rw [hI] at HP g0 g2 g3
  rw [hW1']
  try rw [hI]
  clear hW1 hW1' hI
  go_quiet (fail)
  go_wp2_with fail
  go_ret
  exact ⟨by rw [HVA.out, HVB.out]; first | rfl | (simp; done), below_drewN HB.out _⟩
theorem goes_23 (K : MKon) (hf : MFix K) (k : Nat) (s : MS) (d : Int) (an bn : Nat) (n : Int) (nm : Bs) (ha : an < 32) (hb : bn < 32) (w : World) (h : MAt K k s w) :
    Calls Tryz.prog 44 #[.pointer (some ⟨K.M, 0, none⟩), insV ⟨23, d, an, bn, n, nm⟩] w fun e w' => e = .returned (.bool (decide (s.x an < s.x bn))) ∧ Below w.heap.size w w' := by
  have HB : Hid (Below w.heap.size w (w.alloc (.cells (insCells ⟨23, d, an, bn, n, nm⟩).toArray 39))) := Lib.hid ((Below.refl _ _).alloc (Nat.le_refl _) _)
  have hp := PlIn.mk' h (op := 23) (d := d) (n := n) (nm := nm) ha hb
  obtain ⟨va, hva⟩ : ∃ va, s.x an = va := ⟨_, rfl⟩
  obtain ⟨vb, hvb⟩ : ∃ vb, s.x bn = vb := ⟨_, rfl⟩
  rw [hva] at hp
  rw [hvb] at hp
  have HVA := Lib.hid hva
  have HVB := Lib.hid hvb
  clear hva hvb h
  have HP := Lib.hid hp
  clear hp
  have ra := HP.out.ra
  have rb := HP.out.rb
  have g0 := HP.out.g0
  have g2 := HP.out.g2
  have g3 := HP.out.g3
  have haI : (an : Int) < 32 := by omega
  have hbI : (bn : Int) < 32 := by omega
  unfold insV
  dsimp only
  go_enter Tryz.func44, Tryz.ntmps44
  go_upto_region 1 with (fail)
  obtain ⟨W1, hW1⟩ : ∃ W1, (w.alloc (.cells (insCells ⟨23, d, an, bn, n, nm⟩).toArray 39)) = W1 := ⟨_, rfl⟩
  have hW1' : (w.alloc (.cells #[.int .i64 23, .int .i64 d, .int .i64 an, .int .i64 bn, .int .i64 n, .string (strOf nm)] 39)) = W1 := hW1
  obtain ⟨I, hI⟩ : ∃ I, w.heap.size = I := ⟨_, rfl⟩
  rw [hW1] at HP HB ra rb g0 g2 g3
  rw [hI] at HP g0 g2 g3
  rw [hW1']
  try rw [hI]
  clear hW1 hW1' hI
  go_quiet (fail)
  go_wp2_with fail
  go_ret
  exact ⟨by rw [HVA.out, HVB.out]; first | rfl | (simp; done), below_drewN HB.out _⟩
theorem goes_24 (K : MKon) (hf : MFix K) (k : Nat) (s : MS) (d : Int) (an bn : Nat) (n : Int) (nm : Bs) (ha : an < 32) (hb : bn < 32) (w : World) (h : MAt K k s w) :
    Calls Tryz.prog 44 #[.pointer (some ⟨K.M, 0, none⟩), insV ⟨24, d, an, bn, n, nm⟩] w fun e w' => e = .returned (.bool (decide (s.x bn ≤ s.x an))) ∧ Below w.heap.size w w' := by
  have HB : Hid (Below w.heap.size w (w.alloc (.cells (insCells ⟨24, d, an, bn, n, nm⟩).toArray 39))) := Lib.hid ((Below.refl _ _).alloc (Nat.le_refl _) _)
  have hp := PlIn.mk' h (op := 24) (d := d) (n := n) (nm := nm) ha hb
  obtain ⟨va, hva⟩ : ∃ va, s.x an = va := ⟨_, rfl⟩
  obtain ⟨vb, hvb⟩ : ∃ vb, s.x bn = vb := ⟨_, rfl⟩
  rw [hva] at hp
  rw [hvb] at hp
  have HVA := Lib.hid hva
  have HVB := Lib.hid hvb
  clear hva hvb h
  have HP := Lib.hid hp
  clear hp
  have ra := HP.out.ra
  have rb := HP.out.rb
  have g0 := HP.out.g0
  have g2 := HP.out.g2
  have g3 := HP.out.g3
  have haI : (an : Int) < 32 := by omega
  have hbI : (bn : Int) < 32 := by omega
  unfold insV
  dsimp only
  go_enter Tryz.func44, Tryz.ntmps44
  go_upto_region 1 with (fail)
  obtain ⟨W1, hW1⟩ : ∃ W1, (w.alloc (.cells (insCells ⟨24, d, an, bn, n, nm⟩).toArray 39)) = W1 := ⟨_, rfl⟩
  have hW1' : (w.alloc (.cells #[.int .i64 24, .int .i64 d, .int .i64 an, .int .i64 bn, .int .i64 n, .string (strOf nm)] 39)) = W1 := hW1
  obtain ⟨I, hI⟩ : ∃ I, w.heap.size = I := ⟨_, rfl⟩
  rw [hW1] at HP HB ra rb g0 g2 g3
  rw [hI] at HP g0 g2 g3
  rw [hW1']
  try rw [hI]
  clear hW1 hW1' hI
  go_quiet (fail)
  go_wp2_with fail
  go_ret
  exact ⟨by rw [HVA.out, HVB.out]; first | rfl | (simp; done), below_drewN HB.out _⟩
theorem goes_25 (K : MKon) (hf : MFix K) (k : Nat) (s : MS) (op d : Int) (an bn : Nat) (n : Int) (nm : Bs) (ha : an < 32) (hb : bn < 32) (w : World) (h : MAt K k s w) (hop : 24 < op) :
    Calls Tryz.prog 44 #[.pointer (some ⟨K.M, 0, none⟩), insV ⟨op, d, an, bn, n, nm⟩] w fun e w' => e = .returned (.bool (true)) ∧ Below w.heap.size w w' := by
  have HB : Hid (Below w.heap.size w (w.alloc (.cells (insCells ⟨op, d, an, bn, n, nm⟩).toArray 39))) := Lib.hid ((Below.refl _ _).alloc (Nat.le_refl _) _)
  have hp := PlIn.mk' h (op := op) (d := d) (n := n) (nm := nm) ha hb
  obtain ⟨va, hva⟩ : ∃ va, s.x an = va := ⟨_, rfl⟩
  obtain ⟨vb, hvb⟩ : ∃ vb, s.x bn = vb := ⟨_, rfl⟩
  rw [hva] at hp
  rw [hvb] at hp
  have HVA := Lib.hid hva
  have HVB := Lib.hid hvb
  clear hva hvb h
  have HP := Lib.hid hp
  clear hp
  have ra := HP.out.ra
  have rb := HP.out.rb
  have g0 := HP.out.g0
  have g2 := HP.out.g2
  have g3 := HP.out.g3
  have haI : (an : Int) < 32 := by omega
  have hbI : (bn : Int) < 32 := by omega
  have o21 : (op == 21) = false := beq_eq_false_iff_ne.2 (by omega)
  have o22 : (op == 22) = false := beq_eq_false_iff_ne.2 (by omega)
  have o23 : (op == 23) = false := beq_eq_false_iff_ne.2 (by omega)
  have o24 : (op == 24) = false := beq_eq_false_iff_ne.2 (by omega)
  unfold insV
  dsimp only
  go_enter Tryz.func44, Tryz.ntmps44
  go_upto_region 1 with (fail)
  obtain ⟨W1, hW1⟩ : ∃ W1, (w.alloc (.cells (insCells ⟨op, d, an, bn, n, nm⟩).toArray 39)) = W1 := ⟨_, rfl⟩
  have hW1' : (w.alloc (.cells #[.int .i64 op, .int .i64 d, .int .i64 an, .int .i64 bn, .int .i64 n, .string (strOf nm)] 39)) = W1 := hW1
  obtain ⟨I, hI⟩ : ∃ I, w.heap.size = I := ⟨_, rfl⟩
  rw [hW1] at HP HB ra rb g0 g2 g3
  rw [hI] at HP g0 g2 g3
  rw [hW1']
  try rw [hI]
  clear hW1 hW1' hI
  go_quiet (fail)
  go_wp2_with fail
  go_ret
  exact ⟨by first | rfl | (rw [HVA.out, HVB.out]; first | rfl | (simp; done)), below_drewN HB.out _⟩
theorem goes_any (K : MKon) (hf : MFix K) (k : Nat) (s : MS) (i : Ins) (hi : i ∈ K.C.list) (w : World) (h : MAt K k s w) (hop : 21 ≤ i.op) :
    Calls Tryz.prog 44 #[.pointer (some ⟨K.M, 0, none⟩), insV i] w fun e w' => e = .returned (.bool (goesZ s i)) ∧ Below w.heap.size w w' := by
  obtain ⟨⟨hd0, hd1⟩, ⟨ha0, ha1⟩, ⟨hb0, hb1⟩, hn, hnm⟩ := hf.ok.well i hi
  obtain ⟨op, d, a, b, n, nm⟩ := i
  dsimp only at hd0 hd1 ha0 ha1 hb0 hb1 hn hnm hop
  obtain ⟨an, rfl⟩ : ∃ an : Nat, a = an := ⟨a.toNat, by omega⟩
  obtain ⟨bn, rfl⟩ : ∃ bn : Nat, b = bn := ⟨b.toNat, by omega⟩
  have hra : s.reg (an : Int) = s.x an := rfl
  have hrb : s.reg (bn : Int) = s.x bn := rfl
  unfold goesZ
  dsimp only
  rw [hra, hrb]
  by_cases h21 : op = 21
  · rw [if_pos h21]; subst h21; exact goes_21 K hf k s d an bn n nm (by omega) (by omega) w h
  rw [if_neg h21]
  by_cases h22 : op = 22
  · rw [if_pos h22]; subst h22; exact goes_22 K hf k s d an bn n nm (by omega) (by omega) w h
  rw [if_neg h22]
  by_cases h23 : op = 23
  · rw [if_pos h23]; subst h23; exact goes_23 K hf k s d an bn n nm (by omega) (by omega) w h
  rw [if_neg h23]
  by_cases h24 : op = 24
  · rw [if_pos h24]; subst h24; exact goes_24 K hf k s d an bn n nm (by omega) (by omega) w h
  rw [if_neg h24]
  exact goes_25 K hf k s op d an bn n nm (by omega) (by omega) w h (by omega)
theorem rem4 (z : Int) : z.tmod 4 = 0 ↔ z % 4 = 0 := by
  rw [← Int.dvd_iff_tmod_eq_zero, ← Int.dvd_iff_emod_eq_zero]
theorem back_any (K : MKon) (hf : MFix K) (k : Nat) (s : MS) (hok : MOk s) (w : World) (h : MAt K k s w) :
    Calls Tryz.prog 45 #[.pointer (some ⟨K.M, 0, none⟩)] w fun e w' => e = .returned (.tuple #[]) ∧ MAt K k (backZ K.C s) w' := by
  have HAT := Lib.hid h
  have x1 : w.cell? ⟨K.M, 5, none⟩ = some (.int .i64 (s.x 1)) := h.cx 1 (by decide)
  have cpl := h.cpl
  have fpl := h.fz 40
  have hml := h.lt
  have cL := h.cL
  have r1 := hok.x 1
  have hl := hf.ok.len
  have hlist := h.fr.row hf.list hf.mb hf.wb
  obtain ⟨La, Lc, hvL⟩ := RwOwn.shape hf.list
  have HLI : Hid (InsAt w K.C.list (.slice La K.C.list.length Lc)) := Lib.hid (by rw [← hvL]; exact RwOwn.nilv hlist (by omega) insCells_len)
  rw [hvL] at cL
  obtain ⟨v, hv⟩ : ∃ v, s.x 1 = v := ⟨_, rfl⟩
  rw [hv] at x1 r1
  have HBK : Hid (backZ K.C s = if v % 4 ≠ 0 ∨ v.tdiv 4 < 1 ∨ (K.C.list.length : Int) < v.tdiv 4 ∨ opAt K.C.list (v.tdiv 4 - 1) ≠ 26 then s.done 6 0 else { s with pl := v.tdiv 4 }) := Lib.hid (by
    unfold backZ
    rw [show s.reg 1 = v from hv])
  have HE := Lib.hid (fun w h => end_any K hf k s 6 0 w h)
  obtain ⟨r1a, r1b⟩ := r1
  have hllI : (K.C.list.length : Int) ≤ 40000 := by omega
  clear h hv hlist hvL hok
  obtain ⟨q, hq⟩ : ∃ q, v.tdiv 4 = q := ⟨_, rfl⟩
  have hq1 : -9223372036854775808 ≤ q ∧ q ≤ 9223372036854775807 := by
    rw [← hq]
    have e : (v.tdiv 4).natAbs = v.natAbs / 4 := Int.natAbs_tdiv v 4
    omega
  have hwq : IntKind.i64.wrap (v.tdiv 4) = q := by rw [hq]; exact IntWalk.i64_in _ hq1
  have e4 := rem4 v
  rw [hq] at HBK
  obtain ⟨hq2, hq3⟩ := hq1
  have bad : ∀ (hb : v % 4 ≠ 0 ∨ q < 1 ∨ (K.C.list.length : Int) < q ∨ opAt K.C.list (q - 1) ≠ 26) w', MAt K k (s.done 6 0) w' → MAt K k (backZ K.C s) w' := fun hb w' hm => by
    rw [HBK.out, if_pos hb]; exact hm
  have HBAD := Lib.hid bad
  clear bad
  by_cases h4 : v % 4 = 0
  · have t4 : (v.tmod 4 != 0) = false := by simp [e4.2 h4]
    have t4' : v.tmod 4 = 0 := e4.2 h4
    by_cases hlow : q < 1
    · go_enter Tryz.func45, Tryz.ntmps45
      go_wp2_with fail
      refine (HE.out _ HAT.out).mono ?_
      rintro e w5 ⟨rfl, hb5⟩
      have H5 := Lib.hid (HBAD.out (.inr (.inl hlow)) _ hb5)
      clear hb5
      go_wp2_with fail
      exact bodyPost_ret0 rfl rfl ⟨rfl, H5.out⟩
    · by_cases hhigh : (K.C.list.length : Int) < q
      · go_enter Tryz.func45, Tryz.ntmps45
        go_wp2_with fail
        refine (HE.out _ HAT.out).mono ?_
        rintro e w5 ⟨rfl, hb5⟩
        have H5 := Lib.hid (HBAD.out (.inr (.inr (.inl hhigh))) _ hb5)
        clear hb5
        go_wp2_with fail
        exact bodyPost_ret0 rfl rfl ⟨rfl, H5.out⟩
      · obtain ⟨qn, rfl⟩ : ∃ qn : Nat, q = ((qn + 1 : Nat) : Int) := ⟨(q - 1).toNat, by omega⟩
        have hqn : qn < K.C.list.length := by omega
        obtain ⟨b, off, rfl, hbl, g0, _⟩ := InsAt.at HLI.out hqn
        obtain ⟨o, ho⟩ : ∃ o, K.C.list[qn].op = o := ⟨_, rfl⟩
        rw [ho] at g0
        have HOP : Hid (opAt K.C.list (((qn + 1 : Nat) : Int) - 1) = o) := Lib.hid (by
          unfold opAt
          rw [show (((qn + 1 : Nat) : Int) - 1).toNat = qn by omega, List.getElem?_eq_getElem hqn]
          exact ho)
        clear ho
        have hqI : (qn : Int) < (K.C.list.length : Int) := by omega
        have hqs : ((qn + 1 : Nat) : Int) = (qn : Int) + 1 := by push_cast; rfl
        rw [hqs] at HBK hq hwq hq2 hq3 HBAD hlow hhigh HOP
        by_cases h26 : o = 26
        · subst h26
          have HG := Lib.hid (HAT.out.setPl hf ((qn : Int) + 1))
          have HBG : Hid (backZ K.C s = { s with pl := (qn : Int) + 1 }) := Lib.hid (by
            rw [HBK.out, if_neg]
            rintro (h | h | h | h)
            · exact h h4
            · omega
            · omega
            · exact h HOP.out)
          go_enter Tryz.func45, Tryz.ntmps45
          go_wp2_with fail
          exact Go.Great.bodyPost_end0 rfl rfl ⟨rfl, by rw [HBG.out]; exact HG.out⟩
        · have h26' : (o != 26) = true := by simpa using h26
          have h26'' : (o == 26) = false := beq_eq_false_iff_ne.2 h26
          go_enter Tryz.func45, Tryz.ntmps45
          go_wp2_with fail
          refine (HE.out _ HAT.out).mono ?_
          rintro e w5 ⟨rfl, hb5⟩
          have H5 := Lib.hid (HBAD.out (.inr (.inr (.inr (by rw [HOP.out]; exact h26)))) _ hb5)
          clear hb5
          go_wp2_with fail
          exact bodyPost_ret0 rfl rfl ⟨rfl, H5.out⟩
  · have t4 : (v.tmod 4 != 0) = true := by simp; exact fun e => h4 (e4.1 e)
    have t4' : ¬ v.tmod 4 = 0 := fun e => h4 (e4.1 e)
    have t4'' : (v.tmod 4 == 0) = false := beq_eq_false_iff_ne.2 t4'
    go_enter Tryz.func45, Tryz.ntmps45
    go_wp2_with fail
    refine (HE.out _ HAT.out).mono ?_
    rintro e w5 ⟨rfl, hb5⟩
    have H5 := Lib.hid (HBAD.out (.inl h4) _ hb5)
    clear hb5
    go_wp2_with fail
    exact bodyPost_ret0 rfl rfl ⟨rfl, H5.out⟩
end Go.Proofs.YtpgjfpphigeliaaGreatDoor

namespace Go.Proofs.YtpgjfpphigeliaaGreatDoor
open Go.RowKit
set_option maxHeartbeats 4000000
set_option maxRecDepth 100000

theorem ecall_3 (K : MKon) (hf : MFix K) (k : Nat) (s : MS) (hok : MOk s) (hk : k < 1000000) (w : World) (h : MAt K k s w) (h17 : s.x 17 = 3) :
    Calls Tryz.prog 46 #[.pointer (some ⟨K.M, 0, none⟩)] w fun e w' => e = .returned (.tuple #[]) ∧ MAt K (k + 1) (ecallZ s) w' := by
  have HAT := Lib.hid h
  have x10 : w.cell? ⟨K.M, 14, none⟩ = some (.int .i64 (s.x 10)) := h.cx 10 (by decide)
  have x17 : w.cell? ⟨K.M, 21, none⟩ = some (.int .i64 (s.x 17)) := h.cx 17 (by decide)
  have hml := h.lt
  obtain ⟨v, hv⟩ : ∃ v, s.x 10 = v := ⟨_, rfl⟩
  have HV : Hid (s.reg 10 = v) := Lib.hid hv
  rw [hv] at x10
  clear h hv
  have hr17 : s.reg 17 = s.x 17 := rfl
  have HEC : Hid (ecallZ s = s.done 1 v) := Lib.hid (by
    unfold ecallZ
    rw [hr17, h17, HV.out]; rfl)
  have HE := Lib.hid (fun w h => end_any K hf k s 1 v w h)
  rw [h17] at x17
  go_enter Tryz.func46, Tryz.ntmps46
  go_wp2_with fail
  refine (HE.out _ HAT.out).mono ?_
  rintro e w5 ⟨rfl, hb5⟩
  have H5 := Lib.hid (hb5.mono (Nat.le_succ k))
  clear hb5
  go_wp2_with fail
  exact Go.Great.bodyPost_end0 rfl rfl ⟨rfl, by rw [HEC.out]; exact H5.out⟩
theorem ecall_5 (K : MKon) (hf : MFix K) (k : Nat) (s : MS) (hok : MOk s) (hk : k < 1000000) (w : World) (h : MAt K k s w) (h17 : s.x 17 = 5) :
    Calls Tryz.prog 46 #[.pointer (some ⟨K.M, 0, none⟩)] w fun e w' => e = .returned (.tuple #[]) ∧ MAt K (k + 1) (ecallZ s) w' := by
  have HAT := Lib.hid h
  have x10 : w.cell? ⟨K.M, 14, none⟩ = some (.int .i64 (s.x 10)) := h.cx 10 (by decide)
  have x17 : w.cell? ⟨K.M, 21, none⟩ = some (.int .i64 (s.x 17)) := h.cx 17 (by decide)
  have hml := h.lt
  obtain ⟨v, hv⟩ : ∃ v, s.x 10 = v := ⟨_, rfl⟩
  have HV : Hid (s.reg 10 = v) := Lib.hid hv
  rw [hv] at x10
  clear h hv
  have hr17 : s.reg 17 = s.x 17 := rfl
  have HEC : Hid (ecallZ s = s.done 5 v) := Lib.hid (by
    unfold ecallZ
    rw [hr17, h17, HV.out]; rfl)
  have HE := Lib.hid (fun w h => end_any K hf k s 5 v w h)
  rw [h17] at x17
  go_enter Tryz.func46, Tryz.ntmps46
  go_wp2_with fail
  refine (HE.out _ HAT.out).mono ?_
  rintro e w5 ⟨rfl, hb5⟩
  have H5 := Lib.hid (hb5.mono (Nat.le_succ k))
  clear hb5
  go_wp2_with fail
  exact Go.Great.bodyPost_end0 rfl rfl ⟨rfl, by rw [HEC.out]; exact H5.out⟩
theorem ecall_other (K : MKon) (hf : MFix K) (k : Nat) (s : MS) (hok : MOk s) (hk : k < 1000000) (w : World) (h : MAt K k s w) (h17 : ¬ s.x 17 = 1 ∧ ¬ s.x 17 = 2 ∧ ¬ s.x 17 = 3 ∧ ¬ s.x 17 = 4 ∧ ¬ s.x 17 = 5) :
    Calls Tryz.prog 46 #[.pointer (some ⟨K.M, 0, none⟩)] w fun e w' => e = .returned (.tuple #[]) ∧ MAt K (k + 1) (ecallZ s) w' := by
  have HAT := Lib.hid h
  have x10 : w.cell? ⟨K.M, 14, none⟩ = some (.int .i64 (s.x 10)) := h.cx 10 (by decide)
  have x17 : w.cell? ⟨K.M, 21, none⟩ = some (.int .i64 (s.x 17)) := h.cx 17 (by decide)
  have hml := h.lt
  obtain ⟨v, hv⟩ : ∃ v, s.x 10 = v := ⟨_, rfl⟩
  have HV : Hid (s.reg 10 = v) := Lib.hid hv
  rw [hv] at x10
  clear h hv
  have hr17 : s.reg 17 = s.x 17 := rfl
  obtain ⟨h1, h2, h3, h4, h5⟩ := h17
  have HEC : Hid (ecallZ s = s.done 6 0) := Lib.hid (by
    unfold ecallZ
    rw [hr17, if_neg h1, if_neg h2, if_neg h3, if_neg h4, if_neg h5])
  have HE := Lib.hid (fun w h => end_any K hf k s 6 0 w h)
  obtain ⟨c, hc⟩ : ∃ c, s.x 17 = c := ⟨_, rfl⟩
  rw [hc] at x17 h1 h2 h3 h4 h5
  clear hc hr17
  have o1 : (c == 1) = false := beq_eq_false_iff_ne.2 h1
  have o2 : (c == 2) = false := beq_eq_false_iff_ne.2 h2
  have o3 : (c == 3) = false := beq_eq_false_iff_ne.2 h3
  have o4 : (c == 4) = false := beq_eq_false_iff_ne.2 h4
  have o5 : (c == 5) = false := beq_eq_false_iff_ne.2 h5
  go_enter Tryz.func46, Tryz.ntmps46
  go_wp2_with fail
  refine (HE.out _ HAT.out).mono ?_
  rintro e w5 ⟨rfl, hb5⟩
  have H5 := Lib.hid (hb5.mono (Nat.le_succ k))
  clear hb5
  go_wp2_with fail
  exact Go.Great.bodyPost_end0 rfl rfl ⟨rfl, by rw [HEC.out]; exact H5.out⟩
theorem ecall_4 (K : MKon) (hf : MFix K) (k : Nat) (s : MS) (hok : MOk s) (hk : k < 1000000) (w : World) (h : MAt K k s w) (h17 : s.x 17 = 4) :
    Calls Tryz.prog 46 #[.pointer (some ⟨K.M, 0, none⟩)] w fun e w' => e = .returned (.tuple #[]) ∧ MAt K (k + 1) (ecallZ s) w' := by
  have HAT := Lib.hid h
  have x10 : w.cell? ⟨K.M, 14, none⟩ = some (.int .i64 (s.x 10)) := h.cx 10 (by decide)
  have x17 : w.cell? ⟨K.M, 21, none⟩ = some (.int .i64 (s.x 17)) := h.cx 17 (by decide)
  have hml := h.lt
  obtain ⟨v, hv⟩ : ∃ v, s.x 10 = v := ⟨_, rfl⟩
  have HV : Hid (s.reg 10 = v) := Lib.hid hv
  rw [hv] at x10
  clear h hv
  have hr17 : s.reg 17 = s.x 17 := rfl
  have HE := Lib.hid (fun st w h => end_any K hf k s st 0 w h)
  rw [h17] at x17
  have HEC : Hid (ecallZ s = s.done (if v < 2 ∨ 4 < v then 6 else v) 0) := Lib.hid (by
    unfold ecallZ
    rw [hr17, h17, HV.out]; rfl)
  by_cases hlo : v < 2
  · rw [if_pos (.inl hlo)] at HEC
    go_enter Tryz.func46, Tryz.ntmps46
    go_wp2_with fail
    refine (HE.out _ _ HAT.out).mono ?_
    rintro e w5 ⟨rfl, hb5⟩
    have H5 := Lib.hid (hb5.mono (Nat.le_succ k))
    clear hb5
    go_wp2_with fail
    exact Go.Great.bodyPost_end0 rfl rfl ⟨rfl, by rw [HEC.out]; exact H5.out⟩
  · by_cases hhi : 4 < v
    · rw [if_pos (.inr hhi)] at HEC
      go_enter Tryz.func46, Tryz.ntmps46
      go_wp2_with fail
      refine (HE.out _ _ HAT.out).mono ?_
      rintro e w5 ⟨rfl, hb5⟩
      have H5 := Lib.hid (hb5.mono (Nat.le_succ k))
      clear hb5
      go_wp2_with fail
      exact Go.Great.bodyPost_end0 rfl rfl ⟨rfl, by rw [HEC.out]; exact H5.out⟩
    · rw [if_neg (by omega)] at HEC
      go_enter Tryz.func46, Tryz.ntmps46
      go_wp2_with fail
      refine (HE.out _ _ HAT.out).mono ?_
      rintro e w5 ⟨rfl, hb5⟩
      have H5 := Lib.hid (hb5.mono (Nat.le_succ k))
      clear hb5
      go_wp2_with fail
      exact Go.Great.bodyPost_end0 rfl rfl ⟨rfl, by rw [HEC.out]; exact H5.out⟩
theorem ecall_1 (K : MKon) (hf : MFix K) (k : Nat) (s : MS) (hok : MOk s) (hk : k < 1000000) (w : World) (h : MAt K k s w) (h17 : s.x 17 = 1) :
    Calls Tryz.prog 46 #[.pointer (some ⟨K.M, 0, none⟩)] w fun e w' => e = .returned (.tuple #[]) ∧ MAt K (k + 1) (ecallZ s) w' := by
  have HAT := Lib.hid h
  have x10 : w.cell? ⟨K.M, 14, none⟩ = some (.int .i64 (s.x 10)) := h.cx 10 (by decide)
  have x17 : w.cell? ⟨K.M, 21, none⟩ = some (.int .i64 (s.x 17)) := h.cx 17 (by decide)
  have hml := h.lt
  obtain ⟨v, hv⟩ : ∃ v, s.x 10 = v := ⟨_, rfl⟩
  have HV : Hid (s.reg 10 = v) := Lib.hid hv
  rw [hv] at x10
  clear h hv
  have hr17 : s.reg 17 = s.x 17 := rfl
  rw [h17] at x17
  have HEC : Hid (ecallZ s = { s with out := s.out ++ [v] }) := Lib.hid (by
    unfold ecallZ
    rw [hr17, h17, HV.out]; rfl)
  obtain ⟨vin, vout, h1, h2, h3⟩ := HAT.out.m
  obtain ⟨oa, oc, rfl⟩ := RwOwn.shape h3
  have cout := h1.at 43 _ (mc_tail _ _ _ _ _ _ _ _ _ _ _ _ _ _ 7)
  have hlo := RwOwn.lt h3
  have hal : Below w.heap.size w (w.alloc (.cells #[.int .i64 v] 3)) := (Below.refl _ _).alloc (Nat.le_refl _) _
  have HX := Lib.hid (h1.old hal)
  have HOW := Lib.hid (RwOwn.old h3 hal)
  have HNW := Lib.hid (OwnAt.new w (intCells v) 3)
  have HA1 := Lib.hid (HAT.out.old hal)
  have hol := HAT.out.told
  have HLT := Lib.hid hlo
  have HIN := Lib.hid h2
  have hfs := HAT.out.fr.size
  have HSZ : Hid (K.W1.heap.size ≤ (w.alloc (.cells #[.int .i64 v] 3)).heap.size) := Lib.hid (by simp; omega)
  have hb1 := hf.b1
  have hmb := hf.mb
  have hwb := hf.wb
  clear h1 h3 hal hlo h2
  go_enter Tryz.func46, Tryz.ntmps46
  go_wp2_with (at_builtin; refine wpList_numSnoc _ rfl _ _ rfl K.W1.heap.size s.out _ rfl HOW.out v w.heap.size 1 rfl HNW.out (by omega) HSZ.out ?_; intro g2 cg2 w7 how7 hgr7 hat7 hlt7; have HR7 := Lib.hid how7; have HX7 := Lib.hid (HX.out.grow hgr7 (fun e => by have := (HLT.out K.M e).1; omega)); have HG7 := Lib.hid hgr7; have y1 := HX7.out.at 43 _ (mc_tail _ _ _ _ _ _ _ _ _ _ _ _ _ _ 7); have fy := HX7.out.fz 43; have hyl := HX7.out.lt; clear how7 hgr7 hat7 hlt7)
  refine Go.Great.bodyPost_end0 rfl rfl ⟨rfl, ?_⟩
  rw [HEC.out]
  have hx := HX7.out.set 43 (.slice (some ⟨g2, 0, none⟩) (s.out.length + 1) cg2)
  rw [mc_out] at hx
  obtain ⟨f, n, g1, gm, ge⟩ := HA1.out.mem
  refine ⟨⟨vin, _, hx, HIN.out, ?_⟩, ⟨f, n, by omega, ?_, ge⟩, (HA1.out.fr.grow HG7.out (fun k e => (HLT.out k e).1)).set 43 _, by show (s.out ++ [v]).length ≤ k + 1; simp; exact hol⟩
  · exact RwOwn.set HR7.out (fun e => by have := (RwOwn.lt HR7.out _ e).1; omega) 43 _
  · refine ZMapIs.set ?_ (fun e => hf.mw e.symm) 43 _
    exact gm.same (HG7.out.block _ gm.lt (fun e => by have := (HLT.out _ e.symm).1; omega))
theorem ecall_2 (K : MKon) (hf : MFix K) (k : Nat) (s : MS) (hok : MOk s) (hk : k < 1000000) (w : World) (h : MAt K k s w) (h17 : s.x 17 = 2) :
    Calls Tryz.prog 46 #[.pointer (some ⟨K.M, 0, none⟩)] w fun e w' => e = .returned (.tuple #[]) ∧ MAt K (k + 1) (ecallZ s) w' := by
  have HAT := Lib.hid h
  have x10 : w.cell? ⟨K.M, 14, none⟩ = some (.int .i64 (s.x 10)) := h.cx 10 (by decide)
  have x17 : w.cell? ⟨K.M, 21, none⟩ = some (.int .i64 (s.x 17)) := h.cx 17 (by decide)
  have hml := h.lt
  obtain ⟨v, hv⟩ : ∃ v, s.x 10 = v := ⟨_, rfl⟩
  have HV : Hid (s.reg 10 = v) := Lib.hid hv
  rw [hv] at x10
  clear h hv
  have hr17 : s.reg 17 = s.x 17 := rfl
  rw [h17] at x17
  obtain ⟨vin, vout, h1, h2, h3⟩ := HAT.out.m
  have hb1 := hf.b1
  have fx := HAT.out.fz 14
  have fin := HAT.out.fz 39
  have cin0 := h1.at 39 _ (mc_tail _ _ _ _ _ _ _ _ _ _ _ _ _ _ 3)
  have hm0 := hf.m0
  have hbw := HAT.out.fr.below hf
  obtain ⟨va, vn, vc, hve, hvn, hvc⟩ := h2.cap
  cases hinp : s.inp with
  | nil =>
    have hn0 : vn = 0 := by
      have := RwAt.shape h2.at'
      rw [hinp] at this
      obtain ⟨a, c, e⟩ := this
      rw [hve] at e; cases e; rfl
    subst hn0
    have HEC : Hid (ecallZ s = s.setX 10 (-1)) := Lib.hid (by
      unfold ecallZ
      rw [hr17, h17, hinp, if_neg (by decide), if_pos rfl]
      unfold MS.setX
      simp [hinp])
    have HW := Lib.hid ((HAT.out.setX hf 10 (by decide) (-1)).mono (Nat.le_succ k))
    subst hve
    have cin : w.cell? ⟨K.M, 39, none⟩ = some (.slice va 0 vc) := cin0
    clear h1 h2 h3 hinp cin0 hbw
    go_enter Tryz.func46, Tryz.ntmps46
    go_wp2_with fail
    refine Go.Great.bodyPost_end0 rfl rfl ⟨rfl, ?_⟩
    rw [HEC.out]; exact HW.out
  | cons z l =>
    rw [hinp] at h2
    obtain ⟨a, c, e⟩ := RwAt.shape h2.at'
    rw [hve] at e
    cases e
    have hat := h2.at'
    rw [hve] at hat
    obtain ⟨b, off, rfl, hbl, c0⟩ := NumsAt.at hat (i := 0) (by simp)
    subst hve
    have HIT : Hid (InpAt K.W0 l (.slice (if vc = 1 then some ⟨b, off, none⟩ else some ⟨b, off + 1, none⟩) l.length (vc - 1))) := Lib.hid (InpAt.tail2 (by simpa using h2))
    have HEC : Hid (ecallZ s = { s.setX 10 z with inp := l }) := Lib.hid (by
      unfold ecallZ
      rw [hr17, h17, hinp, if_neg (by decide), if_pos rfl]; rfl)
    have hne : b ≠ K.M := by omega
    have hne' : K.M ≠ b := by omega
    have cz : w.cell? ⟨b, off, none⟩ = some (.int .i64 z) := below_keeps hbw c0
    have hbl2 : b < w.heap.size := World.block_lt_of_cell? _ _ cz
    have cin : w.cell? ⟨K.M, 39, none⟩ = some (.slice (some ⟨b, off, none⟩) (l.length + 1) vc) := cin0
    have hcI : (l.length : Int) + 1 ≤ (vc : Int) := by simp at hvn; omega
    have hcI2 : (vc : Int) ≤ 9223372036854775807 := by omega
    have hc0 : ¬ vc = 0 := by simp at hvn; omega
    have hlpos : (0 : Int) < (l.length : Int) + 1 := by omega
    have HA1 := Lib.hid (((((HAT.out.setX hf 10 (by decide) (-1)).setX hf 10 (by decide) z).setIn hf HIT.out).old (Below.refl _ _).drew).mono (Nat.le_succ k))
    rw [setX_twice] at HA1
    have HO1 := Lib.hid h1
    clear h1 h2 h3 cin0 hbw hat c0
    by_cases hv1 : vc = 1
    · subst hv1
      rw [if_pos rfl] at HA1
      go_enter Tryz.func46, Tryz.ntmps46
      go_wp2_with fail
      go_region
      all_goals
        go_wp2_with fail
        refine Go.Great.bodyPost_end0 rfl rfl ⟨rfl, ?_⟩
        rw [HEC.out]; exact HA1.out
    · rw [if_neg hv1] at HA1
      go_enter Tryz.func46, Tryz.ntmps46
      go_wp2_with fail
      go_region
      all_goals
        go_wp2_with fail
        refine Go.Great.bodyPost_end0 rfl rfl ⟨rfl, ?_⟩
        rw [HEC.out]; exact HA1.out
theorem ecall_any (K : MKon) (hf : MFix K) (k : Nat) (s : MS) (hok : MOk s) (hk : k < 1000000) (w : World) (h : MAt K k s w) :
    Calls Tryz.prog 46 #[.pointer (some ⟨K.M, 0, none⟩)] w fun e w' => e = .returned (.tuple #[]) ∧ MAt K (k + 1) (ecallZ s) w' := by
  by_cases h1 : s.x 17 = 1
  · exact ecall_1 K hf k s hok hk w h h1
  by_cases h2 : s.x 17 = 2
  · exact ecall_2 K hf k s hok hk w h h2
  by_cases h3 : s.x 17 = 3
  · exact ecall_3 K hf k s hok hk w h h3
  by_cases h4 : s.x 17 = 4
  · exact ecall_4 K hf k s hok hk w h h4
  by_cases h5 : s.x 17 = 5
  · exact ecall_5 K hf k s hok hk w h h5
  exact ecall_other K hf k s hok hk w h ⟨h1, h2, h3, h4, h5⟩
end Go.Proofs.YtpgjfpphigeliaaGreatDoor
