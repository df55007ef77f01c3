/-
  A map from numbers to numbers, as a plain function. No condition.
  The machine as plain data: what an instruction does, what a run comes to. Plain functions alone.
  The machine's numbers stay numbers of 64 bits. Plain functions alone.
  The machine in memory. No condition.
  number: the number of the word at a place. Condition: numbers are ints.
  right, size, Addr, Where: where arrays begin, which word stands at a place. Conditions: code that may be, of at most a thousand arrays, in memory.
  flag, Div, Rem, Less, sum: what an instruction makes of two registers. Condition: registers hold ints.
  The machine in memory: its cells read and written. No condition.
-/
import Derived.Test.YtpgjfpphigeliaaGreatDoorAsmC
import Derived.Test.YtpgjfpphigeliaaGreatDoorAsmA
import Derived.IntWalk
import Derived.Test.YtpgjfpphigeliaaGreatDoorAsmH
import Derived.Test.YtpgjfpphigeliaaGreatDoorAsmE
import Derived.Test.YtpgjfpphigeliaaGreatDoorAsmF
set_option linter.unusedVariables false
set_option linter.unusedSimpArgs false
namespace Go.Proofs.YtpgjfpphigeliaaGreatDoor
open Go.RowKit Go.Maps
set_option maxHeartbeats 4000000
set_option maxRecDepth 100000

theorem zkeys : Keyed Tryz.prog 3 := int_keyed Tryz.underlying3
theorem lit_wf {k : Int} (h : -9223372036854775808 ≤ k ∧ k ≤ 9223372036854775807) : (Lit.int .i64 k).wf = true := by
  simp only [Lit.wf, Bool.and_eq_true, decide_eq_true_eq]; exact h
theorem zkey {k : Int} (h : -9223372036854775808 ≤ k ∧ k ≤ 9223372036854775807) : keyOf Tryz.prog 3 (.int .i64 k) = some (.int .i64 k) := keyOf_int_mk Tryz.underlying3 (lit_wf h)
/-- Block B is a map that answers as f does. -/
def ZMapIs (w : World) (B n : Nat) (f : Int → Option Int) : Prop :=
  ∃ D : DataW Unit, w.ownsMap Tryz.prog 3 (plainElem Tryz.prog 3) B n D ∧ ∀ k : Int, Maps.has D (.int .i64 k) = (f k).isSome ∧ D.atKey (.int .i64 k) (.lit (.int .i64 0)) = .lit (.int .i64 ((f k).getD 0))
theorem ZMapIs.made (w : World) : ZMapIs (w.alloc (.map #[] 0)) w.heap.size 0 (fun _ => none) :=
  ⟨.map [], World.ownsMap_made _ _ _ _, fun s => ⟨rfl, rfl⟩⟩
theorem ZMapIs.lt {w : World} {B n : Nat} {f : Int → Option Int} (h : ZMapIs w B n f) : B < w.heap.size := by
  obtain ⟨D, h, _⟩ := h; exact h.lt
theorem ZMapIs.mono {w : World} {B n m : Nat} {f : Int → Option Int} (h : ZMapIs w B n f) (hm : n ≤ m) : ZMapIs w B m f := by
  obtain ⟨D, h, k⟩ := h; exact ⟨D, h.mono hm, k⟩
theorem ZMapIs.same {w w' : World} {B n : Nat} {f : Int → Option Int} (h : ZMapIs w B n f) (hb : w'.heap[B]? = w.heap[B]?) : ZMapIs w' B n f := by
  obtain ⟨D, h, k⟩ := h
  refine ⟨D, ?_, k⟩
  unfold World.ownsMap at *
  rw [hb]; exact h
theorem ZMapIs.old {w w' : World} {B n : Nat} {f : Int → Option Int} (h : ZMapIs w B n f) (hb : Below w.heap.size w w') : ZMapIs w' B n f := h.same (hb.block B h.lt)
theorem ZMapIs.set {w : World} {B n : Nat} {f : Int → Option Int} (h : ZMapIs w B n f) {k : Nat} (hk : B ≠ k) (i : Nat) (v : Value) : ZMapIs (w.setCell ⟨k, i, none⟩ v) B n f := h.same (Below.heap_setCell _ _ _ _ hk)
theorem ZMapIs.ext {w : World} {B n : Nat} {f g : Int → Option Int} (h : ZMapIs w B n f) (hg : ∀ s, g s = f s) : ZMapIs w B n g := by
  obtain ⟨D, h, k⟩ := h; exact ⟨D, h, fun s => by rw [hg]; exact k s⟩
def putZ (f : Int → Option Int) (s : Int) (v : Int) : Int → Option Int := fun t => if t = s then some v else f t
theorem zkey_ne {s t : Int} (h : t ≠ s) : Lit.int .i64 t ≠ Lit.int .i64 s := fun e => h (by injection e)
theorem ZMapIs.look {w : World} {B n : Nat} {f : Int → Option Int} (h : ZMapIs w B n f) (s : Int) (hs : -9223372036854775808 ≤ s ∧ s ≤ 9223372036854775807) : (Instr.lookup 63 (.map (some B)) (.int .i64 s) false).run Tryz.prog w = .ok (.int .i64 ((f s).getD 0)) w := by
  obtain ⟨D, h, k⟩ := h
  obtain ⟨c, hrun, hat, _⟩ := h.lookup_int zkeys Tryz.underlying63 Tryz.underlying3 (mzero w) (zkey hs)
  rw [hrun]
  have := (k s).2
  rw [hat] at this
  simp only [DataW.lit.injEq, Lit.int.injEq, true_and] at this
  rw [this]
theorem ZMapIs.put {w : World} {B n : Nat} {f : Int → Option Int} (h : ZMapIs w B n f) (hn : n < 9223372036854775807) (s : Int) (hs : -9223372036854775808 ≤ s ∧ s ≤ 9223372036854775807) (v : Int) (hv : -9223372036854775808 ≤ v ∧ v ≤ 9223372036854775807) :
    ∃ w', (Instr.mapUpdate 63 (.map (some B)) (.int .i64 s) (.int .i64 v)).run Tryz.prog w = .ok () w' ∧ ZMapIs w' B (n + 1) (putZ f s v) ∧ w.grownBy w' (some B) := by
  obtain ⟨D, h, k⟩ := h
  obtain ⟨w', hrun, how, hg⟩ := h.update zkeys Tryz.underlying63 (by unfold maxLen; exact hn) (zkey hs) (plainElem_int (H := Unit) Tryz.underlying3 (lit_wf hv))
  refine ⟨w', hrun, ⟨_, how, fun t => ?_⟩, hg⟩
  unfold putZ
  by_cases ht : t = s
  · subst ht
    rw [if_pos rfl]
    exact ⟨has_put_same h.isMap (show WideAt.IsKeyLit (.int .i64 t) from trivial) _, atKey_put_same h.isMap (show WideAt.IsKeyLit (.int .i64 t) from trivial) _ _⟩
  · rw [if_neg ht]
    exact ⟨(has_put_other (zkey_ne ht) _).trans (k t).1, (atKey_put_other (zkey_ne ht) _ _).trans (k t).2⟩
section
variable (w : World) {ops : Array Oper} {rest : List Oper} {o : Oper} {a : Act} {Q : Exit → Act → World → Prop}
theorem wpList_zlook (hg : o.guard = none) (m x : Operand) (hop : o.op = Op.lookup 63 m x false) {B n : Nat} {f : Int → Option Int} (hm : a.eval m = .map (some B)) (h : ZMapIs w B n f) (s : Int) (hx : a.eval x = .int .i64 s) (hs : -9223372036854775808 ≤ s ∧ s ≤ 9223372036854775807)
    {v : Int} (hv : (f s).getD 0 = v) (hK : wpList Tryz.prog ops Q rest (a.put o.dst (.int .i64 v)) w) : wpList Tryz.prog ops Q (o :: rest) a w := by
  refine wpList_plain hg fun K' hK' => ?_
  have hrun := h.look s hs
  rw [hv] at hrun
  unfold Oper.wp
  simp [execOp, hop, hm, hx, hrun, Result.andThen]
  exact hK' _ _ hK
theorem wpList_zput (hg : o.guard = none) (m x v : Operand) (hop : o.op = Op.mapUpdate 63 m x v) {B n : Nat} {f : Int → Option Int} (hm : a.eval m = .map (some B)) (h : ZMapIs w B n f) (hn : n < 9223372036854775807) (s : Int) (hx : a.eval x = .int .i64 s) (hs : -9223372036854775808 ≤ s ∧ s ≤ 9223372036854775807)
    (z : Int) (hz : a.eval v = .int .i64 z) (hr : -9223372036854775808 ≤ z ∧ z ≤ 9223372036854775807)
    (hK : ∀ w', ZMapIs w' B (n + 1) (putZ f s z) → w.grownBy w' (some B) → wpList Tryz.prog ops Q rest (a.put o.dst undef) w') : wpList Tryz.prog ops Q (o :: rest) a w := by
  refine wpList_plain hg fun K' hK' => ?_
  obtain ⟨w', hrun, h1, h2⟩ := h.put hn s hs z hr
  unfold Oper.wp
  simp [execOp, hop, hm, hx, hz, hrun, Result.andThen]
  exact hK' _ _ (hK w' h1 h2)
end
end Go.Proofs.YtpgjfpphigeliaaGreatDoor

namespace Go.Proofs.YtpgjfpphigeliaaGreatDoor
open Go.RowKit (wrap64)
set_option maxRecDepth 100000
set_option maxHeartbeats 4000000

def flagZ (b : Bool) : Int := if b = true then 1 else 0
def divZ (a b : Int) : Int := if b = 0 then -1 else wrap64 (a.tdiv b)
def remZ (a b : Int) : Int := if b = 0 then a else a.tmod b
def lessZ (a b : Int) : Bool := decide (a % 18446744073709551616 < b % 18446744073709551616)
def andZ (a b : Int) : Int := IntKind.i64.wrap ((BitVec.ofInt 64 a &&& BitVec.ofInt 64 b).toNat)
def orZ (a b : Int) : Int := IntKind.i64.wrap ((BitVec.ofInt 64 a ||| BitVec.ofInt 64 b).toNat)
def xorZ (a b : Int) : Int := IntKind.i64.wrap ((BitVec.ofInt 64 a ^^^ BitVec.ofInt 64 b).toNat)
def shlZ (a b : Int) : Int := wrap64 (a * 2 ^ (andZ b 63).toNat)
def shrZ (a b : Int) : Int := a.fdiv (2 ^ (andZ b 63).toNat)
/-- What an instruction makes of two registers. -/
def sumZ (op a b : Int) : Int :=
  if op = 1 then wrap64 (a + b) else if op = 2 then wrap64 (a - b) else if op = 3 then wrap64 (a * b) else if op = 4 then divZ a b else if op = 5 then remZ a b else
  if op = 6 then andZ a b else if op = 7 then orZ a b else if op = 8 then xorZ a b else if op = 9 then shlZ a b else if op = 10 then shrZ a b else
  if op = 11 then flagZ (decide (a < b)) else flagZ (lessZ a b)
/-- How many words arrays have. -/
def sizeZ : List Ar → Int
  | [] => 0
  | a :: l => a.size + sizeZ l
/-- Where the first array of a name begins. -/
def startZ : List Ar → Int → Bs → Option Int
  | [], _, _ => none
  | a :: l, p, s => if a.name = s then some p else startZ l (p + 8 * a.size) s
def addrZ (c : Cd) (s : Bs) : Int := (startZ c.arrs 65536 s).getD (-1)
/-- The number of the word at a place. -/
def numberZ (at' arrays : Int) : Int :=
  if at' % 8 ≠ 0 then -1 else if 65536 ≤ at' ∧ at' < 65536 + 8 * arrays then (at' - 65536) / 8
  else if 1073709056 ≤ at' ∧ at' < 1073741824 then arrays + (at' - 1073709056) / 8 else -1
structure MS where
  x : Nat → Int
  mem : Int → Int
  inp : List Int
  pl : Int
  st : Int
  code : Int
  out : List Int
  steps : Int
def updN (f : Nat → Int) (k : Nat) (v : Int) : Nat → Int := fun j => if j = k then v else f j
def updZ (f : Int → Int) (k : Int) (v : Int) : Int → Int := fun j => if j = k then v else f j
def MS.setX (s : MS) (k : Int) (v : Int) : MS := { s with x := updN s.x k.toNat v }
def MS.reg (s : MS) (k : Int) : Int := s.x k.toNat
def MS.done (s : MS) (st code : Int) : MS := { s with st := st, code := code }
/-- What the machine is made of, but for what changes. -/
structure MC where
  list : List Ins
  tos : List Int
  starts : Bs → Int
  arrays : Int
def plainZ (C : MC) (s : MS) (i : Ins) : Option Int :=
  if i.op = 13 then some (flagZ (s.reg i.a == 0)) else if i.op = 14 then some (flagZ (s.reg i.a != 0)) else if i.op = 15 then some (s.reg i.a) else
  if i.op = 16 then some i.n else if i.op = 17 then some (C.starts i.name) else if i.op = 18 then some (wrap64 (s.reg i.a + i.n)) else
  if i.op ≤ 12 then some (sumZ i.op (s.reg i.a) (s.reg i.b)) else none
def memZ (C : MC) (s : MS) (i : Ins) : MS :=
  if numberZ (wrap64 (s.reg i.a + i.n)) C.arrays < 0 then s.done 6 0 else if i.op = 19 then s.setX i.d (s.mem (numberZ (wrap64 (s.reg i.a + i.n)) C.arrays))
  else { s with mem := updZ s.mem (numberZ (wrap64 (s.reg i.a + i.n)) C.arrays) (s.reg i.b) }
def goesZ (s : MS) (i : Ins) : Bool :=
  if i.op = 21 then s.reg i.a == s.reg i.b else if i.op = 22 then s.reg i.a != s.reg i.b else if i.op = 23 then decide (s.reg i.a < s.reg i.b) else
  if i.op = 24 then decide (s.reg i.b ≤ s.reg i.a) else true
def opAt (l : List Ins) (k : Int) : Int := ((l[k.toNat]?).map (·.op)).getD 0
def backZ (C : MC) (s : MS) : MS :=
  if s.reg 1 % 4 ≠ 0 ∨ (s.reg 1).tdiv 4 < 1 ∨ (C.list.length : Int) < (s.reg 1).tdiv 4 ∨ opAt C.list ((s.reg 1).tdiv 4 - 1) ≠ 26 then s.done 6 0 else { s with pl := (s.reg 1).tdiv 4 }
def ecallZ (s : MS) : MS :=
  if s.reg 17 = 1 then { s with out := s.out ++ [s.reg 10] } else if s.reg 17 = 2 then { s.setX 10 (s.inp.headD (-1)) with inp := s.inp.tail } else
  if s.reg 17 = 3 then s.done 1 (s.reg 10) else if s.reg 17 = 4 then s.done (if s.reg 10 < 2 ∨ 4 < s.reg 10 then 6 else s.reg 10) 0 else
  if s.reg 17 = 5 then s.done 5 (s.reg 10) else s.done 6 0
def goZ (C : MC) (s : MS) (i : Ins) (t : Int) : MS :=
  if i.op = 19 ∨ i.op = 20 then memZ C s i else if 21 ≤ i.op ∧ i.op ≤ 25 then (if goesZ s i = true then { s with pl := t } else s) else
  if i.op = 26 then { s.setX 1 (4 * s.pl) with pl := t } else if i.op = 27 then backZ C s else if i.op = 28 then ecallZ s else s
def insZ (C : MC) (k : Int) : Ins := (C.list[k.toNat]?).getD (zeroI 0)
def toZ (C : MC) (k : Int) : Int := (C.tos[k.toNat]?).getD 0
def afterZ (C : MC) (s : MS) (i : Ins) : MS := match plainZ C s i with | some v => s.setX i.d v | none => s
def stepZ (C : MC) (s : MS) : MS := (goZ C (afterZ C { s with pl := s.pl + 1 } (insZ C s.pl)) (insZ C s.pl) (toZ C s.pl)).setX 0 0
/-- A run, for so many steps; what the first number bounds is the loop. -/
def runZ (C : MC) (n : Int) : Nat → MS → MS
  | 0, s => s
  | k + 1, s => if s.st ≠ 0 then s else if (C.list.length : Int) ≤ s.pl then s.done 6 0 else if n ≤ s.steps then s else runZ C n k (stepZ C { s with steps := s.steps + 1 })
def machC (c : Cd) : MC := ⟨(flatA c).1, (flatA c).2, fun s => (startZ c.arrs 65536 s).getD 0, sizeZ c.arrs⟩
def startS (inp : List Int) : MS := ⟨fun r => if r = 2 then 1073741824 else 0, fun _ => 0, inp, 0, 0, 0, [], 0⟩
/-- What becomes of code that may be. -/
def runC (c : Cd) (inp : List Int) (n : Int) : MS := runZ (machC c) n (n.toNat + 1) (startS inp)
/-- What a run tells: its status, its code, what it told, its steps. -/
def MS.tells (s : MS) : Int × Int × List Int × Int := (s.st, s.code, s.out, s.steps)

/-! ### Ranges -/
theorem wrap64_in (z : Int) : I64 (wrap64 z) := by
  unfold I64 wrap64; omega
theorem i64w_in (z : Int) : I64 (IntKind.i64.wrap z) := by
  rw [IntKind.wrap_i64]; unfold I64; omega
theorem flagZ_in (b : Bool) : I64 (flagZ b) := by
  unfold flagZ I64; split <;> omega
theorem divZ_in (a b : Int) : I64 (divZ a b) := by
  unfold divZ; split
  · exact ⟨by omega, by omega⟩
  · exact wrap64_in _
theorem remZ_in {a b : Int} (h : I64 a) : I64 (remZ a b) := by
  unfold remZ; split
  · exact h
  · obtain ⟨h1, h2⟩ := h
    have e : (a.tmod b).natAbs ≤ a.natAbs := by rw [Int.natAbs_tmod]; exact Nat.mod_le _ _
    unfold I64
    by_cases h0 : 0 ≤ a
    · have := Int.tmod_nonneg b h0
      omega
    · have h3 : a.tmod b = -((-a).tmod b) := by rw [Int.neg_tmod, Int.neg_neg]
      have := Int.tmod_nonneg b (show 0 ≤ -a by omega)
      omega
theorem shrZ_in {a b : Int} (h : I64 a) : I64 (shrZ a b) := by
  unfold shrZ I64 at *
  have hp : (0 : Int) < 2 ^ (andZ b 63).toNat := Int.pow_pos (by omega)
  rw [Int.fdiv_eq_ediv_of_nonneg _ (by omega)]
  obtain ⟨h1, h2⟩ := h
  constructor
  · exact Int.le_ediv_of_mul_le hp (by have : (-9223372036854775808 : Int) * 2 ^ (andZ b 63).toNat ≤ -9223372036854775808 * 1 := Int.mul_le_mul_of_nonpos_left (by omega) (by omega); omega)
  · by_cases h0 : 0 ≤ a
    · have := Int.ediv_le_self (2 ^ (andZ b 63).toNat) h0; omega
    · have := Int.ediv_neg_of_neg_of_pos (show a < 0 by omega) hp; omega
theorem sumZ_in {op a b : Int} (ha : I64 a) : I64 (sumZ op a b) := by
  unfold sumZ
  repeat' split
  all_goals first | exact wrap64_in _ | exact divZ_in _ _ | exact remZ_in ha | exact i64w_in _ | exact shrZ_in ha | exact flagZ_in _
theorem andZ63 (b : Int) : 0 ≤ andZ b 63 ∧ andZ b 63 ≤ 63 := by
  unfold andZ
  have h : (BitVec.ofInt 64 b &&& BitVec.ofInt 64 63).toNat ≤ 63 := by
    rw [BitVec.toNat_and]
    exact Nat.le_trans Nat.and_le_right (by decide)
  rw [Go.IntWalk.i64_in _ (by omega)]
  omega
end Go.Proofs.YtpgjfpphigeliaaGreatDoor

namespace Go.Proofs.YtpgjfpphigeliaaGreatDoor
open Go.RowKit (wrap64)
set_option maxRecDepth 100000
set_option maxHeartbeats 4000000

/-- Numbers that the machine may hold. -/
structure MOk (s : MS) : Prop where
  x : ∀ r, I64 (s.x r)
  mem : ∀ k, I64 (s.mem k)
  inp : ∀ z, z ∈ s.inp → I64 z
/-- What the machine goes by is as it must be. -/
structure COk (C : MC) : Prop where
  len : C.list.length ≤ 40000
  tlen : C.tos.length = C.list.length
  well : ∀ i, i ∈ C.list → (0 ≤ i.d ∧ i.d < 32) ∧ (0 ≤ i.a ∧ i.a < 32) ∧ (0 ≤ i.b ∧ i.b < 32) ∧ I64 i.n ∧ i.name.length ≤ 40
  arr : 0 ≤ C.arrays ∧ C.arrays ≤ 1099511627776
  sin : ∀ s, I64 (C.starts s)
  go : ∀ k, 21 ≤ (insZ C k).op → (insZ C k).op ≤ 26 → 0 ≤ toZ C k ∧ toZ C k ≤ 40000
theorem i64_0 : I64 0 := ⟨by omega, by omega⟩
theorem MOk.setX {s : MS} (h : MOk s) {v : Int} (hv : I64 v) (k : Int) : MOk (s.setX k v) := by
  refine ⟨fun r => ?_, h.mem, h.inp⟩
  show I64 (updN s.x k.toNat v r)
  unfold updN
  split
  · exact hv
  · exact h.x r
theorem MOk.reg {s : MS} (h : MOk s) (k : Int) : I64 (s.reg k) := h.x _
theorem insZ_mem {C : MC} {k : Int} (h0 : 0 ≤ k) (h1 : k < C.list.length) : insZ C k ∈ C.list := by
  unfold insZ
  rw [List.getElem?_eq_getElem (by omega)]
  exact List.getElem_mem _
theorem insZ_n {C : MC} (h : COk C) (k : Int) : I64 (insZ C k).n := by
  unfold insZ
  cases e : C.list[k.toNat]? with
  | none => exact i64_0
  | some i => exact (h.well i (List.mem_of_getElem? e)).2.2.2.1
theorem plainZ_ok {C : MC} (hC : COk C) {s : MS} (h : MOk s) {i : Ins} (hi : I64 i.n) {v : Int} (hv : plainZ C s i = some v) : I64 v := by
  unfold plainZ at hv
  repeat' split at hv
  all_goals first
    | (cases hv; done)
    | (injection hv with hv; subst hv; first | exact flagZ_in _ | exact h.reg _ | exact hi | exact hC.sin _ | exact wrap64_in _ | exact sumZ_in (h.reg _))
theorem after_ok {C : MC} (hC : COk C) {s : MS} (h : MOk s) {i : Ins} (hi : I64 i.n) : MOk (afterZ C s i) := by
  unfold afterZ
  split
  · rename_i v hv
    exact h.setX (plainZ_ok hC h hi hv) _
  · exact h
theorem memZ_ok {C : MC} {s : MS} (h : MOk s) (i : Ins) : MOk (memZ C s i) := by
  unfold memZ
  split
  · exact ⟨h.x, h.mem, h.inp⟩
  · split
    · exact h.setX (h.mem _) _
    · refine ⟨h.x, fun k => ?_, h.inp⟩
      show I64 (updZ s.mem _ _ k)
      unfold updZ
      split
      · exact h.reg _
      · exact h.mem k
theorem ecallZ_ok {s : MS} (h : MOk s) : MOk (ecallZ s) := by
  unfold ecallZ
  repeat' split
  all_goals first
    | exact ⟨h.x, h.mem, h.inp⟩
    | skip
  refine ⟨?_, h.mem, fun z hz => h.inp z (List.mem_of_mem_tail hz)⟩
  have hv : I64 (s.inp.headD (-1)) := by
    cases e : s.inp with
    | nil => exact ⟨by decide, by decide⟩
    | cons z l => exact h.inp z (by rw [e]; exact List.mem_cons_self)
  exact (h.setX hv 10).x
theorem goZ_ok {C : MC} {s : MS} (h : MOk s) (i : Ins) (t : Int) (hp : I64 (4 * s.pl)) : MOk (goZ C s i t) := by
  unfold goZ
  repeat' split
  all_goals first
    | exact memZ_ok h i
    | exact ecallZ_ok h
    | exact ⟨h.x, h.mem, h.inp⟩
    | exact ⟨(h.setX hp 1).x, h.mem, h.inp⟩
    | (unfold backZ; split <;> exact ⟨h.x, h.mem, h.inp⟩)
theorem after_pl (C : MC) (s : MS) (i : Ins) : (afterZ C s i).pl = s.pl := by
  unfold afterZ; split <;> rfl
theorem stepZ_ok {C : MC} (hC : COk C) {s : MS} (h : MOk s) (hp : 0 ≤ s.pl ∧ s.pl ≤ 40000) : MOk (stepZ C s) := by
  unfold stepZ
  refine MOk.setX ?_ i64_0 0
  have h0 : MOk { s with pl := s.pl + 1 } := ⟨h.x, h.mem, h.inp⟩
  refine goZ_ok (after_ok hC h0 (insZ_n hC _)) _ _ ?_
  rw [after_pl]
  unfold I64; dsimp only; omega
theorem goZ_pl {C : MC} {s : MS} {i : Ins} {t : Int} (hl : C.list.length ≤ 40000) (h : 0 ≤ s.pl ∧ s.pl ≤ 40000) (ht : 21 ≤ i.op → i.op ≤ 26 → 0 ≤ t ∧ t ≤ 40000) : 0 ≤ (goZ C s i t).pl ∧ (goZ C s i t).pl ≤ 40000 := by
  unfold goZ
  split
  · unfold memZ
    repeat' split
    all_goals exact h
  · split
    · rename_i h2
      split
      · exact ht h2.1 (by omega)
      · exact h
    · split
      · rename_i h3
        exact ht (by omega) (by omega)
      · split
        · unfold backZ
          split
          · exact h
          · rename_i hb
            dsimp only
            have : ¬ ((s.reg 1).tdiv 4 < 1) := fun e => hb (.inr (.inl e))
            have : ¬ ((C.list.length : Int) < (s.reg 1).tdiv 4) := fun e => hb (.inr (.inr (.inl e)))
            omega
        · split
          · unfold ecallZ
            repeat' split
            all_goals exact h
          · exact h
theorem stepZ_pl {C : MC} (hC : COk C) {s : MS} (hp : 0 ≤ s.pl ∧ s.pl < C.list.length) : 0 ≤ (stepZ C s).pl ∧ (stepZ C s).pl ≤ 40000 := by
  have hl := hC.len
  show 0 ≤ (goZ C (afterZ C { s with pl := s.pl + 1 } (insZ C s.pl)) (insZ C s.pl) (toZ C s.pl)).pl ∧ (goZ C (afterZ C { s with pl := s.pl + 1 } (insZ C s.pl)) (insZ C s.pl) (toZ C s.pl)).pl ≤ 40000
  refine goZ_pl hl ?_ (hC.go s.pl)
  rw [after_pl]; dsimp only; omega
/-- What a step never changes, or by how much it does. -/
theorem after_rest (C : MC) (s : MS) (i : Ins) : (afterZ C s i).steps = s.steps ∧ (afterZ C s i).out = s.out ∧ (afterZ C s i).st = s.st ∧ (afterZ C s i).code = s.code ∧ (afterZ C s i).mem = s.mem ∧ (afterZ C s i).inp = s.inp := by
  unfold afterZ; split <;> exact ⟨rfl, rfl, rfl, rfl, rfl, rfl⟩
theorem goZ_steps (C : MC) (s : MS) (i : Ins) (t : Int) : (goZ C s i t).steps = s.steps := by
  unfold goZ memZ backZ ecallZ
  repeat' split
  all_goals rfl
theorem stepZ_steps (C : MC) (s : MS) : (stepZ C s).steps = s.steps := by
  show (goZ C _ _ _).steps = _
  rw [goZ_steps, (after_rest _ _ _).1]
end Go.Proofs.YtpgjfpphigeliaaGreatDoor

namespace Go.Proofs.YtpgjfpphigeliaaGreatDoor
open Go.RowKit
set_option maxHeartbeats 4000000
set_option maxRecDepth 100000

def regCells (x : Nat → Int) : List Value := (List.range 32).map fun r => .int .i64 (x r)
def mCells (va vl vL vT : Value) (x : Nat → Int) (ar : Int) (Bw Bs : Nat) (vin : Value) (pl st code : Int) (vout : Value) (steps : Int) : List Value :=
  [va, vl, vL, vT] ++ (regCells x ++ [.int .i64 ar, .map (some Bw), .map (some Bs), vin, .int .i64 pl, .int .i64 st, .int .i64 code, vout, .int .i64 steps])
theorem reg_at (x : Nat → Int) (r : Nat) (h : r < 32) : (regCells x)[r]? = some (.int .i64 (x r)) := by
  unfold regCells
  rw [List.getElem?_map, List.getElem?_range h]; rfl
theorem reg_len (x : Nat → Int) : (regCells x).length = 32 := by unfold regCells; simp
theorem reg_set (x : Nat → Int) (r : Nat) (v : Int) : (regCells x).set r (.int .i64 v) = regCells (updN x r v) := by
  apply List.ext_getElem?
  intro i
  by_cases hi : i < 32
  · rw [reg_at _ i hi]
    by_cases e : r = i
    · subst e
      rw [List.getElem?_set_self (by rw [reg_len]; exact hi)]
      unfold updN
      rw [if_pos rfl]
    · rw [List.getElem?_set_ne e, reg_at _ i hi]
      unfold updN
      rw [if_neg (fun h => e h.symm)]
  · rw [List.getElem?_eq_none (by rw [List.length_set, reg_len]; omega), List.getElem?_eq_none (by rw [reg_len]; omega)]
section
variable (va vl vL vT : Value) (x : Nat → Int) (ar : Int) (Bw Bs : Nat) (vin : Value) (pl st code : Int) (vout : Value) (steps : Int)
theorem mc_reg (r : Nat) (h : r < 32) : (mCells va vl vL vT x ar Bw Bs vin pl st code vout steps)[4 + r]? = some (.int .i64 (x r)) := by
  unfold mCells
  rw [List.getElem?_append_right (by simp), List.getElem?_append_left (by rw [reg_len]; simp; omega)]
  rw [← reg_at x r h]; congr 1; simp
theorem mc_setr (r : Nat) (h : r < 32) (v : Int) : (mCells va vl vL vT x ar Bw Bs vin pl st code vout steps).set (4 + r) (.int .i64 v) = mCells va vl vL vT (updN x r v) ar Bw Bs vin pl st code vout steps := by
  unfold mCells
  rw [List.set_append_right _ _ (by simp), List.set_append_left _ _ (by rw [reg_len]; simp; omega)]
  rw [← reg_set x r v]; congr 3; simp
theorem mc_tail (j : Nat) : (mCells va vl vL vT x ar Bw Bs vin pl st code vout steps)[36 + j]? = ([.int .i64 ar, .map (some Bw), .map (some Bs), vin, .int .i64 pl, .int .i64 st, .int .i64 code, vout, .int .i64 steps] : List Value)[j]? := by
  unfold mCells
  rw [List.getElem?_append_right (by simp; omega), List.getElem?_append_right (by rw [reg_len]; simp; omega), reg_len]
  congr 1; simp; omega
theorem mc_set_tail (j : Nat) (v : Value) : (mCells va vl vL vT x ar Bw Bs vin pl st code vout steps).set (36 + j) v = [va, vl, vL, vT] ++ (regCells x ++ ([.int .i64 ar, .map (some Bw), .map (some Bs), vin, .int .i64 pl, .int .i64 st, .int .i64 code, vout, .int .i64 steps] : List Value).set j v) := by
  unfold mCells
  rw [List.set_append_right _ _ (by simp; omega), List.set_append_right _ _ (by rw [reg_len]; simp; omega), reg_len]
  congr 3; simp; omega
theorem mc_in (v : Value) : (mCells va vl vL vT x ar Bw Bs vin pl st code vout steps).set 39 v = mCells va vl vL vT x ar Bw Bs v pl st code vout steps := mc_set_tail _ _ _ _ _ _ _ _ _ _ _ _ _ _ 3 v
theorem mc_pl (v : Int) : (mCells va vl vL vT x ar Bw Bs vin pl st code vout steps).set 40 (.int .i64 v) = mCells va vl vL vT x ar Bw Bs vin v st code vout steps := mc_set_tail _ _ _ _ _ _ _ _ _ _ _ _ _ _ 4 _
theorem mc_st (v : Int) : (mCells va vl vL vT x ar Bw Bs vin pl st code vout steps).set 41 (.int .i64 v) = mCells va vl vL vT x ar Bw Bs vin pl v code vout steps := mc_set_tail _ _ _ _ _ _ _ _ _ _ _ _ _ _ 5 _
theorem mc_code (v : Int) : (mCells va vl vL vT x ar Bw Bs vin pl st code vout steps).set 42 (.int .i64 v) = mCells va vl vL vT x ar Bw Bs vin pl st v vout steps := mc_set_tail _ _ _ _ _ _ _ _ _ _ _ _ _ _ 6 _
theorem mc_out (v : Value) : (mCells va vl vL vT x ar Bw Bs vin pl st code vout steps).set 43 v = mCells va vl vL vT x ar Bw Bs vin pl st code v steps := mc_set_tail _ _ _ _ _ _ _ _ _ _ _ _ _ _ 7 v
theorem mc_steps (v : Int) : (mCells va vl vL vT x ar Bw Bs vin pl st code vout steps).set 44 (.int .i64 v) = mCells va vl vL vT x ar Bw Bs vin pl st code vout v := mc_set_tail _ _ _ _ _ _ _ _ _ _ _ _ _ _ 8 _
end
/-- Numbers to be read, in a slice that has room for them. -/
structure InpAt (w : World) (L : List Int) (v : Value) : Prop where
  at' : NumsAt w L v
  cap : ∃ a n c, v = .slice a n c ∧ n ≤ c ∧ c ≤ 9223372036854775807
theorem InpAt.tail {w : World} {z : Int} {L : List Int} {b off c : Nat} (h : InpAt w (z :: L) (.slice (some ⟨b, off, none⟩) (L.length + 1) c)) : InpAt w L (.slice (some ⟨b, off + 1, none⟩) L.length (c - 1)) := by
  obtain ⟨h1, h2⟩ := h
  obtain ⟨a, c', b', off', e1, e2, e3, e4⟩ := h1
  obtain ⟨a2, n2, c2, e5, e6, e7⟩ := h2
  cases e1
  cases e5
  rcases e2 with e2 | e2
  · simp at e2
  · cases e2
    refine ⟨⟨_, _, b, off + 1, rfl, .inr rfl, by simp at e3; omega, fun i p hi q u hq => ?_⟩, ⟨_, _, _, rfl, by omega, by omega⟩⟩
    have := e4 (i + 1) p (by simpa using hi) q u hq
    rw [← this]; congr 2; omega
theorem InpAt.tail2 {w : World} {z : Int} {L : List Int} {b off c : Nat} (h : InpAt w (z :: L) (.slice (some ⟨b, off, none⟩) (L.length + 1) c)) : InpAt w L (.slice (if c = 1 then some ⟨b, off, none⟩ else some ⟨b, off + 1, none⟩) L.length (c - 1)) := by
  by_cases hc : c = 1
  · rw [if_pos hc]
    obtain ⟨a2, n2, c2, e5, e6, e7⟩ := h.cap
    cases e5
    have hl : L = [] := List.eq_nil_of_length_eq_zero (by omega)
    subst hl
    exact ⟨⟨_, _, b, off, rfl, .inl rfl, by decide, fun i p hi => by simp at hi⟩, ⟨_, _, _, rfl, by simp, by omega⟩⟩
  · rw [if_neg hc]
    exact h.tail
/-- What of a run stays. -/
structure MKon where
  W0 : World
  W1 : World
  M : Nat
  Bw : Nat
  Bs : Nat
  base : Nat
  va : Value
  vl : Value
  vL : Value
  vT : Value
  C : MC
/-- What the machine goes by lies in memory, and is as it must be. -/
structure MFix (K : MKon) : Prop where
  list : InsOwn K.W1 K.base K.C.list K.vL
  tos : NumsOwn K.W1 K.base K.C.tos K.vT
  starts : ∃ f n, MapIs K.W1 K.Bs n f ∧ ∀ s, (f s).getD 0 = K.C.starts s
  m0 : K.W0.heap.size ≤ K.M
  w0 : K.W0.heap.size ≤ K.Bw
  mb : K.M < K.base
  wb : K.Bw < K.base
  sb : K.Bs < K.base
  b1 : K.base ≤ K.W1.heap.size
  mw : K.M ≠ K.Bw
  ms : K.M ≠ K.Bs
  ws : K.Bw ≠ K.Bs
  old : Below K.W0.heap.size K.W0 K.W1
  ok : COk K.C
/-- All blocks but the machine's and its words' stay. -/
structure MFr (K : MKon) (w : World) : Prop where
  os : w.os = K.W1.os
  tape : w.tape = K.W1.tape
  output : w.output = K.W1.output
  size : K.W1.heap.size ≤ w.heap.size
  block : ∀ k, k < K.W1.heap.size → k ≠ K.M → k ≠ K.Bw → w.heap[k]? = K.W1.heap[k]?
theorem MFr.refl (K : MKon) : MFr K K.W1 := ⟨rfl, rfl, rfl, Nat.le_refl _, fun _ _ _ _ => rfl⟩
theorem MFr.old {K : MKon} {w w' : World} (h : MFr K w) (hb : Below w.heap.size w w') : MFr K w' :=
  ⟨hb.os.trans h.os, hb.tape.trans h.tape, hb.output.trans h.output, Nat.le_trans h.size hb.size, fun k hk h1 h2 => (hb.block k (Nat.lt_of_lt_of_le hk h.size)).trans (h.block k hk h1 h2)⟩
theorem MFr.set {K : MKon} {w : World} (h : MFr K w) (i : Nat) (v : Value) : MFr K (w.setCell ⟨K.M, i, none⟩ v) :=
  ⟨h.os, h.tape, h.output, by have := h.size; simpa using this, fun k hk h1 h2 => (Below.heap_setCell _ _ _ _ h1).trans (h.block k hk h1 h2)⟩
theorem MFr.word {K : MKon} {w w' : World} (h : MFr K w) (hg : w.grownBy w' (some K.Bw)) : MFr K w' :=
  ⟨hg.os.trans h.os, hg.tape.trans h.tape, hg.output.trans h.output, Nat.le_trans h.size hg.size, fun k hk h1 h2 => (hg.block k (Nat.lt_of_lt_of_le hk h.size) (fun e => h2 (by injection e))).trans (h.block k hk h1 h2)⟩
theorem MFr.grow {K : MKon} {w w' : World} (h : MFr K w) {row : Option Nat} (hg : w.grownBy w' row) (hr : ∀ k, row = some k → K.W1.heap.size ≤ k) : MFr K w' :=
  ⟨hg.os.trans h.os, hg.tape.trans h.tape, hg.output.trans h.output, Nat.le_trans h.size hg.size, fun k hk h1 h2 => (hg.block k (Nat.lt_of_lt_of_le hk h.size) (fun e => by have := hr k e.symm; omega)).trans (h.block k hk h1 h2)⟩
theorem MFr.row {K : MKon} {w : World} (h : MFr K w) {α : Type} {e : TypeId} {cf : α → List Value} {k base : Nat} {L : List α} {v : Value} (hv : RwOwn e cf k K.W1 base L v) (h1 : K.M < base) (h2 : K.Bw < base) : RwOwn e cf k w base L v := by
  refine ⟨hv.1, ?_⟩
  rcases hv.2 with hn | ⟨g, cap, cur, rfl, hg, hh, r⟩
  · exact .inl hn
  · have hlt := RwOwn.lt hv g rfl
    refine .inr ⟨g, cap, cur, rfl, hg, ?_, r⟩
    rw [h.block g hlt.2 (by omega) (by omega)]; exact hh
theorem MFr.below {K : MKon} {w : World} (h : MFr K w) (hf : MFix K) : Below K.W0.heap.size K.W0 w :=
  ⟨h.os.trans hf.old.os, h.tape.trans hf.old.tape, h.output.trans hf.old.output, Nat.le_trans hf.old.size h.size, fun k hk => by
    have h1 := hf.m0; have h2 := hf.w0; have h3 := hf.old.size
    exact (h.block k (by omega) (by omega) (by omega)).trans (hf.old.block k hk)⟩
/-- The machine, its words, what it has told. -/
structure MAt (K : MKon) (k : Nat) (s : MS) (w : World) : Prop where
  m : ∃ vin vout, OwnAt w K.M (mCells K.va K.vl K.vL K.vT s.x K.C.arrays K.Bw K.Bs vin s.pl s.st s.code vout s.steps) 67 ∧ InpAt K.W0 s.inp vin ∧ NumsOwn w K.W1.heap.size s.out vout
  mem : ∃ f n, n ≤ k ∧ ZMapIs w K.Bw n f ∧ ∀ j, (f j).getD 0 = s.mem j
  fr : MFr K w
  told : s.out.length ≤ k
theorem MAt.old {K : MKon} {k : Nat} {s : MS} {w w' : World} (h : MAt K k s w) (hb : Below w.heap.size w w') : MAt K k s w' := by
  obtain ⟨vin, vout, h1, h2, h3⟩ := h.m
  obtain ⟨f, n, g1, g2, g3⟩ := h.mem
  exact ⟨⟨vin, vout, h1.old hb, h2, RwOwn.old h3 hb⟩, ⟨f, n, g1, g2.old hb, g3⟩, h.fr.old hb, h.told⟩
theorem MAt.mono {K : MKon} {k j : Nat} {s : MS} {w : World} (h : MAt K k s w) (hj : k ≤ j) : MAt K j s w := by
  obtain ⟨f, n, g1, g2, g3⟩ := h.mem
  exact ⟨h.m, ⟨f, n, Nat.le_trans g1 hj, g2, g3⟩, h.fr, Nat.le_trans h.told hj⟩
/-- A cell of the machine is written. -/
theorem MAt.put {K : MKon} {k : Nat} {s s' : MS} {w : World} (hf : MFix K) (h : MAt K k s w) {vin vout : Value} (h1 : OwnAt w K.M (mCells K.va K.vl K.vL K.vT s.x K.C.arrays K.Bw K.Bs vin s.pl s.st s.code vout s.steps) 67) (h2 : InpAt K.W0 s.inp vin) (h3 : NumsOwn w K.W1.heap.size s.out vout)
    (i : Nat) (v vin' vout' : Value) (hc : (mCells K.va K.vl K.vL K.vT s.x K.C.arrays K.Bw K.Bs vin s.pl s.st s.code vout s.steps).set i v = mCells K.va K.vl K.vL K.vT s'.x K.C.arrays K.Bw K.Bs vin' s'.pl s'.st s'.code vout' s'.steps)
    (hi : InpAt K.W0 s'.inp vin') (ho : vout' = vout) (hm : s'.mem = s.mem) (hos : s'.out = s.out) : MAt K k s' (w.setCell ⟨K.M, i, none⟩ v) := by
  subst ho
  obtain ⟨f, n, g1, g2, g3⟩ := h.mem
  have hx := h1.set i v
  rw [hc] at hx
  have := hf.mw
  have hb := hf.b1
  have hmb := hf.mb
  refine ⟨⟨vin', vout', hx, hi, ?_⟩, ⟨f, n, g1, g2.set (fun e => this e.symm) i v, by rw [hm]; exact g3⟩, h.fr.set i v, by rw [hos]; exact h.told⟩
  rw [hos]
  exact RwOwn.set h3 (fun e => by have := (RwOwn.lt h3 _ e).1; omega) i v
end Go.Proofs.YtpgjfpphigeliaaGreatDoor

namespace Go.Proofs.YtpgjfpphigeliaaGreatDoor
open Go.RowKit
set_option maxHeartbeats 4000000
set_option maxRecDepth 100000

theorem rem8 (z : Int) : z.tmod 8 = 0 ↔ z % 8 = 0 := by
  rw [← Int.dvd_iff_tmod_eq_zero, ← Int.dvd_iff_emod_eq_zero]
theorem number_any (p ar : Int) (h0 : 0 ≤ ar) (h1 : ar ≤ 1099511627776) (hp : I64 p) (w : World) :
    Calls Tryz.prog 37 #[.int .i64 p, .int .i64 ar] w fun e w' => e = .returned (.int .i64 (numberZ p ar)) ∧ w = w' := by
  obtain ⟨hp1, hp2⟩ := hp
  unfold numberZ
  have e8 := rem8 p
  by_cases h8 : p % 8 = 0
  · rw [if_neg (fun e => e h8)]
    have t8 : (p.tmod 8 != 0) = false := by simp [e8.2 h8]
    have t8' : (p.tmod 8 == 0) = true := by simp [e8.2 h8]
    by_cases ha : 65536 ≤ p ∧ p < 65536 + 8 * ar
    · rw [if_pos ha]
      obtain ⟨ha1, ha2⟩ := ha
      have hm : p % 8 = 0 := h8
      go_enter Tryz.func37, Tryz.ntmps37
      go_wp2_with fail
      go_ret
      exact ⟨by first | rfl | (simp; done), rfl⟩
    · rw [if_neg ha]
      by_cases hs : 1073709056 ≤ p ∧ p < 1073741824
      · rw [if_pos hs]
        obtain ⟨hs1, hs2⟩ := hs
        have ha2 : ¬ p < 65536 + 8 * ar := fun e => ha ⟨by omega, e⟩
        go_enter Tryz.func37, Tryz.ntmps37
        go_wp2_with fail
        go_ret
        exact ⟨by first | rfl | (simp; done), rfl⟩
      · rw [if_neg hs]
        by_cases ha1 : 65536 ≤ p
        · have ha2 : ¬ p < 65536 + 8 * ar := fun e => ha ⟨ha1, e⟩
          by_cases hs1 : 1073709056 ≤ p
          · have hs2 : ¬ p < 1073741824 := fun e => hs ⟨hs1, e⟩
            go_enter Tryz.func37, Tryz.ntmps37
            go_wp2_with fail
            go_ret
            exact ⟨by first | rfl | (simp; done), rfl⟩
          · go_enter Tryz.func37, Tryz.ntmps37
            go_wp2_with fail
            go_ret
            exact ⟨by first | rfl | (simp; done), rfl⟩
        · have hs1 : ¬ 1073709056 ≤ p := by omega
          go_enter Tryz.func37, Tryz.ntmps37
          go_wp2_with fail
          go_ret
          exact ⟨by first | rfl | (simp; done), rfl⟩
  · rw [if_pos h8]
    have t8 : (p.tmod 8 != 0) = true := by simp; exact fun e => h8 (e8.1 e)
    have t8' : (p.tmod 8 == 0) = false := by simp; exact fun e => h8 (e8.1 e)
    have t9 : ¬ p.tmod 8 = 0 := fun e => h8 (e8.1 e)
    go_enter Tryz.func37, Tryz.ntmps37
    go_wp2_with fail
    go_ret
    exact ⟨by first | rfl | (simp; done), rfl⟩
theorem numberZ_in (p : Int) {ar : Int} (h0 : 0 ≤ ar) (h1 : ar ≤ 1099511627776) : -9223372036854775808 ≤ numberZ p ar ∧ numberZ p ar ≤ 9223372036854775807 := by
  unfold numberZ
  repeat' split
  all_goals omega
end Go.Proofs.YtpgjfpphigeliaaGreatDoor

namespace Go.Proofs.YtpgjfpphigeliaaGreatDoor
open Go.RowKit
set_option maxHeartbeats 4000000
set_option maxRecDepth 100000

/-- Code that may be, of not too many arrays. -/
structure FineC (c : Cd) : Prop where
  check : (checkC c).1 = 0
  alen : c.arrs.length ≤ 1000
  short : ShortC c
theorem FineC.each {c : Cd} (h : FineC c) : ∀ a, a ∈ c.arrs → 1 ≤ a.size ∧ a.size ≤ 1048576 ∧ a.name.length ≤ 40 ∧ labelB a.name = true := by
  intro a ha
  have hb := arrsE_each (checkC_open h.check).2.1 a ha
  unfold arrBad at hb
  simp only [Bool.or_eq_false_iff, Bool.not_eq_false', decide_eq_false_iff_not] at hb
  exact ⟨by omega, by omega, (label_mem hb.1).2.2, hb.1⟩
theorem mright_any (c : Cd) (va vl : Value) (w : World) (hc : CodeAt w c va vl) (hs : ShortC c) :
    Calls Tryz.prog 27 #[.agg #[va, vl]] w fun e w' => e = .returned (.bool ((checkC c).1 == 0)) ∧ Below w.heap.size w w' := by
  have HB := Lib.hid ((Below.refl w.heap.size w).alloc (Nat.le_refl _) (.cells #[va, vl] 27))
  have HC := Lib.hid (hc.old HB.out)
  have HO := Lib.hid (OwnAt.new w [va, vl] 27)
  obtain ⟨a, cap, rfl⟩ := RwAt.shape hc.2
  obtain ⟨a2, cap2, rfl⟩ := RwAt.shape hc.1
  have HCH := Lib.hid (check_any c _ _ _ HC.out hs)
  generalize (checkC c).1 = z1 at *
  generalize (checkC c).2 = z2 at *
  clear hc hs
  have d0 := HO.out.at 0 _ rfl
  have d1 := HO.out.at 1 _ rfl
  go_enter Tryz.func27, Tryz.ntmps27
  go_wp2_with fail
  refine (HCH.out).mono ?_
  rintro e w5 ⟨rfl, hb5⟩
  have HB5 := Lib.hid (HB.out.trans (hb5.mono HB.out.size))
  clear hb5
  go_wp2_with fail
  go_ret
  exact ⟨by first | rfl | (simp; done), HB5.out⟩
theorem sizeZ_snoc (l : List Ar) (x : Ar) : sizeZ (l ++ [x]) = sizeZ l + x.size := by
  induction l with
  | nil => simp [sizeZ]
  | cons y l ih => rw [List.cons_append]; unfold sizeZ; rw [ih]; omega
theorem sizeZ_le {l : List Ar} (h : ∀ a, a ∈ l → 1 ≤ a.size ∧ a.size ≤ 1048576) : 0 ≤ sizeZ l ∧ sizeZ l ≤ l.length * 1048576 := by
  induction l with
  | nil => exact ⟨Int.le_refl _, by simp [sizeZ]⟩
  | cons y l ih =>
    have h1 := h y List.mem_cons_self
    have h2 := ih (fun a ha => h a (List.mem_cons_of_mem _ ha))
    unfold sizeZ
    rw [List.length_cons]
    omega
theorem FineC.size {c : Cd} (h : FineC c) (k : Nat) : 0 ≤ sizeZ (c.arrs.take k) ∧ sizeZ (c.arrs.take k) ≤ 1048576000 := by
  have h1 := sizeZ_le (l := c.arrs.take k) (fun a ha => ⟨(h.each a (List.mem_of_mem_take ha)).1, (h.each a (List.mem_of_mem_take ha)).2.1⟩)
  have h2 := List.length_take_le k c.arrs
  have h3 := h.alen
  have h4 := List.length_take_le' k c.arrs
  omega
theorem FineC.total {c : Cd} (h : FineC c) : 0 ≤ sizeZ c.arrs ∧ sizeZ c.arrs ≤ 1048576000 := by
  have := h.size c.arrs.length
  rwa [List.take_length] at this
theorem take_next {α : Type} (l : List α) (k : Nat) (hk : k < l.length) : l.take (k + 1) = l.take k ++ [l[k]] := by rw [List.take_add_one, List.getElem?_eq_getElem hk]; rfl
theorem size_any (c : Cd) (h : FineC c) (va vl : Value) (w : World) (hc : CodeAt w c va vl) :
    Calls Tryz.prog 28 #[.agg #[va, vl]] w fun e w' => e = .returned (.int .i64 (sizeZ c.arrs)) ∧ Below w.heap.size w w' := by
  have HB := Lib.hid ((Below.refl w.heap.size w).alloc (Nat.le_refl _) (.cells #[va, vl] 27))
  have HC := Lib.hid ((hc.old HB.out).1)
  have HO := Lib.hid (OwnAt.new w [va, vl] 27)
  obtain ⟨a, cap, rfl⟩ := RwAt.shape hc.1
  have hl := h.alen
  have hl63 : (c.arrs.length : Int) ≤ 1000 := by omega
  have HS := Lib.hid (fun k => h.size k)
  have HE := Lib.hid h.each
  clear hc h
  have d0 := HO.out.at 0 _ rfl
  have d1 := HO.out.at 1 _ rfl
  have hxl := HO.out.lt
  go_enter Tryz.func28, Tryz.ntmps28
  go_wp2_with fail
  clear d0 d1 hxl
  obtain ⟨W1, hW1⟩ : ∃ W1, (w.alloc (.cells #[.slice a c.arrs.length cap, vl] 27)) = W1 := ⟨_, rfl⟩
  rw [hW1] at HB HC ⊢
  clear hW1 HO
  go_loopw [2, 8] (fun s2 s8 wr => ∃ k : Nat, k ≤ c.arrs.length ∧ s8 = .int .i64 k ∧ s2 = .int .i64 (sizeZ (c.arrs.take k)) ∧ Hid (Below W1.heap.size W1 wr)) (fun _ s8 _ => c.arrs.length - (intOf s8).toNat)
  case atStart => exact ⟨0, Nat.zero_le _, rfl, rfl, Lib.hid (Below.refl _ _)⟩
  case round =>
    obtain ⟨k, hk, rfl, rfl, HBR⟩ := hrel
    obtain ⟨hz0, hz1⟩ := HS.out k
    by_cases hlt : k < c.arrs.length
    · obtain ⟨b, off, rfl, hbl, c0, c1⟩ := ArwAt.at (ArwAt.old HC.out HBR.out) hlt
      have hsn := sizeZ_snoc (c.arrs.take k) c.arrs[k]
      rw [← take_next _ _ hlt] at hsn
      have hsz := HE.out _ (List.getElem_mem hlt)
      have HB2 := Lib.hid (HBR.out.alloc HBR.out.size (.cells #[.string (strOf c.arrs[k].name), .int .i64 c.arrs[k].size] 37))
      obtain ⟨x, hx⟩ : ∃ x, c.arrs[k] = x := ⟨_, rfl⟩
      rw [hx] at c0 c1 hsn hsz HB2
      clear hx
      obtain ⟨nm, sz⟩ := x
      dsimp only at c0 c1 hsn hsz HB2
      obtain ⟨hz2, hz3, _⟩ := hsz
      have HSN := Lib.hid hsn
      generalize sizeZ (c.arrs.take k) = z at *
      clear hsn
      go_wp2_with fail
      exact ⟨⟨k + 1, hlt, by first | rfl | (simp; done) | go_num, by rw [HSN.out], HB2⟩, by simp [intOf]; omega⟩
    · have he : k = c.arrs.length := by omega
      subst he
      rw [List.take_length] at hz0 hz1 ⊢
      obtain ⟨z, hz⟩ : ∃ z, sizeZ c.arrs = z := ⟨_, rfl⟩
      rw [hz] at hz0 hz1 ⊢
      have HZ := Lib.hid hz
      clear hz
      go_wp2_with fail
      go_ret
      exact ⟨by rw [HZ.out]; rfl, HB.out.trans (HBR.out.mono HB.out.size)⟩
theorem where_any (c : Cd) (h : FineC c) (va vl : Value) (p : Int) (hp : I64 p) (w : World) (hc : CodeAt w c va vl) :
    Calls Tryz.prog 20 #[.agg #[va, vl], .int .i64 p] w fun e w' => e = .returned (.int .i64 (numberZ p (sizeZ c.arrs))) ∧ Below w.heap.size w w' := by
  have HB := Lib.hid ((Below.refl w.heap.size w).alloc (Nat.le_refl _) (.cells #[va, vl] 27))
  have HC := Lib.hid (hc.old HB.out)
  have HO := Lib.hid (OwnAt.new w [va, vl] 27)
  obtain ⟨a, cap, rfl⟩ := RwAt.shape hc.2
  obtain ⟨a2, cap2, rfl⟩ := RwAt.shape hc.1
  have HR := Lib.hid (mright_any c _ _ _ HC.out h.short)
  rw [h.check] at HR
  have HZ := Lib.hid (fun w hc => size_any c h (.slice a2 c.arrs.length cap2) (.slice a c.lines.length cap) w hc)
  have ht := h.total
  have HN := Lib.hid (fun w => number_any p (sizeZ c.arrs) ht.1 (by omega) hp w)
  clear hc h ht
  have d0 := HO.out.at 0 _ rfl
  have d1 := HO.out.at 1 _ rfl
  have hxl := HO.out.lt
  go_enter Tryz.func20, Tryz.ntmps20
  go_wp2_with fail
  refine (HR.out).mono ?_
  rintro e w5 ⟨rfl, hb5⟩
  have HB5 := Lib.hid (HB.out.trans (hb5.mono HB.out.size))
  have HC5 := Lib.hid (HC.out.old hb5)
  have HO5 := Lib.hid (HO.out.old hb5)
  clear hb5 d0 d1 hxl HR
  have d0 := HO5.out.at 0 _ rfl
  have d1 := HO5.out.at 1 _ rfl
  have hxl := HO5.out.lt
  go_wp2_with fail
  refine (HZ.out _ HC5.out).mono ?_
  rintro e w6 ⟨rfl, hb6⟩
  have HB6 := Lib.hid (HB5.out.trans (hb6.mono HB5.out.size))
  clear hb6
  go_wp2_with fail
  refine (HN.out _).mono ?_
  rintro e w7 ⟨rfl, rfl⟩
  go_wp2_with fail
  go_ret
  exact ⟨rfl, HB6.out⟩
theorem startZ_app (l m : List Ar) (p : Int) (s : Bs) (h : ∀ a, a ∈ l → a.name ≠ s) : startZ (l ++ m) p s = startZ m (p + 8 * sizeZ l) s := by
  induction l generalizing p with
  | nil => simp [sizeZ]
  | cons y l ih =>
    show (if y.name = s then some p else startZ (l ++ m) (p + 8 * y.size) s) = startZ m (p + 8 * (y.size + sizeZ l)) s
    rw [if_neg (h y List.mem_cons_self), ih _ (fun a ha => h a (List.mem_cons_of_mem _ ha))]
    rw [show p + 8 * y.size + 8 * sizeZ l = p + 8 * (y.size + sizeZ l) by omega]
theorem addr_any (c : Cd) (h : FineC c) (va vl : Value) (s : Bs) (hs : s.length ≤ 9223372036854775807) (w : World) (hc : CodeAt w c va vl) :
    Calls Tryz.prog 19 #[.agg #[va, vl], .string (strOf s)] w fun e w' => e = .returned (.int .i64 (addrZ c s)) ∧ Below w.heap.size w w' := by
  have HB := Lib.hid ((Below.refl w.heap.size w).alloc (Nat.le_refl _) (.cells #[va, vl] 27))
  have HC := Lib.hid (hc.old HB.out)
  have HO := Lib.hid (OwnAt.new w [va, vl] 27)
  obtain ⟨a, cap, rfl⟩ := RwAt.shape hc.1
  obtain ⟨a2, cap2, rfl⟩ := RwAt.shape hc.2
  have HR := Lib.hid (fun w hc => mright_any c (.slice a c.arrs.length cap) (.slice a2 c.lines.length cap2) w hc h.short)
  rw [h.check] at HR
  have hl := h.alen
  have hl63 : (c.arrs.length : Int) ≤ 1000 := by omega
  have HS := Lib.hid (fun k => h.size k)
  have HE := Lib.hid h.each
  clear hc h
  have d0 := HO.out.at 0 _ rfl
  have d1 := HO.out.at 1 _ rfl
  have hxl := HO.out.lt
  go_enter Tryz.func19, Tryz.ntmps19
  go_wp2_with fail
  clear d0 d1 hxl
  obtain ⟨W1, hW1⟩ : ∃ W1, (w.alloc (.cells #[.slice a c.arrs.length cap, .slice a2 c.lines.length cap2] 27)) = W1 := ⟨_, rfl⟩
  rw [hW1] at HB HC HO ⊢
  clear hW1
  obtain ⟨T, hT⟩ : ∃ T, w.heap.size = T := ⟨_, rfl⟩
  rw [hT] at HO ⊢
  go_loopw [5, 11] (fun s5 s11 wr => ∃ k : Nat, k ≤ c.arrs.length ∧ s11 = .int .i64 k ∧ s5 = .int .i64 (65536 + 8 * sizeZ (c.arrs.take k)) ∧ (∀ x, x ∈ c.arrs.take k → x.name ≠ s) ∧ Hid (Below W1.heap.size W1 wr)) (fun _ s11 _ => c.arrs.length - (intOf s11).toNat)
  case atStart => exact ⟨0, Nat.zero_le _, rfl, rfl, fun x hx => (by cases hx), Lib.hid (Below.refl _ _)⟩
  case round =>
    obtain ⟨k, hk, rfl, rfl, hno, HBR⟩ := hrel
    have HNO := Lib.hid hno
    clear hno
    obtain ⟨hz0, hz1⟩ := HS.out k
    by_cases hlt : k < c.arrs.length
    · obtain ⟨b, off, rfl, hbl, c0, c1⟩ := ArwAt.at (HC.out.old HBR.out).1 hlt
      have hsn := sizeZ_snoc (c.arrs.take k) c.arrs[k]
      have htk := take_next _ _ hlt
      rw [← htk] at hsn
      have hsz := HE.out _ (List.getElem_mem hlt)
      have hdr : c.arrs = c.arrs.take k ++ c.arrs[k] :: c.arrs.drop (k + 1) := by
        rw [List.getElem_cons_drop, List.take_append_drop]
      have HOR := Lib.hid (HO.out.old HBR.out)
      have HCR := Lib.hid (HC.out.old HBR.out)
      have HBT := Lib.hid (HB.out.trans (HBR.out.mono HB.out.size))
      have hal : Below wr.heap.size wr (wr.alloc (.cells #[.string (strOf c.arrs[k].name), .int .i64 c.arrs[k].size] 37)) := (Below.refl _ _).alloc (Nat.le_refl _) _
      have HB2 := Lib.hid (HBR.out.trans (hal.mono HBR.out.size))
      have HA2 := Lib.hid (HBT.out.trans (hal.mono HBT.out.size))
      have HC2 := Lib.hid (HCR.out.old hal)
      have HO2 := Lib.hid (HOR.out.old hal)
      have HX2 := Lib.hid (OwnAt.new wr [.string (strOf c.arrs[k].name), .int .i64 c.arrs[k].size] 37)
      clear hal HCR HOR
      obtain ⟨x, hx⟩ : ∃ x, c.arrs[k] = x := ⟨_, rfl⟩
      rw [hx] at c0 c1 hsn hsz HB2 HA2 HC2 HO2 HX2 hdr htk
      clear hx
      obtain ⟨nm, sz⟩ := x
      dsimp only at c0 c1 hsn hsz HB2 HA2 HC2 HO2 HX2
      obtain ⟨hz2, hz3, hz4, _⟩ := hsz
      have HSN := Lib.hid hsn
      have HTK := Lib.hid htk
      have HDR := Lib.hid hdr
      clear hsn htk hdr
      have d0 := HO2.out.at 0 _ rfl
      have d1 := HO2.out.at 1 _ rfl
      by_cases hnm : nm = s
      · have HAD : Hid (addrZ c s = 65536 + 8 * sizeZ (c.arrs.take k)) := Lib.hid (by
          have e : startZ c.arrs 65536 s = startZ (c.arrs.take k ++ ⟨nm, sz⟩ :: c.arrs.drop (k + 1)) 65536 s := congrArg (fun l => startZ l 65536 s) HDR.out
          rw [startZ_app _ _ _ _ HNO.out] at e
          unfold addrZ
          rw [e]
          show (if nm = s then some (65536 + 8 * sizeZ (c.arrs.take k)) else _).getD (-1) = _
          rw [if_pos hnm]; rfl)
        subst hnm
        generalize sizeZ (c.arrs.take k) = z at *
        go_wp2_with fail
        refine (HR.out _ HC2.out).mono ?_
        rintro e w5 ⟨rfl, hb5⟩
        have HB5 := Lib.hid (HA2.out.trans (hb5.mono HA2.out.size))
        clear hb5
        go_wp2_with fail
        go_ret
        exact ⟨by rw [HAD.out]; rfl, HB5.out⟩
      · have hnb : (nm == s) = false := beq_eq_false_iff_ne.2 hnm
        generalize hz : sizeZ (c.arrs.take k) = z at *
        go_wp2_with fail
        refine ⟨⟨k + 1, hlt, by first | rfl | (simp; done) | go_num, by rw [HSN.out]; first | rfl | (congr 2; omega) | (congr 1; omega), ?_, HB2⟩, by simp [intOf]; omega⟩
        intro y hy
        rw [HTK.out] at hy
        rcases List.mem_append.1 hy with hy | hy
        · exact HNO.out y hy
        · rw [List.mem_singleton.1 hy]; exact hnm
    · have he : k = c.arrs.length := by omega
      subst he
      rw [List.take_length] at HNO ⊢
      have HAD : Hid (addrZ c s = -1) := Lib.hid (by
        have := startZ_app c.arrs [] 65536 s HNO.out
        rw [List.append_nil] at this
        unfold addrZ
        rw [this]; rfl)
      clear hz0 hz1
      generalize sizeZ c.arrs = z
      go_wp2_with fail
      go_ret
      exact ⟨by rw [HAD.out]; rfl, HB.out.trans (HBR.out.mono HB.out.size)⟩
end Go.Proofs.YtpgjfpphigeliaaGreatDoor

namespace Go.Proofs.YtpgjfpphigeliaaGreatDoor
open Go.RowKit
set_option maxHeartbeats 4000000
set_option maxRecDepth 100000

theorem mflag_any (b : Bool) (w : World) :
    Calls Tryz.prog 74 #[.bool b] w fun e w' => e = .returned (.int .i64 (flagZ b)) ∧ w = w' := by
  cases b
  all_goals
    go_enter Tryz.func74, Tryz.ntmps74
    go_wp2_with fail
    go_ret
    exact ⟨rfl, rfl⟩
theorem div_any (a b : Int) (w : World) :
    Calls Tryz.prog 21 #[.int .i64 a, .int .i64 b] w fun e w' => e = .returned (.int .i64 (divZ a b)) ∧ w = w' := by
  unfold divZ
  by_cases hb : b = 0
  · subst hb
    go_enter Tryz.func21, Tryz.ntmps21
    go_wp2_with fail
    go_ret
    exact ⟨rfl, rfl⟩
  · rw [if_neg hb]
    have hb' : (b == 0) = false := beq_eq_false_iff_ne.2 hb
    go_enter Tryz.func21, Tryz.ntmps21
    go_wp2_with fail
    go_ret
    exact ⟨rfl, rfl⟩
theorem rem_any (a b : Int) (w : World) :
    Calls Tryz.prog 22 #[.int .i64 a, .int .i64 b] w fun e w' => e = .returned (.int .i64 (remZ a b)) ∧ w = w' := by
  unfold remZ
  by_cases hb : b = 0
  · subst hb
    go_enter Tryz.func22, Tryz.ntmps22
    go_wp2_with fail
    go_ret
    exact ⟨rfl, rfl⟩
  · rw [if_neg hb]
    have hb' : (b == 0) = false := beq_eq_false_iff_ne.2 hb
    go_enter Tryz.func22, Tryz.ntmps22
    go_wp2_with fail
    go_ret
    exact ⟨rfl, rfl⟩
theorem less_any (a b : Int) (w : World) :
    Calls Tryz.prog 23 #[.int .i64 a, .int .i64 b] w fun e w' => e = .returned (.bool (lessZ a b)) ∧ w = w' := by
  unfold lessZ
  go_enter Tryz.func23, Tryz.ntmps23
  go_wp2_with fail
  go_ret
  exact ⟨by first | rfl | (simp; done), rfl⟩
theorem bits_and (b : Int) : bits .and .i64 b 63 = andZ b 63 := rfl
theorem run_shl (a b : Int) (w : World) : (Op.shift .shl .i64 a .i64 (bits .and .i64 b 63)).run Tryz.prog w = .ok (.int .i64 (shlZ a b)) w := by
  rw [bits_and]
  have h := andZ63 b
  unfold Op.shift
  rw [if_neg (by omega)]
  show Result.ok (Value.int .i64 (IntKind.i64.wrap (a * 2 ^ (min (andZ b 63).toNat 64)))) w = _
  rw [Nat.min_eq_left (by omega), IntKind.wrap_i64]; unfold shlZ; simp only [wrap64]
theorem run_shr (a b : Int) (w : World) : (Op.shift .shr .i64 a .i64 (bits .and .i64 b 63)).run Tryz.prog w = .ok (.int .i64 (shrZ a b)) w := by
  rw [bits_and]
  have h := andZ63 b
  unfold Op.shift
  rw [if_neg (by omega)]
  show Result.ok (Value.int .i64 (a.fdiv (2 ^ (min (andZ b 63).toNat 64)))) w = _
  rw [Nat.min_eq_left (by omega)]; rfl
theorem sum_1 (a b : Int) (ha : I64 a) (hb : I64 b) (w : World) :
    Calls Tryz.prog 75 #[.int .i64 1, .int .i64 a, .int .i64 b] w fun e w' => e = .returned (.int .i64 (wrap64 (a + b))) ∧ w = w' := by
  obtain ⟨a1, a2⟩ := ha
  obtain ⟨b1, b2⟩ := hb
  go_enter Tryz.func75, Tryz.ntmps75
  go_wp2_with fail
  go_ret
  exact ⟨by first | rfl | (simp; done), rfl⟩
theorem sum_2 (a b : Int) (ha : I64 a) (hb : I64 b) (w : World) :
    Calls Tryz.prog 75 #[.int .i64 2, .int .i64 a, .int .i64 b] w fun e w' => e = .returned (.int .i64 (wrap64 (a - b))) ∧ w = w' := by
  obtain ⟨a1, a2⟩ := ha
  obtain ⟨b1, b2⟩ := hb
  go_enter Tryz.func75, Tryz.ntmps75
  go_wp2_with fail
  go_ret
  exact ⟨by first | rfl | (simp; done), rfl⟩
theorem sum_3 (a b : Int) (ha : I64 a) (hb : I64 b) (w : World) :
    Calls Tryz.prog 75 #[.int .i64 3, .int .i64 a, .int .i64 b] w fun e w' => e = .returned (.int .i64 (wrap64 (a * b))) ∧ w = w' := by
  obtain ⟨a1, a2⟩ := ha
  obtain ⟨b1, b2⟩ := hb
  go_enter Tryz.func75, Tryz.ntmps75
  go_wp2_with fail
  go_ret
  exact ⟨by first | rfl | (simp; done), rfl⟩
theorem sum_4 (a b : Int) (ha : I64 a) (hb : I64 b) (w : World) :
    Calls Tryz.prog 75 #[.int .i64 4, .int .i64 a, .int .i64 b] w fun e w' => e = .returned (.int .i64 (divZ a b)) ∧ w = w' := by
  obtain ⟨a1, a2⟩ := ha
  obtain ⟨b1, b2⟩ := hb
  go_enter Tryz.func75, Tryz.ntmps75
  go_wp2_with fail
  refine (div_any a b _).mono ?_
  rintro e w1 ⟨rfl, rfl⟩
  go_wp2_with fail
  go_ret
  exact ⟨by first | rfl | (simp; done), rfl⟩
theorem sum_5 (a b : Int) (ha : I64 a) (hb : I64 b) (w : World) :
    Calls Tryz.prog 75 #[.int .i64 5, .int .i64 a, .int .i64 b] w fun e w' => e = .returned (.int .i64 (remZ a b)) ∧ w = w' := by
  obtain ⟨a1, a2⟩ := ha
  obtain ⟨b1, b2⟩ := hb
  go_enter Tryz.func75, Tryz.ntmps75
  go_wp2_with fail
  refine (rem_any a b _).mono ?_
  rintro e w1 ⟨rfl, rfl⟩
  go_wp2_with fail
  go_ret
  exact ⟨by first | rfl | (simp; done), rfl⟩
theorem sum_6 (a b : Int) (ha : I64 a) (hb : I64 b) (w : World) :
    Calls Tryz.prog 75 #[.int .i64 6, .int .i64 a, .int .i64 b] w fun e w' => e = .returned (.int .i64 (andZ a b)) ∧ w = w' := by
  obtain ⟨a1, a2⟩ := ha
  obtain ⟨b1, b2⟩ := hb
  go_enter Tryz.func75, Tryz.ntmps75
  go_wp2_with fail
  go_ret
  exact ⟨by first | rfl | (simp; done), rfl⟩
theorem sum_7 (a b : Int) (ha : I64 a) (hb : I64 b) (w : World) :
    Calls Tryz.prog 75 #[.int .i64 7, .int .i64 a, .int .i64 b] w fun e w' => e = .returned (.int .i64 (orZ a b)) ∧ w = w' := by
  obtain ⟨a1, a2⟩ := ha
  obtain ⟨b1, b2⟩ := hb
  go_enter Tryz.func75, Tryz.ntmps75
  go_wp2_with fail
  go_ret
  exact ⟨by first | rfl | (simp; done), rfl⟩
theorem sum_8 (a b : Int) (ha : I64 a) (hb : I64 b) (w : World) :
    Calls Tryz.prog 75 #[.int .i64 8, .int .i64 a, .int .i64 b] w fun e w' => e = .returned (.int .i64 (xorZ a b)) ∧ w = w' := by
  obtain ⟨a1, a2⟩ := ha
  obtain ⟨b1, b2⟩ := hb
  go_enter Tryz.func75, Tryz.ntmps75
  go_wp2_with fail
  go_ret
  exact ⟨by first | rfl | (simp; done), rfl⟩
theorem sum_9 (a b : Int) (ha : I64 a) (hb : I64 b) (w : World) :
    Calls Tryz.prog 75 #[.int .i64 9, .int .i64 a, .int .i64 b] w fun e w' => e = .returned (.int .i64 (shlZ a b)) ∧ w = w' := by
  obtain ⟨a1, a2⟩ := ha
  obtain ⟨b1, b2⟩ := hb
  have hsh := fun w => run_shl a b w
  go_enter Tryz.func75, Tryz.ntmps75
  go_wp2_with fail
  go_ret
  exact ⟨by first | rfl | (simp; done), rfl⟩
theorem sum_10 (a b : Int) (ha : I64 a) (hb : I64 b) (w : World) :
    Calls Tryz.prog 75 #[.int .i64 10, .int .i64 a, .int .i64 b] w fun e w' => e = .returned (.int .i64 (shrZ a b)) ∧ w = w' := by
  obtain ⟨a1, a2⟩ := ha
  obtain ⟨b1, b2⟩ := hb
  have hsh := fun w => run_shr a b w
  go_enter Tryz.func75, Tryz.ntmps75
  go_wp2_with fail
  go_ret
  exact ⟨by first | rfl | (simp; done), rfl⟩
theorem sum_11 (a b : Int) (ha : I64 a) (hb : I64 b) (w : World) :
    Calls Tryz.prog 75 #[.int .i64 11, .int .i64 a, .int .i64 b] w fun e w' => e = .returned (.int .i64 (flagZ (decide (a < b)))) ∧ w = w' := by
  obtain ⟨a1, a2⟩ := ha
  obtain ⟨b1, b2⟩ := hb
  go_enter Tryz.func75, Tryz.ntmps75
  go_wp2_with fail
  refine (mflag_any _ _).mono ?_
  rintro e w1 ⟨rfl, rfl⟩
  go_wp2_with fail
  go_ret
  exact ⟨by first | rfl | (simp; done), rfl⟩
theorem sum_12 (op a b : Int) (h : ¬ op = 1 ∧ ¬ op = 2 ∧ ¬ op = 3 ∧ ¬ op = 4 ∧ ¬ op = 5 ∧ ¬ op = 6 ∧ ¬ op = 7 ∧ ¬ op = 8 ∧ ¬ op = 9 ∧ ¬ op = 10 ∧ ¬ op = 11) (w : World) :
    Calls Tryz.prog 75 #[.int .i64 op, .int .i64 a, .int .i64 b] w fun e w' => e = .returned (.int .i64 (flagZ (lessZ a b))) ∧ w = w' := by
  obtain ⟨h1, h2, h3, h4, h5, h6, h7, h8, h9, h10, h11⟩ := h
  have e1 : (op == 1) = false := beq_eq_false_iff_ne.2 h1
  have e2 : (op == 2) = false := beq_eq_false_iff_ne.2 h2
  have e3 : (op == 3) = false := beq_eq_false_iff_ne.2 h3
  have e4 : (op == 4) = false := beq_eq_false_iff_ne.2 h4
  have e5 : (op == 5) = false := beq_eq_false_iff_ne.2 h5
  have e6 : (op == 6) = false := beq_eq_false_iff_ne.2 h6
  have e7 : (op == 7) = false := beq_eq_false_iff_ne.2 h7
  have e8 : (op == 8) = false := beq_eq_false_iff_ne.2 h8
  have e9 : (op == 9) = false := beq_eq_false_iff_ne.2 h9
  have e10 : (op == 10) = false := beq_eq_false_iff_ne.2 h10
  have e11 : (op == 11) = false := beq_eq_false_iff_ne.2 h11
  go_enter Tryz.func75, Tryz.ntmps75
  go_wp2_with fail
  refine (less_any a b _).mono ?_
  rintro e w1 ⟨rfl, rfl⟩
  go_wp2_with fail
  refine (mflag_any _ _).mono ?_
  rintro e w1 ⟨rfl, rfl⟩
  go_wp2_with fail
  go_ret
  exact ⟨rfl, rfl⟩
theorem sum_any (op a b : Int) (ha : I64 a) (hb : I64 b) (w : World) :
    Calls Tryz.prog 75 #[.int .i64 op, .int .i64 a, .int .i64 b] w fun e w' => e = .returned (.int .i64 (sumZ op a b)) ∧ w = w' := by
  unfold sumZ
  by_cases h1 : op = 1
  · rw [if_pos h1]; subst h1; exact sum_1 a b ha hb w
  rw [if_neg h1]
  by_cases h2 : op = 2
  · rw [if_pos h2]; subst h2; exact sum_2 a b ha hb w
  rw [if_neg h2]
  by_cases h3 : op = 3
  · rw [if_pos h3]; subst h3; exact sum_3 a b ha hb w
  rw [if_neg h3]
  by_cases h4 : op = 4
  · rw [if_pos h4]; subst h4; exact sum_4 a b ha hb w
  rw [if_neg h4]
  by_cases h5 : op = 5
  · rw [if_pos h5]; subst h5; exact sum_5 a b ha hb w
  rw [if_neg h5]
  by_cases h6 : op = 6
  · rw [if_pos h6]; subst h6; exact sum_6 a b ha hb w
  rw [if_neg h6]
  by_cases h7 : op = 7
  · rw [if_pos h7]; subst h7; exact sum_7 a b ha hb w
  rw [if_neg h7]
  by_cases h8 : op = 8
  · rw [if_pos h8]; subst h8; exact sum_8 a b ha hb w
  rw [if_neg h8]
  by_cases h9 : op = 9
  · rw [if_pos h9]; subst h9; exact sum_9 a b ha hb w
  rw [if_neg h9]
  by_cases h10 : op = 10
  · rw [if_pos h10]; subst h10; exact sum_10 a b ha hb w
  rw [if_neg h10]
  by_cases h11 : op = 11
  · rw [if_pos h11]; subst h11; exact sum_11 a b ha hb w
  rw [if_neg h11]
  exact sum_12 op a b ⟨h1, h2, h3, h4, h5, h6, h7, h8, h9, h10, h11⟩ w
end Go.Proofs.YtpgjfpphigeliaaGreatDoor

namespace Go.Proofs.YtpgjfpphigeliaaGreatDoor
open Go.RowKit
set_option maxHeartbeats 4000000
set_option maxRecDepth 100000

theorem MAt.lt {K : MKon} {k : Nat} {s : MS} {w : World} (h : MAt K k s w) : K.M < w.heap.size := by
  obtain ⟨vin, vout, h1, _, _⟩ := h.m; exact h1.lt
theorem MAt.fz {K : MKon} {k : Nat} {s : MS} {w : World} (h : MAt K k s w) (i : Nat) : w.frozen? ⟨K.M, i, none⟩ = false := by
  obtain ⟨vin, vout, h1, _, _⟩ := h.m; exact h1.fz i
theorem MAt.cx {K : MKon} {k : Nat} {s : MS} {w : World} (h : MAt K k s w) (r : Nat) (hr : r < 32) : w.cell? ⟨K.M, 4 + r, none⟩ = some (.int .i64 (s.x r)) := by
  obtain ⟨vin, vout, h1, _, _⟩ := h.m; exact h1.at (4 + r) _ (mc_reg _ _ _ _ _ _ _ _ _ _ _ _ _ _ r hr)
theorem MAt.cL {K : MKon} {k : Nat} {s : MS} {w : World} (h : MAt K k s w) : w.cell? ⟨K.M, 2, none⟩ = some K.vL := by
  obtain ⟨vin, vout, h1, _, _⟩ := h.m; exact h1.at 2 _ rfl
theorem MAt.cT {K : MKon} {k : Nat} {s : MS} {w : World} (h : MAt K k s w) : w.cell? ⟨K.M, 3, none⟩ = some K.vT := by
  obtain ⟨vin, vout, h1, _, _⟩ := h.m; exact h1.at 3 _ rfl
theorem MAt.car {K : MKon} {k : Nat} {s : MS} {w : World} (h : MAt K k s w) : w.cell? ⟨K.M, 36, none⟩ = some (.int .i64 K.C.arrays) := by
  obtain ⟨vin, vout, h1, _, _⟩ := h.m; exact h1.at 36 _ (mc_tail _ _ _ _ _ _ _ _ _ _ _ _ _ _ 0)
theorem MAt.cw {K : MKon} {k : Nat} {s : MS} {w : World} (h : MAt K k s w) : w.cell? ⟨K.M, 37, none⟩ = some (.map (some K.Bw)) := by
  obtain ⟨vin, vout, h1, _, _⟩ := h.m; exact h1.at 37 _ (mc_tail _ _ _ _ _ _ _ _ _ _ _ _ _ _ 1)
theorem MAt.cpl {K : MKon} {k : Nat} {s : MS} {w : World} (h : MAt K k s w) : w.cell? ⟨K.M, 40, none⟩ = some (.int .i64 s.pl) := by
  obtain ⟨vin, vout, h1, _, _⟩ := h.m; exact h1.at 40 _ (mc_tail _ _ _ _ _ _ _ _ _ _ _ _ _ _ 4)
theorem MAt.cst {K : MKon} {k : Nat} {s : MS} {w : World} (h : MAt K k s w) : w.cell? ⟨K.M, 41, none⟩ = some (.int .i64 s.st) := by
  obtain ⟨vin, vout, h1, _, _⟩ := h.m; exact h1.at 41 _ (mc_tail _ _ _ _ _ _ _ _ _ _ _ _ _ _ 5)
theorem MAt.ccode {K : MKon} {k : Nat} {s : MS} {w : World} (h : MAt K k s w) : w.cell? ⟨K.M, 42, none⟩ = some (.int .i64 s.code) := by
  obtain ⟨vin, vout, h1, _, _⟩ := h.m; exact h1.at 42 _ (mc_tail _ _ _ _ _ _ _ _ _ _ _ _ _ _ 6)
theorem MAt.csteps {K : MKon} {k : Nat} {s : MS} {w : World} (h : MAt K k s w) : w.cell? ⟨K.M, 44, none⟩ = some (.int .i64 s.steps) := by
  obtain ⟨vin, vout, h1, _, _⟩ := h.m; exact h1.at 44 _ (mc_tail _ _ _ _ _ _ _ _ _ _ _ _ _ _ 8)
theorem MAt.setX {K : MKon} {k : Nat} {s : MS} {w : World} (hf : MFix K) (h : MAt K k s w) (r : Int) (hr : r.toNat < 32) (v : Int) : MAt K k (s.setX r v) (w.setCell ⟨K.M, 4 + r.toNat, none⟩ (.int .i64 v)) := by
  obtain ⟨vin, vout, h1, h2, h3⟩ := h.m
  exact h.put hf h1 h2 h3 _ _ vin vout (mc_setr _ _ _ _ _ _ _ _ _ _ _ _ _ _ _ hr v) h2 rfl rfl rfl
theorem MAt.setPl {K : MKon} {k : Nat} {s : MS} {w : World} (hf : MFix K) (h : MAt K k s w) (v : Int) : MAt K k { s with pl := v } (w.setCell ⟨K.M, 40, none⟩ (.int .i64 v)) := by
  obtain ⟨vin, vout, h1, h2, h3⟩ := h.m
  exact h.put hf h1 h2 h3 _ _ vin vout (mc_pl _ _ _ _ _ _ _ _ _ _ _ _ _ _ v) h2 rfl rfl rfl
theorem MAt.setSt {K : MKon} {k : Nat} {s : MS} {w : World} (hf : MFix K) (h : MAt K k s w) (v : Int) : MAt K k { s with st := v } (w.setCell ⟨K.M, 41, none⟩ (.int .i64 v)) := by
  obtain ⟨vin, vout, h1, h2, h3⟩ := h.m
  exact h.put hf h1 h2 h3 _ _ vin vout (mc_st _ _ _ _ _ _ _ _ _ _ _ _ _ _ v) h2 rfl rfl rfl
theorem MAt.setCode {K : MKon} {k : Nat} {s : MS} {w : World} (hf : MFix K) (h : MAt K k s w) (v : Int) : MAt K k { s with code := v } (w.setCell ⟨K.M, 42, none⟩ (.int .i64 v)) := by
  obtain ⟨vin, vout, h1, h2, h3⟩ := h.m
  exact h.put hf h1 h2 h3 _ _ vin vout (mc_code _ _ _ _ _ _ _ _ _ _ _ _ _ _ v) h2 rfl rfl rfl
theorem MAt.setSteps {K : MKon} {k : Nat} {s : MS} {w : World} (hf : MFix K) (h : MAt K k s w) (v : Int) : MAt K k { s with steps := v } (w.setCell ⟨K.M, 44, none⟩ (.int .i64 v)) := by
  obtain ⟨vin, vout, h1, h2, h3⟩ := h.m
  exact h.put hf h1 h2 h3 _ _ vin vout (mc_steps _ _ _ _ _ _ _ _ _ _ _ _ _ _ v) h2 rfl rfl rfl
theorem MAt.setIn {K : MKon} {k : Nat} {s : MS} {w : World} (hf : MFix K) (h : MAt K k s w) {l : List Int} {v : Value} (hi : InpAt K.W0 l v) : MAt K k { s with inp := l } (w.setCell ⟨K.M, 39, none⟩ v) := by
  obtain ⟨vin, vout, h1, h2, h3⟩ := h.m
  exact h.put hf h1 h2 h3 _ _ v vout (mc_in _ _ _ _ _ _ _ _ _ _ _ _ _ _ v) hi rfl rfl rfl
theorem setX_twice (s : MS) (r a b : Int) : (s.setX r a).setX r b = s.setX r b := by
  unfold MS.setX
  have e : updN (updN s.x r.toNat a) r.toNat b = updN s.x r.toNat b := by
    funext j
    unfold updN
    split <;> rfl
  dsimp only
  rw [e]
/-- A word is written. -/
theorem MAt.word {K : MKon} {k : Nat} {s : MS} {w w' : World} (hf : MFix K) (h : MAt K k s w) {f : Int → Option Int} {n : Nat} (hn : n ≤ k) (he : ∀ j, (f j).getD 0 = s.mem j) {a v : Int} (hm : ZMapIs w' K.Bw (n + 1) (putZ f a v)) (hg : w.grownBy w' (some K.Bw)) :
    MAt K (k + 1) { s with mem := updZ s.mem a v } w' := by
  obtain ⟨vin, vout, h1, h2, h3⟩ := h.m
  have hb := hf.b1
  have hwb := hf.wb
  refine ⟨⟨vin, vout, h1.grown hg hf.mw, h2, RwOwn.grown h3 hg ?_⟩, ⟨_, n + 1, by omega, hm, fun j => ?_⟩, h.fr.word hg, Nat.le_succ_of_le h.told⟩
  · cases hv : vout.ownBlock with
    | none => exact .inl rfl
    | some g => exact .inr (fun e => by have e2 : g = K.Bw := (by injection e); have := (RwOwn.lt h3 g hv).1; omega)
  · show ((if j = a then some v else f j).getD 0) = (if j = a then v else s.mem j)
    split
    · rfl
    · exact he j
end Go.Proofs.YtpgjfpphigeliaaGreatDoor
