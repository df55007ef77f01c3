/-
  Small words for the walks of this seat: what a call may change, lists in memory, and closing lemmas. No condition.
  What all laws' wrappers share: the tables that the row lists, the post of a call that only makes memory. No condition.
  Plain data and plain functions: programs as trees, the operators' signs and levels, names. No program in sight.
  Letters, digits, words and names: what scan's functions answer. No condition.
  run: how many bytes at a text's beginning have characters of a kind. Condition: behind them the text ends, or goes on with a character of ASCII.
  Programs as trees in memory: which cells hold them; that they stay where nothing is written. No condition.
  Names, arrays, functions and programs in memory. No condition.
  What may change but for one block; a variable's own block in memory. No condition.
-/
import Derived.Test.YtcfpfnoldgnloaaGreatDoorProg
import Derived.WalkKit
import Derived.WalkSpells
import Derived.WalkLawsBesides
import Derived.Laws.EntriesVeiled
import Derived.Deep.QuietTactic
import Derived.BigQuiet
import Derived.Deep.RegionHeld3
import Derived.Deep.RegionWith
import Derived.StillTailTactics
import Derived.Deep.RegionLaw
import Derived.Deep.Cut
import Derived.Deep.DeepCutAuto
import Derived.Deep.DeepFit
import Derived.Deep.DeepMust
import Derived.Deep.LoopGhost
import Derived.Lib.Hide
import Derived.KernelRfl
import Derived.Test.YtcfpfnoldgnloaaGreatDoorRows
import Derived.ProofKit
import Derived.OpenShut
import Derived.Deep.DeepHandedRow
import Derived.Lib.LaidTab
import Derived.ChangeSame
import Derived.Below
import Derived.Laws.RangeAny
set_option linter.unusedVariables false
set_option linter.unusedSimpArgs false
namespace Go.Proofs.YtcfpfnoldgnloaaGreatDoor
open Go.RowKit

theorem ret_int {k : IntKind} {a b : Int} (h : a = b) : Ending.returned (.int k a) = .returned (.int k b) := by rw [h]
theorem ret_bool {a b : Bool} (h : a = b) : Ending.returned (.bool a) = .returned (.bool b) := by rw [h]

/-- What the walk may use behind a contract that ends in Below: old cells and old marks read as before. -/
theorem bcell {W w1 : World} (hb : Below W.heap.size W w1) : (∀ b o, b < W.heap.size → w1.cell? ⟨b, o, none⟩ = W.cell? ⟨b, o, none⟩) ∧ (∀ b o, b < W.heap.size → w1.frozen? ⟨b, o, none⟩ = W.frozen? ⟨b, o, none⟩) :=
  ⟨fun b o h => hb.cell (p := ⟨b, o, none⟩) h, fun b o h => hb.frozen (p := ⟨b, o, none⟩) h⟩

/-- A run of cells. -/
def RowAt (w : World) (b off : Nat) (cs : List Value) : Prop := ∀ i (h : i < cs.length), w.cell? ⟨b, off + i, none⟩ = some cs[i]

/-- Every old cell is there in the later world. -/
theorem below_keeps {w w' : World} (h : Below w.heap.size w w') {a : Addr} {x : Value} (hx : w.cell? a = some x) : w'.cell? a = some x := by
  rw [h.cell (p := a) (World.block_lt_of_cell? w a hx)]; exact hx
theorem RowAt.below {w w' : World} (h : Below w.heap.size w w') {b off : Nat} {cs : List Value} (hr : RowAt w b off cs) : RowAt w' b off cs :=
  fun i hi => below_keeps h (hr i hi)

/-- What is stored where it stands already. -/
theorem setCell_self {w : World} {a : Addr} {v : Value} (h : w.cell? a = some v) : w.setCell a v = w := by
  have hb := World.block_lt_of_cell? w a h
  unfold World.cell? at h
  rw [Array.getElem?_eq_getElem hb] at h
  cases ho : w.heap[a.block] with
  | cells c e fz =>
    simp only [ho] at h
    cases hs : a.spot.isSome with
    | true => simp [hs] at h
    | false =>
      simp only [hs, Bool.false_eq_true, if_false] at h
      have hc : c.setIfInBounds a.off v = c := by
        apply Array.ext_getElem?
        intro i
        rw [Array.getElem?_setIfInBounds]
        by_cases hi : a.off = i
        · subst hi
          have hlt : a.off < c.size := by
            rcases Nat.lt_or_ge a.off c.size with h' | h'
            · exact h'
            · rw [Array.getElem?_eq_none h'] at h; cases h
          rw [Array.getElem?_eq_getElem hlt] at h
          simp [hlt, Option.some.inj h]
        · simp [hi]
      have hh : (w.setCell a v).heap = w.heap := by
        apply Array.ext_getElem?
        intro i
        simp only [World.setCell, Array.getElem?_modify]
        by_cases hi : a.block = i
        · subst hi
          simp [Array.getElem?_eq_getElem hb, ho, hs, hc]
        · simp [hi]
      have he : w.setCell a v = { w with heap := (w.setCell a v).heap } := rfl
      rw [he, hh]
  | _ => simp [ho] at h

/-- The first place below n at which a test says yes, else -1. -/
def firstN (p : Nat → Bool) : Nat → Int
  | 0 => -1
  | n + 1 => let r := firstN p n; if 0 ≤ r then r else if p n then n else -1
/-- Does a test say yes somewhere below n? -/
def anyN (p : Nat → Bool) (n : Nat) : Bool := (List.range n).any p
theorem firstN_none (p : Nat → Bool) : ∀ n, (∀ i, i < n → p i = false) → firstN p n = -1
  | 0, _ => rfl
  | n + 1, h => by
    have ih := firstN_none p n (fun i hi => h i (by omega))
    simp [firstN, ih, h n (by omega)]
theorem firstN_at (p : Nat → Bool) (j : Nat) (hp : p j = true) (h : ∀ i, i < j → p i = false) : ∀ n, j < n → firstN p n = j
  | 0, hn => by omega
  | n + 1, hn => by
    by_cases hj : j = n
    · subst hj
      have := firstN_none p j h
      simp [firstN, this, hp]
    · have ih := firstN_at p j hp h n (by omega)
      simp [firstN, ih]
theorem anyN_false {p : Nat → Bool} {n : Nat} (h : ∀ i, i < n → p i = false) : anyN p n = false := by
  simp only [anyN, List.any_eq_false, List.mem_range]; intro x hx; simp [h x hx]
theorem anyN_true {p : Nat → Bool} {n j : Nat} (hj : j < n) (h : p j = true) : anyN p n = true := by
  simp only [anyN, List.any_eq_true, List.mem_range]; exact ⟨j, hj, h⟩
theorem firstN_range (p : Nat → Bool) (n : Nat) : (firstN p n = -1 ∧ ∀ i, i < n → p i = false) ∨ ∃ j, j < n ∧ p j = true ∧ firstN p n = j := by
  induction n with
  | zero => exact .inl ⟨rfl, fun i hi => by omega⟩
  | succ n ih =>
    rcases ih with ⟨e, h⟩ | ⟨j, hj, hp, e⟩
    · cases hp : p n
      · refine .inl ⟨by simp [firstN, e, hp], fun i hi => ?_⟩
        rcases Nat.lt_succ_iff_lt_or_eq.1 hi with h' | rfl
        · exact h i h'
        · exact hp
      · exact .inr ⟨n, by omega, hp, by simp [firstN, e, hp]⟩
    · exact .inr ⟨j, by omega, hp, by simp [firstN, e]⟩
theorem decide_firstN (p : Nat → Bool) (n : Nat) : decide (0 ≤ firstN p n) = anyN p n := by
  rcases firstN_range p n with ⟨e, h⟩ | ⟨j, hj, hp, e⟩
  · rw [e, anyN_false h]; rfl
  · rw [e, anyN_true hj hp]; simp
theorem anyN_list {α : Type} (f : α → Bool) (p : Nat → Bool) (l : List α) (h : ∀ i (hi : i < l.length), p i = f l[i]) : anyN p l.length = l.any f := by
  rw [Bool.eq_iff_iff]
  simp only [anyN, List.any_eq_true, List.mem_range]
  constructor
  · rintro ⟨i, hi, hp⟩; exact ⟨l[i], List.getElem_mem hi, by rw [← h i hi]; exact hp⟩
  · rintro ⟨x, hx, hf⟩; obtain ⟨i, hi, rfl⟩ := List.getElem_of_mem hx; exact ⟨i, hi, by rw [h i hi]; exact hf⟩
end Go.Proofs.YtcfpfnoldgnloaaGreatDoor

namespace Go.Proofs.YtcfpfnoldgnloaaGreatDoor
open Go.ChangeShapes Go.WideShapes Go.ChangeAt Go.RowKit

/-- What is listed behind the first one holds too. -/
theorem laidMet_tail {P : Program} {x : String × DataW Unit} {l : List (String × DataW Unit)} {W : World} (h : laidMet P (x :: l) W) : laidMet P l W := by
  obtain ⟨n, d⟩ := x
  obtain ⟨ps, ⟨g, t, cs, fuel, p, q, hg, ht, hv, hd, hr, rfl⟩, hn, hc⟩ := h
  refine ⟨q, hr, (List.nodup_append.1 hn).2.1, fun b off hm => hc b off (List.mem_append_right _ hm)⟩

/-- What a call leaves that only makes memory: its arguments and the variables read as before. -/
theorem post_below {H : Type} {enc : TypeId × Value → H} {P : Program} {f : Func} {s : ChangeSpec} {apart fresh handsOn again : Bool} {W W' : World} {args : Array Value} {v : Value} {ds gs : List (DataW H)} {before pa pv : List MemPlace}
    (hW : DataW.Whole enc P f.params.toList s.vars apart W args.toList ds gs before)
    (hres : ∀ (b : Nat) (sp : Nat → Bool) (hd : Bool), DataW.TrodAll enc P W' b sp hd f.resultTypes.toList (v.resultList f.resultTypes.size) (s.fn H (ds ++ gs)).results [])
    (hargs : ∀ sp : Nat → Bool, (∀ p ∈ before, sp p.block = true) → DataW.TrodAll enc P W' 0 sp true f.params.toList args.toList (s.fn H (ds ++ gs)).args pa)
    (hvars : ∀ sp : Nat → Bool, (∀ p ∈ before, sp p.block = true) → DataW.TrodVars enc P W' sp s.vars (s.fn H (ds ++ gs)).vars pv)
    (hps : before = pa ++ pv) (hb : Below W.heap.size W W')
    (hok : ∀ (j : Nat) (t : TypeId) (r : Value), f.resultTypes[j]? = some t → (v.resultList f.resultTypes.size)[j]? = some r → Value.okWide P W' .any 0 t r) :
    s.post enc P f apart fresh handsOn again W args v W' := by
  have lt : ∀ p ∈ before, p.block < W.heap.size := hW.lt
  have old : ∀ p ∈ before, (fun k => decide (k < W.heap.size)) p.block = true := fun p hp => decide_eq_true (lt p hp)
  refine ⟨ds, gs, before, [], pa, pv, hW, hres _ _ _, hargs _ old, hvars _ old, World.keptBut_mono (fun p hp => ⟨hp, .inr (by rw [hps] at hp; exact List.mem_append.1 hp)⟩) (hb.frame (· ∈ before)), fun _ => ?_⟩
  obtain ⟨_, _, _, _, _, fz, nd⟩ := hW
  refine ⟨hok, _, _, ([] ++ pa) ++ pv, ⟨[] ++ pa, pv, trodAll_append (hargs _ (fun _ _ => rfl)) (hres _ _ _), hvars _ (fun _ _ => rfl), rfl, fun b off hp => ?_, fun ha => ?_⟩, fun p hp _ => ?_⟩
  · have hin : MemPlace.cell b off ∈ before := by rw [hps]; exact hp
    have e := fz b off hin
    rw [← hb.frozen (lt _ hin)] at e
    exact e
  · have e := nd ha
    rw [hps] at e; exact e
  · rw [hps]; exact hp
theorem i64_wf {n : Int} (h : (Lit.int .i64 n).wf = true) : -9223372036854775808 ≤ n ∧ n ≤ 9223372036854775807 := by
  simp only [Lit.wf, Bool.and_eq_true, decide_eq_true_eq] at h
  exact h
end Go.Proofs.YtcfpfnoldgnloaaGreatDoor

namespace Go.Proofs.YtcfpfnoldgnloaaGreatDoor

/-- Texts as lists of bytes. -/
abbrev Bs := List UInt8
abbrev strOf (l : Bs) : ByteArray := ⟨l.toArray⟩
theorem strOf_data (s : ByteArray) : s = strOf s.data.toList := by cases s; simp [strOf]

inductive Ex where
  | mk (kind op n : Int) (name : Bs) (args : List Ex)
namespace Ex
def kind : Ex → Int | mk k _ _ _ _ => k
def op : Ex → Int | mk _ o _ _ _ => o
def n : Ex → Int | mk _ _ n _ _ => n
def name : Ex → Bs | mk _ _ _ s _ => s
def args : Ex → List Ex | mk _ _ _ _ l => l
theorem eta (e : Ex) : e = mk e.kind e.op e.n e.name e.args := by cases e; rfl
end Ex

inductive St where
  | mk (kind : Int) (name : Bs) (args : List Ex) (thn els : List St)
namespace St
def kind : St → Int | mk k _ _ _ _ => k
def name : St → Bs | mk _ s _ _ _ => s
def args : St → List Ex | mk _ _ l _ _ => l
def thn : St → List St | mk _ _ _ l _ => l
def els : St → List St | mk _ _ _ _ l => l
end St

structure Fu where
  name : Bs
  params : List Bs
  locals : List Bs
  body : List St
structure Ar where
  name : Bs
  size : Int
structure Pr where
  arrays : List Ar
  funcs : List Fu

/-- An operator's sign and level. -/
def signOf (op : Int) : Bs :=
  if op = 1 then [43] else if op = 2 then [45] else if op = 3 then [42] else if op = 4 then [47] else if op = 5 then [37]
  else if op = 6 then [38] else if op = 7 then [124] else if op = 8 then [94] else if op = 9 then [60, 60] else if op = 10 then [62, 62]
  else if op = 11 then [60] else if op = 12 then [60, 61] else if op = 13 then [62] else if op = 14 then [62, 61] else if op = 15 then [61, 61]
  else if op = 16 then [33, 61] else if op = 17 then [45] else if op = 18 then [33] else if op = 19 then [126] else []
def levelOf (op : Int) : Int :=
  if op = 1 then 7 else if op = 2 then 7 else if op = 3 then 8 else if op = 4 then 8 else if op = 5 then 8
  else if op = 6 then 3 else if op = 7 then 1 else if op = 8 then 2 else if op = 9 then 6 else if op = 10 then 6
  else if op = 11 then 5 else if op = 12 then 5 else if op = 13 then 5 else if op = 14 then 5 else if op = 15 then 4
  else if op = 16 then 4 else 0

/-- Letters, digits, words, names. -/
def isLetter (c : UInt8) : Bool := c == 95 || (97 ≤ c && c ≤ 122) || (65 ≤ c && c ≤ 90)
def isDigit (c : UInt8) : Bool := 48 ≤ c && c ≤ 57
def wordList : List Bs := [[105, 110, 116], [105, 102], [101, 108, 115, 101], [119, 104, 105, 108, 101], [98, 114, 101, 97, 107], [99, 111, 110, 116, 105, 110, 117, 101], [114, 101, 116, 117, 114, 110], [112, 114, 105, 110, 116], [114, 101, 97, 100], [116, 114, 97, 112]]
def isWord (l : Bs) : Bool := wordList.contains l
/-- Is each character from place i on one that may stand there? -/
def isNameAt : Bool → Bs → Bool
  | _, [] => true
  | first, c :: l => (isLetter c || (!first && isDigit c)) && isNameAt false l
def isName (l : Bs) : Bool := !l.isEmpty && decide (l.length ≤ 20) && !isWord l && isNameAt true l

/-- Which expressions may be. -/
def deepOk : Nat → Ex → Bool
  | 0, _ => false
  | m + 1, e => e.args.all (deepOk m)
def onlyOp (e : Ex) : Int := if e.kind = 3 ∨ e.kind = 4 then e.op else 0
def onlyN (e : Ex) : Int := if e.kind = 1 then e.n else 0
def onlyName (e : Ex) : Bs := if e.kind = 2 ∨ e.kind = 5 ∨ e.kind = 6 then e.name else []
def onlyArgs (e : Ex) : Int := if e.kind = 3 ∨ e.kind = 6 then 1 else if e.kind = 4 then 2 else if e.kind = 5 then e.args.length else 0
def onlyOk (e : Ex) : Bool :=
  if e.kind = 1 then decide (0 ≤ e.n) else if e.kind = 2 then isName e.name else if e.kind = 3 then decide (e.op = 17 ∨ e.op = 18 ∨ e.op = 19)
  else if e.kind = 4 then decide (0 < levelOf e.op) else if e.kind = 5 then isName e.name && decide ((e.args.length : Int) ≤ 6)
  else if e.kind = 6 then isName e.name else decide (e.kind = 7)
def wellHere (e : Ex) : Bool := onlyOk e && ((e.args.length : Int) == onlyArgs e) && (onlyOp e == e.op) && (onlyN e == e.n) && (onlyName e == e.name)
mutual
def wellOk : Ex → Bool
  | .mk k o n nm args => wellHere (.mk k o n nm args) && wellAll args
def wellAll : List Ex → Bool
  | [] => true
  | x :: l => wellOk x && wellAll l
end
theorem wellAll_eq : ∀ l, wellAll l = l.all wellOk
  | [] => rfl
  | x :: l => by simp [wellAll, wellAll_eq l]
theorem wellOk_eq (e : Ex) : wellOk e = (wellHere e && e.args.all wellOk) := by
  cases e; rw [wellOk, wellAll_eq]; rfl
def rightEx (e : Ex) : Bool := deepOk 40 e && wellOk e

/-- What a kind of statements has. -/
def fNamed (k : Int) : Bool := decide (k = 1 ∨ k = 2)
def fArgs (k : Int) : Int := if k = 2 then 2 else if k = 1 ∨ k = 3 ∨ k = 4 ∨ k = 7 ∨ k = 8 ∨ k = 9 ∨ k = 10 then 1 else 0
def fThen (k : Int) : Bool := decide (k = 3 ∨ k = 4)
def fMore (k : Int) : Bool := decide (k = 3)
def fOk (k : Int) : Bool := decide (1 ≤ k ∧ k ≤ 10)
def stBad1 (most : Int) (x : St) : Bool := !fOk x.kind || most == 0 || !((x.args.length : Int) == fArgs x.kind) || (!fThen x.kind && !x.thn.isEmpty) || (!fMore x.kind && !x.els.isEmpty)
def stBad2 (x : St) : Bool := !(fNamed x.kind == isName x.name) || (!fNamed x.kind && !(x.name == [])) || (x.kind == 10 && !((x.args.headD (.mk 0 0 0 [] [])).kind == 5))
def stOk : Nat → St → Bool
  | 0, _ => false
  | m + 1, x => !stBad1 (m + 1) x && !stBad2 x && x.args.all rightEx && x.thn.all (stOk m) && x.els.all (stOk m)
def rightFu (f : Fu) : Bool := isName f.name && f.params.all isName && f.locals.all isName && decide (f.params.length ≤ 6) && f.body.all (stOk 40)
def rightAr (a : Ar) : Bool := isName a.name && decide (1 ≤ a.size ∧ a.size ≤ 1048576)
def rightPr (p : Pr) : Bool := p.arrays.all rightAr && p.funcs.all rightFu
theorem Ex.size_lt {e x : Ex} (h : x ∈ e.args) : SizeOf.sizeOf x < SizeOf.sizeOf e := by
  cases e with
  | mk k o n nm args =>
    have := List.sizeOf_lt_of_mem (show x ∈ args from h)
    simp only [Ex.mk.sizeOf_spec]; omega
end Go.Proofs.YtcfpfnoldgnloaaGreatDoor

namespace Go.Proofs.YtcfpfnoldgnloaaGreatDoor
open Go.RowKit
set_option maxHeartbeats 1000000
set_option maxRecDepth 20000

def letterR (r : Int) : Bool := decide (r = 95 ∨ (97 ≤ r ∧ r ≤ 122) ∨ (65 ≤ r ∧ r ≤ 90))
def digitR (r : Int) : Bool := decide (48 ≤ r ∧ r ≤ 57)

theorem letter_any (r : Int) (w : World) :
    Calls Tryz.prog 89 #[.int .i32 r] w fun e w' => e = .returned (.bool (letterR r)) ∧ w = w' := by
  go_enter Tryz.func89, Tryz.ntmps89
  go_wp2
  all_goals go_ret
  all_goals (refine ⟨ret_bool ?_, rfl⟩; rw [Bool.eq_iff_iff]; simp [letterR]; omega)

theorem digit_any (r : Int) (w : World) :
    Calls Tryz.prog 91 #[.int .i32 r] w fun e w' => e = .returned (.bool (digitR r)) ∧ w = w' := by
  go_enter Tryz.func91, Tryz.ntmps91
  go_wp2
  all_goals go_ret
  all_goals (refine ⟨ret_bool ?_, rfl⟩; rw [Bool.eq_iff_iff]; simp [digitR]; omega)

theorem word_any (l : Bs) (w : World) :
    Calls Tryz.prog 144 #[.string (strOf l)] w fun e w' => e = .returned (.bool (isWord l)) ∧ w = w' := by
  go_enter Tryz.func144, Tryz.ntmps144
  go_wp2
  all_goals go_ret
  all_goals (refine ⟨ret_bool ?_, rfl⟩; simp_all [isWord, wordList])

theorem letterR_of (c : UInt8) : letterR (c.toNat : Nat) = isLetter c := by
  rw [Bool.eq_iff_iff]; simp [letterR, isLetter, UInt8.le_iff_toNat_le, ← UInt8.toNat_inj]; omega
theorem digitR_of (c : UInt8) : digitR (c.toNat : Nat) = isDigit c := by
  rw [Bool.eq_iff_iff]; simp [digitR, isDigit, UInt8.le_iff_toNat_le]; omega
theorem letterR_high {r : Nat} (h : 128 ≤ r) : letterR r = false := by simp [letterR]; omega
theorem digitR_high {r : Nat} (h : 128 ≤ r) : digitR r = false := by simp [digitR]; omega
theorem isLetter_high {c : UInt8} (h : 128 ≤ c.toNat) : isLetter c = false := by rw [← letterR_of]; exact letterR_high h
theorem isDigit_high {c : UInt8} (h : 128 ≤ c.toNat) : isDigit c = false := by rw [← digitR_of]; exact digitR_high h
/-- What a range over a text gives at a place: the byte, or a rune of 128 and above. -/
theorem decode_at (l : Bs) (k : Nat) (h : k < l.length) : ∃ r d, Utf8.decode (strOf l) k = (r, d) ∧ 1 ≤ d ∧ letterR r = isLetter l[k] ∧ digitR r = isDigit l[k] ∧ (r < 128 → r = l[k].toNat ∧ d = 1) ∧ r ≤ 2147483647 := by
  have hs : k < (strOf l).size := h
  have he : (strOf l)[k]'hs = l[k] := rfl
  have hle := decode_le (strOf l) k
  by_cases ha : ((strOf l)[k]'hs).toNat < 128
  · rw [decode_ascii _ _ hs ha] at hle
    exact ⟨_, _, decode_ascii _ _ hs ha, Nat.le_refl _, by rw [he]; exact letterR_of _, by rw [he]; exact digitR_of _, fun _ => ⟨by rw [he], rfl⟩, hle⟩
  · have hh := decode_high (strOf l) k hs (by omega)
    have h2 : 128 ≤ l[k].toNat := by rw [← he]; omega
    generalize Utf8.decode (strOf l) k = q at hh hle ⊢
    exact ⟨q.1, q.2, rfl, hh.2, by rw [letterR_high hh.1, isLetter_high h2], by rw [digitR_high hh.1, isDigit_high h2], fun h => by omega, hle⟩
theorem letterR_low {r : Nat} (h : letterR r = true) : r < 128 := by simp [letterR] at h; omega
theorem digitR_low {r : Nat} (h : digitR r = true) : r < 128 := by simp [digitR] at h; omega

theorem name_loop (l : Bs) (h20 : l.length ≤ 20) (h0 : l.isEmpty = false) (hw : isWord l = false) (w : World) :
    Calls Tryz.prog 112 #[.string (strOf l)] w fun e w' => e = .returned (.bool (isNameAt true l)) ∧ Below w.heap.size w w' := by
  go_enter Tryz.func112, Tryz.ntmps112
  go_wp2_with (go_at_call 144; refine (word_any _ _).mono ?_; rintro e w1 ⟨rfl, rfl⟩)
  go_loopw [3, 4] (fun _ _ wr => ∃ k : Nat, k ≤ l.length ∧ wr = w.iter (strOf l) k ∧ Hid (isNameAt true l = isNameAt (decide (k = 0)) (l.drop k))) (fun _ _ wr => l.length - wr.iterPos w.heap.size)
  case atStart => exact ⟨0, Nat.zero_le _, rfl, rfl⟩
  case round =>
    obtain ⟨k, hk, rfl, HI⟩ := hrel
    by_cases hlt : k < l.length
    · have hnx := fun ty => run_next_any (P := Tryz.prog) w (strOf l) k ty hlt
      obtain ⟨r, d, hd, h1, hl, hdg, hlow, hr⟩ := decode_at l k hlt
      rw [hd] at hnx
      have HL := Lib.hid hl; have HD := Lib.hid hdg; have HLOW := Lib.hid hlow
      have HE : Hid (isNameAt (decide (k = 0)) (l.drop k) = ((isLetter l[k] || (!decide (k = 0) && isDigit l[k])) && isNameAt false (l.drop (k + 1)))) := by
        show _ = _
        rw [List.drop_eq_getElem_cons hlt]; rfl
      clear hl hdg hlow hd
      by_cases q : letterR r = true
      · go_wp2_with (go_at_call 89; refine (letter_any _ _).mono ?_; rintro e w1 ⟨rfl, rfl⟩)
        have h3 := HLOW.out (letterR_low q)
        obtain rfl := h3.2
        go_roundw
        case rel => exact ⟨k + 1, by omega, rfl, by show _ = _; rw [HI.out, HE.out, ← HL.out, q]; simp⟩
        case measure => simp; omega
      · have q' : letterR r = false := by simpa using q
        clear q
        by_cases z : k = 0
        · subst z
          go_wp2_with (go_at_call 89; refine (letter_any _ _).mono ?_; rintro e w1 ⟨rfl, rfl⟩)
          go_ret
          exact ⟨ret_bool (by rw [HI.out, HE.out, ← HL.out, q']; simp), (Below.refl _ _).alloc (Nat.le_refl _) _⟩
        · have z' : ((k : Int) == 0) = false := by simpa using z
          by_cases g : digitR r = true
          · go_wp2_with (first | (go_at_call 89; refine (letter_any _ _).mono ?_; rintro e w1 ⟨rfl, rfl⟩) | (go_at_call 91; refine (digit_any _ _).mono ?_; rintro e w1 ⟨rfl, rfl⟩))
            have h3 := HLOW.out (digitR_low g)
            obtain rfl := h3.2
            go_roundw
            case rel => exact ⟨k + 1, by omega, rfl, by show _ = _; rw [HI.out, HE.out, ← HL.out, ← HD.out, q', g]; simp [z]⟩
            case measure => simp; omega
          · have g' : digitR r = false := by simpa using g
            clear g
            go_wp2_with (first | (go_at_call 89; refine (letter_any _ _).mono ?_; rintro e w1 ⟨rfl, rfl⟩) | (go_at_call 91; refine (digit_any _ _).mono ?_; rintro e w1 ⟨rfl, rfl⟩))
            go_ret
            exact ⟨ret_bool (by rw [HI.out, HE.out, ← HL.out, ← HD.out, q', g']; simp), (Below.refl _ _).alloc (Nat.le_refl _) _⟩
    · have hnx := fun ty => run_next_end (P := Tryz.prog) w (strOf l) k ty hlt
      go_wp2_with fail
      go_ret
      exact ⟨ret_bool (by rw [HI.out, List.drop_eq_nil_of_le (by omega)]; rfl), (Below.refl _ _).alloc (Nat.le_refl _) _⟩

theorem name_any (l : Bs) (w : World) :
    Calls Tryz.prog 112 #[.string (strOf l)] w fun e w' => e = .returned (.bool (isName l)) ∧ Below w.heap.size w w' := by
  by_cases h0 : l = []
  · subst h0
    go_enter Tryz.func112, Tryz.ntmps112
    go_wp2_with fail
    go_ret
    exact ⟨rfl, Below.refl _ _⟩
  · have h0' : l.isEmpty = false := by simpa using h0
    by_cases h20 : l.length ≤ 20
    · cases hw : isWord l
      · have h := name_loop l h20 h0' hw w
        have e : isName l = isNameAt true l := by simp [isName, h0, h20, hw]
        rw [e]; exact h
      · go_enter Tryz.func112, Tryz.ntmps112
        go_wp2_with (go_at_call 144; refine (word_any _ _).mono ?_; rintro e w1 ⟨rfl, rfl⟩)
        go_ret
        exact ⟨ret_bool (by simp [isName, hw]), Below.refl _ _⟩
    · have h20' : 20 < l.length := by omega
      go_enter Tryz.func112, Tryz.ntmps112
      go_wp2_with fail
      go_ret
      exact ⟨ret_bool (by simp [isName, h20]), Below.refl _ _⟩
end Go.Proofs.YtcfpfnoldgnloaaGreatDoor

namespace Go.Proofs.YtcfpfnoldgnloaaGreatDoor
open Go.RowKit
set_option maxHeartbeats 4000000
set_option maxRecDepth 100000

def blankR (r : Int) : Bool := decide (r = 32 ∨ r = 9 ∨ r = 10 ∨ r = 13)
def wordR (r : Int) : Bool := letterR r || digitR r
theorem blank_any (r : Int) (w : World) : Calls Tryz.prog 85 #[.int .i32 r] w fun e w' => e = .returned (.bool (blankR r)) ∧ w = w' := by
  go_enter Tryz.func85, Tryz.ntmps85
  go_wp2
  all_goals go_ret
  all_goals (refine ⟨ret_bool ?_, rfl⟩; rw [Bool.eq_iff_iff]; simp [blankR]; try omega)
theorem wordr_any (r : Int) (w : World) : Calls Tryz.prog 143 #[.int .i32 r] w fun e w' => e = .returned (.bool (wordR r)) ∧ w = w' := by
  unfold wordR
  cases hl : letterR r
  · go_enter Tryz.func143, Tryz.ntmps143
    go_wp2_with fail
    refine (letter_any _ _).mono ?_
    rw [hl]
    rintro e w1 ⟨rfl, rfl⟩
    go_wp2_with fail
    refine (digit_any _ _).mono ?_
    rintro e w1 ⟨rfl, rfl⟩
    go_wp2_with fail
    go_ret
    exact ⟨rfl, rfl⟩
  · go_enter Tryz.func143, Tryz.ntmps143
    go_wp2_with fail
    refine (letter_any _ _).mono ?_
    rw [hl]
    rintro e w1 ⟨rfl, rfl⟩
    go_wp2_with fail
    go_ret
    exact ⟨rfl, rfl⟩
/-- Where a run of characters ends. -/
def EndsAt (p : Int → Bool) (b : Bs) : Prop := b = [] ∨ ∃ c r, b = c :: r ∧ c.toNat < 128 ∧ p (c.toNat : Nat) = false
theorem run_blank (a b : Bs) (ha : ∀ c, c ∈ a → c.toNat < 128 ∧ blankR (c.toNat : Nat) = true) (hb : EndsAt blankR b) (w : World) :
    Calls Tryz.prog 84 #[.string (strOf (a ++ b)), .func (.func 85) #[] #[]] w fun e w' => e = .returned (.int .i64 a.length) ∧ Below w.heap.size w w' := by
  have HAA := Lib.hid ha; have HBB := Lib.hid hb
  obtain ⟨l, hl⟩ : ∃ l, l = a ++ b := ⟨_, rfl⟩
  rw [← hl]
  have HL := Lib.hid hl
  have hlen : l.length = a.length + b.length := by rw [hl, List.length_append]
  have hle : a.length ≤ l.length := by omega
  have HLEN := Lib.hid hlen
  clear ha hb hl hlen
  go_enter Tryz.func84, Tryz.ntmps84
  go_wp2_with fail
  go_loopw [5, 6] (fun _ _ wr => ∃ k : Nat, k ≤ a.length ∧ wr = w.iter (strOf l) k) (fun _ _ wr => a.length + 1 - wr.iterPos w.heap.size)
  case atStart => exact ⟨0, Nat.zero_le _, rfl⟩
  case round =>
    obtain ⟨k, hk, rfl⟩ := hrel
    by_cases hlt : k < l.length
    · have hnx := fun ty => run_next_any (P := Tryz.prog) w (strOf l) k ty hlt
      have hs : k < (strOf l).size := hlt
      by_cases hka : k < a.length
      · have hc : l[k] = a[k] := by have := HL.out; subst this; exact List.getElem_append_left hka
        have hq := HAA.out a[k] (List.getElem_mem hka)
        rw [decode_ascii (strOf l) k hs (by show l[k].toNat < 128; rw [hc]; exact hq.1)] at hnx
        have he : (strOf l)[k]'hs = l[k] := rfl
        rw [he, hc] at hnx
        have HQ := Lib.hid hq.2
        clear hc hq he
        go_wp2_with fail
        refine (blank_any _ _).mono ?_
        rw [HQ.out]
        rintro e w1 ⟨rfl, rfl⟩
        go_wp2_with fail
        go_roundw
        case rel => exact ⟨k + 1, hka, rfl⟩
        case measure => simp; omega
      · have hke : k = a.length := by omega
        subst hke
        have hbn : b ≠ [] := by intro e; have := HLEN.out; rw [e] at this; simp at this; omega
        obtain ⟨c, r, hb, hc1, hc2⟩ := HBB.out.resolve_left hbn
        have hc : l[a.length] = c := by have := HL.out; subst this; subst hb; simp
        rw [decode_ascii (strOf l) _ hs (by show l[a.length].toNat < 128; rw [hc]; exact hc1)] at hnx
        have he : (strOf l)[a.length]'hs = l[a.length] := rfl
        rw [he, hc] at hnx
        have HQ := Lib.hid hc2
        clear hc hc1 hc2 hb he
        go_wp2_with fail
        refine (blank_any _ _).mono ?_
        rw [HQ.out]
        rintro e w1 ⟨rfl, rfl⟩
        go_wp2_with fail
        go_ret
        exact ⟨rfl, (Below.refl _ _).alloc (Nat.le_refl _) _⟩
    · have hnx := fun ty => run_next_end (P := Tryz.prog) w (strOf l) k ty hlt
      have hz : l.length = a.length := by omega
      go_wp2_with fail
      go_ret
      exact ⟨ret_int (by omega), (Below.refl _ _).alloc (Nat.le_refl _) _⟩
theorem run_word (a b : Bs) (ha : ∀ c, c ∈ a → c.toNat < 128 ∧ wordR (c.toNat : Nat) = true) (hb : EndsAt wordR b) (w : World) :
    Calls Tryz.prog 84 #[.string (strOf (a ++ b)), .func (.func 143) #[] #[]] w fun e w' => e = .returned (.int .i64 a.length) ∧ Below w.heap.size w w' := by
  have HAA := Lib.hid ha; have HBB := Lib.hid hb
  obtain ⟨l, hl⟩ : ∃ l, l = a ++ b := ⟨_, rfl⟩
  rw [← hl]
  have HL := Lib.hid hl
  have hlen : l.length = a.length + b.length := by rw [hl, List.length_append]
  have hle : a.length ≤ l.length := by omega
  have HLEN := Lib.hid hlen
  clear ha hb hl hlen
  go_enter Tryz.func84, Tryz.ntmps84
  go_wp2_with fail
  go_loopw [5, 6] (fun _ _ wr => ∃ k : Nat, k ≤ a.length ∧ wr = w.iter (strOf l) k) (fun _ _ wr => a.length + 1 - wr.iterPos w.heap.size)
  case atStart => exact ⟨0, Nat.zero_le _, rfl⟩
  case round =>
    obtain ⟨k, hk, rfl⟩ := hrel
    by_cases hlt : k < l.length
    · have hnx := fun ty => run_next_any (P := Tryz.prog) w (strOf l) k ty hlt
      have hs : k < (strOf l).size := hlt
      by_cases hka : k < a.length
      · have hc : l[k] = a[k] := by have := HL.out; subst this; exact List.getElem_append_left hka
        have hq := HAA.out a[k] (List.getElem_mem hka)
        rw [decode_ascii (strOf l) k hs (by show l[k].toNat < 128; rw [hc]; exact hq.1)] at hnx
        have he : (strOf l)[k]'hs = l[k] := rfl
        rw [he, hc] at hnx
        have HQ := Lib.hid hq.2
        clear hc hq he
        go_wp2_with fail
        refine (wordr_any _ _).mono ?_
        rw [HQ.out]
        rintro e w1 ⟨rfl, rfl⟩
        go_wp2_with fail
        go_roundw
        case rel => exact ⟨k + 1, hka, rfl⟩
        case measure => simp; omega
      · have hke : k = a.length := by omega
        subst hke
        have hbn : b ≠ [] := by intro e; have := HLEN.out; rw [e] at this; simp at this; omega
        obtain ⟨c, r, hb, hc1, hc2⟩ := HBB.out.resolve_left hbn
        have hc : l[a.length] = c := by have := HL.out; subst this; subst hb; simp
        rw [decode_ascii (strOf l) _ hs (by show l[a.length].toNat < 128; rw [hc]; exact hc1)] at hnx
        have he : (strOf l)[a.length]'hs = l[a.length] := rfl
        rw [he, hc] at hnx
        have HQ := Lib.hid hc2
        clear hc hc1 hc2 hb he
        go_wp2_with fail
        refine (wordr_any _ _).mono ?_
        rw [HQ.out]
        rintro e w1 ⟨rfl, rfl⟩
        go_wp2_with fail
        go_ret
        exact ⟨rfl, (Below.refl _ _).alloc (Nat.le_refl _) _⟩
    · have hnx := fun ty => run_next_end (P := Tryz.prog) w (strOf l) k ty hlt
      have hz : l.length = a.length := by omega
      go_wp2_with fail
      go_ret
      exact ⟨ret_int (by omega), (Below.refl _ _).alloc (Nat.le_refl _) _⟩
theorem run_digit (a b : Bs) (ha : ∀ c, c ∈ a → c.toNat < 128 ∧ digitR (c.toNat : Nat) = true) (hb : EndsAt digitR b) (w : World) :
    Calls Tryz.prog 84 #[.string (strOf (a ++ b)), .func (.func 91) #[] #[]] w fun e w' => e = .returned (.int .i64 a.length) ∧ Below w.heap.size w w' := by
  have HAA := Lib.hid ha; have HBB := Lib.hid hb
  obtain ⟨l, hl⟩ : ∃ l, l = a ++ b := ⟨_, rfl⟩
  rw [← hl]
  have HL := Lib.hid hl
  have hlen : l.length = a.length + b.length := by rw [hl, List.length_append]
  have hle : a.length ≤ l.length := by omega
  have HLEN := Lib.hid hlen
  clear ha hb hl hlen
  go_enter Tryz.func84, Tryz.ntmps84
  go_wp2_with fail
  go_loopw [5, 6] (fun _ _ wr => ∃ k : Nat, k ≤ a.length ∧ wr = w.iter (strOf l) k) (fun _ _ wr => a.length + 1 - wr.iterPos w.heap.size)
  case atStart => exact ⟨0, Nat.zero_le _, rfl⟩
  case round =>
    obtain ⟨k, hk, rfl⟩ := hrel
    by_cases hlt : k < l.length
    · have hnx := fun ty => run_next_any (P := Tryz.prog) w (strOf l) k ty hlt
      have hs : k < (strOf l).size := hlt
      by_cases hka : k < a.length
      · have hc : l[k] = a[k] := by have := HL.out; subst this; exact List.getElem_append_left hka
        have hq := HAA.out a[k] (List.getElem_mem hka)
        rw [decode_ascii (strOf l) k hs (by show l[k].toNat < 128; rw [hc]; exact hq.1)] at hnx
        have he : (strOf l)[k]'hs = l[k] := rfl
        rw [he, hc] at hnx
        have HQ := Lib.hid hq.2
        clear hc hq he
        go_wp2_with fail
        refine (digit_any _ _).mono ?_
        rw [HQ.out]
        rintro e w1 ⟨rfl, rfl⟩
        go_wp2_with fail
        go_roundw
        case rel => exact ⟨k + 1, hka, rfl⟩
        case measure => simp; omega
      · have hke : k = a.length := by omega
        subst hke
        have hbn : b ≠ [] := by intro e; have := HLEN.out; rw [e] at this; simp at this; omega
        obtain ⟨c, r, hb, hc1, hc2⟩ := HBB.out.resolve_left hbn
        have hc : l[a.length] = c := by have := HL.out; subst this; subst hb; simp
        rw [decode_ascii (strOf l) _ hs (by show l[a.length].toNat < 128; rw [hc]; exact hc1)] at hnx
        have he : (strOf l)[a.length]'hs = l[a.length] := rfl
        rw [he, hc] at hnx
        have HQ := Lib.hid hc2
        clear hc hc1 hc2 hb he
        go_wp2_with fail
        refine (digit_any _ _).mono ?_
        rw [HQ.out]
        rintro e w1 ⟨rfl, rfl⟩
        go_wp2_with fail
        go_ret
        exact ⟨rfl, (Below.refl _ _).alloc (Nat.le_refl _) _⟩
    · have hnx := fun ty => run_next_end (P := Tryz.prog) w (strOf l) k ty hlt
      have hz : l.length = a.length := by omega
      go_wp2_with fail
      go_ret
      exact ⟨ret_int (by omega), (Below.refl _ _).alloc (Nat.le_refl _) _⟩
end Go.Proofs.YtcfpfnoldgnloaaGreatDoor

namespace Go.Proofs.YtcfpfnoldgnloaaGreatDoor
open Go.RowKit

def Fits (n : Nat) : Prop := n ≤ 140737488355328
theorem Fits.out {n : Nat} (h : Fits n) : n ≤ 140737488355328 := h
theorem Fits.lt {n : Nat} (h : Fits n) : n < 9223372036854775807 := by have := h.out; omega
theorem Fits.mono {m n : Nat} (h : Fits n) (hm : m ≤ n) : Fits m := Nat.le_trans hm h

/-- An int of 64 bits. -/
def I64 (n : Int) : Prop := -9223372036854775808 ≤ n ∧ n ≤ 9223372036854775807
def Ex.nil : Ex := .mk 0 0 0 [] []
abbrev exAt (l : List Ex) (i : Nat) : Ex := l.getD i Ex.nil
def St.nil : St := .mk 0 [] [] [] []
abbrev stAt (l : List St) (i : Nat) : St := l.getD i St.nil

/-- A slice of expressions in the blocks D. -/
inductive ExsAt (D : Nat → Prop) (w : World) : List Ex → Value → Prop
  | mk (l : List Ex) (a : Option Addr) (cap b off : Nat) (sv : Nat → Value) (hcap : l.length ≤ cap) (hfit : Fits l.length)
    (ha : l.length = 0 ∨ (a = some ⟨b, off, none⟩ ∧ D b))
    (h0 : ∀ i, i < l.length → w.cell? ⟨b, off + i * 5, none⟩ = some (.int .i64 (exAt l i).kind))
    (h1 : ∀ i, i < l.length → w.cell? ⟨b, off + i * 5 + 1, none⟩ = some (.int .i64 (exAt l i).op))
    (h2 : ∀ i, i < l.length → w.cell? ⟨b, off + i * 5 + 2, none⟩ = some (.int .i64 (exAt l i).n))
    (h3 : ∀ i, i < l.length → w.cell? ⟨b, off + i * 5 + 3, none⟩ = some (.string (strOf (exAt l i).name)))
    (h4 : ∀ i, i < l.length → w.cell? ⟨b, off + i * 5 + 4, none⟩ = some (sv i))
    (hs : ∀ i, i < l.length → ExsAt D w (exAt l i).args (sv i))
    (hn : ∀ i, i < l.length → I64 (exAt l i).n) : ExsAt D w l (.slice a l.length cap)

/-- What is kept: the cells of the blocks D. -/
def Keeps (D : Nat → Prop) (w w' : World) : Prop := ∀ b off x, D b → w.cell? ⟨b, off, none⟩ = some x → w'.cell? ⟨b, off, none⟩ = some x
theorem Keeps.refl (D : Nat → Prop) (w : World) : Keeps D w w := fun _ _ _ _ h => h
theorem Keeps.trans {D : Nat → Prop} {a b c : World} (h : Keeps D a b) (k : Keeps D b c) : Keeps D a c := fun _ _ _ d x => k _ _ _ d (h _ _ _ d x)
theorem keeps_below {D : Nat → Prop} {w w' : World} (h : Below w.heap.size w w') : Keeps D w w' := fun _ _ _ _ hx => below_keeps h hx

theorem ExsAt.keep {D : Nat → Prop} {w w' : World} (hk : Keeps D w w') {l : List Ex} {v : Value} (h : ExsAt D w l v) : ExsAt D w' l v := by
  induction h with
  | mk l a cap b off sv hcap hfit ha h0 h1 h2 h3 h4 _ hn ih =>
    rcases ha with ha | ⟨ha, hD⟩
    · refine .mk l a cap b off sv hcap hfit (.inl ha) ?_ ?_ ?_ ?_ ?_ ih hn <;> (intro i hi; omega)
    · exact .mk l a cap b off sv hcap hfit (.inr ⟨ha, hD⟩) (fun i hi => hk _ _ _ hD (h0 i hi)) (fun i hi => hk _ _ _ hD (h1 i hi)) (fun i hi => hk _ _ _ hD (h2 i hi))
        (fun i hi => hk _ _ _ hD (h3 i hi)) (fun i hi => hk _ _ _ hD (h4 i hi)) ih hn
theorem ExsAt.mono {D D' : Nat → Prop} {w : World} (hD : ∀ b, D b → D' b) {l : List Ex} {v : Value} (h : ExsAt D w l v) : ExsAt D' w l v := by
  induction h with
  | mk l a cap b off sv hcap hfit ha h0 h1 h2 h3 h4 _ hn ih => exact .mk l a cap b off sv hcap hfit (ha.imp id fun h => ⟨h.1, hD _ h.2⟩) h0 h1 h2 h3 h4 ih hn
theorem ExsAt.old {D : Nat → Prop} {w w' : World} (hb : Below w.heap.size w w') {l : List Ex} {v : Value} (h : ExsAt D w l v) : ExsAt D w' l v := h.keep (keeps_below hb)

/-- A slice of statements in the blocks D. -/
inductive StsAt (D : Nat → Prop) (w : World) : List St → Value → Prop
  | mk (l : List St) (a : Option Addr) (cap b off : Nat) (sa st se : Nat → Value) (hcap : l.length ≤ cap) (hfit : Fits l.length)
    (ha : l.length = 0 ∨ (a = some ⟨b, off, none⟩ ∧ D b))
    (h0 : ∀ i, i < l.length → w.cell? ⟨b, off + i * 5, none⟩ = some (.int .i64 (stAt l i).kind))
    (h1 : ∀ i, i < l.length → w.cell? ⟨b, off + i * 5 + 1, none⟩ = some (.string (strOf (stAt l i).name)))
    (h2 : ∀ i, i < l.length → w.cell? ⟨b, off + i * 5 + 2, none⟩ = some (sa i))
    (h3 : ∀ i, i < l.length → w.cell? ⟨b, off + i * 5 + 3, none⟩ = some (st i))
    (h4 : ∀ i, i < l.length → w.cell? ⟨b, off + i * 5 + 4, none⟩ = some (se i))
    (ea : ∀ i, i < l.length → ExsAt D w (stAt l i).args (sa i))
    (et : ∀ i, i < l.length → StsAt D w (stAt l i).thn (st i))
    (ee : ∀ i, i < l.length → StsAt D w (stAt l i).els (se i)) : StsAt D w l (.slice a l.length cap)
theorem StsAt.keep {D : Nat → Prop} {w w' : World} (hk : Keeps D w w') {l : List St} {v : Value} (h : StsAt D w l v) : StsAt D w' l v := by
  induction h with
  | mk l a cap b off sa st se hcap hfit ha h0 h1 h2 h3 h4 ea _ _ ih1 ih2 =>
    rcases ha with ha | ⟨ha, hD⟩
    · refine .mk l a cap b off sa st se hcap hfit (.inl ha) ?_ ?_ ?_ ?_ ?_ ?_ ih1 ih2 <;> (intro i hi; omega)
    · exact .mk l a cap b off sa st se hcap hfit (.inr ⟨ha, hD⟩) (fun i hi => hk _ _ _ hD (h0 i hi)) (fun i hi => hk _ _ _ hD (h1 i hi)) (fun i hi => hk _ _ _ hD (h2 i hi))
        (fun i hi => hk _ _ _ hD (h3 i hi)) (fun i hi => hk _ _ _ hD (h4 i hi)) (fun i hi => (ea i hi).keep hk) ih1 ih2
theorem StsAt.mono {D D' : Nat → Prop} {w : World} (hD : ∀ b, D b → D' b) {l : List St} {v : Value} (h : StsAt D w l v) : StsAt D' w l v := by
  induction h with
  | mk l a cap b off sa st se hcap hfit ha h0 h1 h2 h3 h4 ea _ _ ih1 ih2 => exact .mk l a cap b off sa st se hcap hfit (ha.imp id fun h => ⟨h.1, hD _ h.2⟩) h0 h1 h2 h3 h4 (fun i hi => (ea i hi).mono hD) ih1 ih2
theorem StsAt.old {D : Nat → Prop} {w w' : World} (hb : Below w.heap.size w w') {l : List St} {v : Value} (h : StsAt D w l v) : StsAt D w' l v := h.keep (keeps_below hb)
theorem ExsAt.shape {D : Nat → Prop} {w : World} {l : List Ex} {v : Value} (h : ExsAt D w l v) : ∃ a cap, v = .slice a l.length cap := by cases h; exact ⟨_, _, rfl⟩
theorem ExsAt.cell0 {D : Nat → Prop} {w : World} {l : List Ex} {a : Option Addr} {n cap : Nat} (h : ExsAt D w l (.slice a n cap)) (hl : 0 < l.length) : ∃ b off, a = some ⟨b, off, none⟩ ∧ w.cell? ⟨b, off, none⟩ = some (.int .i64 (exAt l 0).kind) := by
  cases h with
  | mk _ _ _ b off sv hcap hfit ha h0 =>
    rcases ha with ha | ⟨ha, _⟩
    · omega
    · exact ⟨b, off, ha, by simpa using h0 0 hl⟩
/-- The i-th expression: where it stands. -/
theorem ExsAt.cellAt {D : Nat → Prop} {w : World} {l : List Ex} {a : Option Addr} {n cap : Nat} (h : ExsAt D w l (.slice a n cap)) (i : Nat) (hl : i < l.length) : ∃ b off s, a = some ⟨b, off, none⟩ ∧ D b ∧
    w.cell? ⟨b, off + i * 5, none⟩ = some (.int .i64 (exAt l i).kind) ∧ w.cell? ⟨b, off + i * 5 + 1, none⟩ = some (.int .i64 (exAt l i).op) ∧ w.cell? ⟨b, off + i * 5 + 2, none⟩ = some (.int .i64 (exAt l i).n) ∧
    w.cell? ⟨b, off + i * 5 + 3, none⟩ = some (.string (strOf (exAt l i).name)) ∧ w.cell? ⟨b, off + i * 5 + 4, none⟩ = some s ∧ ExsAt D w (exAt l i).args s ∧ I64 (exAt l i).n := by
  cases h with
  | mk _ _ _ b off sv hcap hfit ha h0 h1 h2 h3 h4 hs hn =>
    rcases ha with ha | ⟨ha, hD⟩
    · omega
    · exact ⟨b, off, sv i, ha, hD, h0 i hl, h1 i hl, h2 i hl, h3 i hl, h4 i hl, hs i hl, hn i hl⟩
theorem ExsAt.fits {D : Nat → Prop} {w : World} {l : List Ex} {v : Value} (h : ExsAt D w l v) : Fits l.length := by
  cases h with
  | mk _ _ _ b off sv hcap hfit => exact hfit
theorem StsAt.shape {D : Nat → Prop} {w : World} {l : List St} {v : Value} (h : StsAt D w l v) : ∃ a cap, v = .slice a l.length cap := by cases h; exact ⟨_, _, rfl⟩
end Go.Proofs.YtcfpfnoldgnloaaGreatDoor

namespace Go.Proofs.YtcfpfnoldgnloaaGreatDoor
open Go.RowKit

/-- A slice of texts in the blocks D. -/
def StrsAt (D : Nat → Prop) (w : World) (l : List Bs) (v : Value) : Prop :=
  ∃ a cap b off, v = .slice a l.length cap ∧ l.length ≤ cap ∧ Fits l.length ∧ (l.length = 0 ∨ (a = some ⟨b, off, none⟩ ∧ D b)) ∧
    ∀ i, i < l.length → w.cell? ⟨b, off + i, none⟩ = some (.string (strOf (l.getD i [])))
theorem StrsAt.keep {D : Nat → Prop} {w w' : World} (hk : Keeps D w w') {l : List Bs} {v : Value} (h : StrsAt D w l v) : StrsAt D w' l v := by
  obtain ⟨a, cap, b, off, hv, h1, h2, h3, h4⟩ := h
  refine ⟨a, cap, b, off, hv, h1, h2, h3, fun i hi => ?_⟩
  rcases h3 with h3 | ⟨_, hD⟩
  · omega
  · exact hk _ _ _ hD (h4 i hi)
theorem StrsAt.old {D : Nat → Prop} {w w' : World} (hb : Below w.heap.size w w') {l : List Bs} {v : Value} (h : StrsAt D w l v) : StrsAt D w' l v := h.keep (keeps_below hb)
theorem StrsAt.mono {D D' : Nat → Prop} {w : World} (hD : ∀ b, D b → D' b) {l : List Bs} {v : Value} (h : StrsAt D w l v) : StrsAt D' w l v := by
  obtain ⟨a, cap, b, off, hv, h1, h2, h3, h4⟩ := h
  exact ⟨a, cap, b, off, hv, h1, h2, h3.imp id fun h => ⟨h.1, hD _ h.2⟩, h4⟩

def Ar.nil : Ar := ⟨[], 0⟩
def Fu.nil : Fu := ⟨[], [], [], []⟩
abbrev arAt (l : List Ar) (i : Nat) : Ar := l.getD i Ar.nil
abbrev fuAt (l : List Fu) (i : Nat) : Fu := l.getD i Fu.nil
def ArsAt (D : Nat → Prop) (w : World) (l : List Ar) (v : Value) : Prop :=
  ∃ a cap b off, v = .slice a l.length cap ∧ l.length ≤ cap ∧ Fits l.length ∧ (l.length = 0 ∨ (a = some ⟨b, off, none⟩ ∧ D b)) ∧
    ∀ i, i < l.length → w.cell? ⟨b, off + i * 2, none⟩ = some (.string (strOf (arAt l i).name)) ∧ w.cell? ⟨b, off + i * 2 + 1, none⟩ = some (.int .i64 (arAt l i).size)
theorem ArsAt.keep {D : Nat → Prop} {w w' : World} (hk : Keeps D w w') {l : List Ar} {v : Value} (h : ArsAt D w l v) : ArsAt D w' l v := by
  obtain ⟨a, cap, b, off, hv, h1, h2, h3, h4⟩ := h
  refine ⟨a, cap, b, off, hv, h1, h2, h3, fun i hi => ?_⟩
  rcases h3 with h3 | ⟨_, hD⟩
  · omega
  · exact ⟨hk _ _ _ hD (h4 i hi).1, hk _ _ _ hD (h4 i hi).2⟩
theorem ArsAt.old {D : Nat → Prop} {w w' : World} (hb : Below w.heap.size w w') {l : List Ar} {v : Value} (h : ArsAt D w l v) : ArsAt D w' l v := h.keep (keeps_below hb)
def FusAt (D : Nat → Prop) (w : World) (l : List Fu) (v : Value) : Prop :=
  ∃ a cap b off, ∃ pv lv bv : Nat → Value, v = .slice a l.length cap ∧ l.length ≤ cap ∧ Fits l.length ∧ (l.length = 0 ∨ (a = some ⟨b, off, none⟩ ∧ D b)) ∧
    ∀ i, i < l.length → (w.cell? ⟨b, off + i * 4, none⟩ = some (.string (strOf (fuAt l i).name)) ∧ w.cell? ⟨b, off + i * 4 + 1, none⟩ = some (pv i) ∧ w.cell? ⟨b, off + i * 4 + 2, none⟩ = some (lv i) ∧ w.cell? ⟨b, off + i * 4 + 3, none⟩ = some (bv i)) ∧
      StrsAt D w (fuAt l i).params (pv i) ∧ StrsAt D w (fuAt l i).locals (lv i) ∧ StsAt D w (fuAt l i).body (bv i)
theorem FusAt.keep {D : Nat → Prop} {w w' : World} (hk : Keeps D w w') {l : List Fu} {v : Value} (h : FusAt D w l v) : FusAt D w' l v := by
  obtain ⟨a, cap, b, off, pv, lv, bv, hv, h1, h2, h3, h4⟩ := h
  refine ⟨a, cap, b, off, pv, lv, bv, hv, h1, h2, h3, fun i hi => ?_⟩
  rcases h3 with h3 | ⟨_, hD⟩
  · omega
  · obtain ⟨⟨c0, c1, c2, c3⟩, e1, e2, e3⟩ := h4 i hi
    exact ⟨⟨hk _ _ _ hD c0, hk _ _ _ hD c1, hk _ _ _ hD c2, hk _ _ _ hD c3⟩, e1.keep hk, e2.keep hk, e3.keep hk⟩
theorem FusAt.old {D : Nat → Prop} {w w' : World} (hb : Below w.heap.size w w') {l : List Fu} {v : Value} (h : FusAt D w l v) : FusAt D w' l v := h.keep (keeps_below hb)
theorem arAt_mem {l : List Ar} {i : Nat} (h : i < l.length) : arAt l i ∈ l := by
  simp only [arAt, List.getD_eq_getElem?_getD, List.getElem?_eq_getElem h, Option.getD_some]; exact List.getElem_mem h
theorem fuAt_mem {l : List Fu} {i : Nat} (h : i < l.length) : fuAt l i ∈ l := by
  simp only [fuAt, List.getD_eq_getElem?_getD, List.getElem?_eq_getElem h, Option.getD_some]; exact List.getElem_mem h
/-- A test that holds of the first n of n. -/
theorem all_of_at {α : Type} (l : List α) (d : α) (f : α → Bool) (h : ∀ i, i < l.length → f (l.getD i d) = true) : l.all f = true := by
  rw [List.all_eq_true]
  intro x hx
  obtain ⟨i, hi, rfl⟩ := List.getElem_of_mem hx
  have := h i hi
  rwa [List.getD_eq_getElem?_getD, List.getElem?_eq_getElem hi, Option.getD_some] at this
theorem all_false_at {α : Type} (l : List α) (d : α) (f : α → Bool) (i : Nat) (hi : i < l.length) (h : f (l.getD i d) = false) : l.all f = false := by
  rw [List.all_eq_false]
  refine ⟨l[i], List.getElem_mem hi, ?_⟩
  rw [List.getD_eq_getElem?_getD, List.getElem?_eq_getElem hi, Option.getD_some] at h
  simp [h]
end Go.Proofs.YtcfpfnoldgnloaaGreatDoor

namespace Go.Proofs.YtcfpfnoldgnloaaGreatDoor
open Go.RowKit
set_option maxHeartbeats 4000000
set_option maxRecDepth 100000

/-- What may have changed: the source; new blocks. -/
structure SFr (s : Nat) (w w' : World) : Prop where
  os : w'.os = w.os
  tape : w'.tape = w.tape
  output : w'.output = w.output
  size : w.heap.size ≤ w'.heap.size
  block : ∀ k, k < w.heap.size → k ≠ s → w'.heap[k]? = w.heap[k]?
theorem SFr.refl (s : Nat) (w : World) : SFr s w w := ⟨rfl, rfl, rfl, Nat.le_refl _, fun _ _ _ => rfl⟩
theorem SFr.trans {s : Nat} {u v w : World} (h : SFr s u v) (k : SFr s v w) : SFr s u w :=
  ⟨k.os.trans h.os, k.tape.trans h.tape, k.output.trans h.output, Nat.le_trans h.size k.size, fun i hi hb => (k.block i (Nat.lt_of_lt_of_le hi h.size) hb).trans (h.block i hi hb)⟩
theorem SFr.of_below {s : Nat} {w w' : World} (h : Below w.heap.size w w') : SFr s w w' := ⟨h.os, h.tape, h.output, h.size, fun k hk _ => h.block k hk⟩
theorem SFr.below {s : Nat} {w w' : World} (h : SFr s w w') (hs : s ≤ w.heap.size) : Below s w w' :=
  ⟨h.os, h.tape, h.output, h.size, fun k hk => h.block k (by omega) (by omega)⟩
theorem SFr.cell {s : Nat} {w w' : World} (h : SFr s w w') {b off : Nat} {x : Value} (hb : b ≠ s) (hx : w.cell? ⟨b, off, none⟩ = some x) : w'.cell? ⟨b, off, none⟩ = some x := by
  rw [World.cell?_of_block (w := w) (h.block b (World.block_lt_of_cell? _ _ hx) hb)]; exact hx
theorem SFr.keeps {s : Nat} {w w' : World} (h : SFr s w w') : Keeps (· ≠ s) w w' := fun _ _ _ hD hx => h.cell hD hx
theorem SFr.keepsD {s : Nat} {w w' : World} (h : SFr s w w') {D : Nat → Prop} (hD : ∀ b, D b → b ≠ s) : Keeps D w w' := fun _ _ _ hd hx => h.cell (hD _ hd) hx
theorem SFr.drewN {s n : Nat} {w w1 : World} (h : SFr s w w1) : SFr s w (w1.drewN n) := ⟨h.os, h.tape, h.output, h.size, h.block⟩
def OwnAt (w : World) (b : Nat) (cs : List Value) (T : TypeId) : Prop := w.heap[b]? = some (.cells cs.toArray T (0, 0))
theorem OwnAt.new (w : World) (cs : List Value) (T : TypeId) : OwnAt (w.alloc (.cells cs.toArray T)) w.heap.size cs T := Array.getElem?_push_size
theorem OwnAt.lt {w : World} {b : Nat} {cs : List Value} {T : TypeId} (h : OwnAt w b cs T) : b < w.heap.size := by
  rcases Nat.lt_or_ge b w.heap.size with h' | h'
  · exact h'
  · unfold OwnAt at h; simp [Array.getElem?_eq_none h'] at h
theorem OwnAt.at {w : World} {b : Nat} {cs : List Value} {T : TypeId} (h : OwnAt w b cs T) (i : Nat) (v : Value) (hi : cs[i]? = some v) : w.cell? ⟨b, i, none⟩ = some v := by
  rw [Lib.cell_of_heap h]; simpa using hi
theorem OwnAt.fz {w : World} {b : Nat} {cs : List Value} {T : TypeId} (h : OwnAt w b cs T) (i : Nat) : w.frozen? ⟨b, i, none⟩ = false := Lib.frozen_of_heap h i
theorem OwnAt.old {w w' : World} {b : Nat} {cs : List Value} {T : TypeId} (h : OwnAt w b cs T) (hb : Below w.heap.size w w') : OwnAt w' b cs T := (hb.block b h.lt).trans h
theorem OwnAt.alloc {w : World} {b : Nat} {cs : List Value} {T : TypeId} (h : OwnAt w b cs T) (o : Obj) : OwnAt (w.alloc o) b cs T := h.old ((Below.refl _ _).alloc (Nat.le_refl _) _)
theorem OwnAt.sfr {s : Nat} {w w' : World} {b : Nat} {cs : List Value} {T : TypeId} (h : OwnAt w b cs T) (hf : SFr s w w') (hb : b ≠ s) : OwnAt w' b cs T := (hf.block b h.lt hb).trans h
theorem OwnAt.set {w : World} {b : Nat} {cs : List Value} {T : TypeId} (h : OwnAt w b cs T) (i : Nat) (v : Value) : OwnAt (w.setCell ⟨b, i, none⟩ v) b (cs.set i v) T := by
  unfold OwnAt at *
  simp [World.setCell, Array.getElem?_modify, h]
theorem OwnAt.other {w : World} {b : Nat} {cs : List Value} {T : TypeId} (h : OwnAt w b cs T) {k : Nat} (hk : b ≠ k) (i : Nat) (v : Value) : OwnAt (w.setCell ⟨k, i, none⟩ v) b cs T := by
  unfold OwnAt at *
  rw [Below.heap_setCell _ _ _ _ hk]; exact h
theorem keeps_set {D : Nat → Prop} (w : World) {k : Nat} (hD : ¬ D k) (i : Nat) (v : Value) : Keeps D w (w.setCell ⟨k, i, none⟩ v) := fun b off x hb hx => by
  rw [World.cell?_of_block (w := w) (Below.heap_setCell _ _ _ _ (by rintro rfl; exact hD hb))]; exact hx
theorem cell_set_ne (w : World) {b c i j : Nat} {v : Value} (h : c ≠ b) : (w.setCell ⟨b, i, none⟩ v).cell? ⟨c, j, none⟩ = w.cell? ⟨c, j, none⟩ :=
  World.cell?_of_block (w := w) (Below.heap_setCell _ _ _ _ h)
theorem SFr.setNew {s : Nat} {w w1 : World} (h : SFr s w w1) {b : Nat} (hb : w.heap.size ≤ b) (i : Nat) (v : Value) : SFr s w (w1.setCell ⟨b, i, none⟩ v) :=
  ⟨h.os, h.tape, h.output, by simpa [World.setCell] using h.size, fun k hk hs => (Below.heap_setCell _ _ _ _ (by show k ≠ b; omega)).trans (h.block k hk hs)⟩
theorem keeps_mono {D D' : Nat → Prop} {w w' : World} (h : Keeps D' w w') (hD : ∀ b, D b → D' b) : Keeps D w w' := fun b off x hb hx => h b off x (hD b hb) hx
theorem SFr.fresh {s : Nat} {w w' : World} (h : SFr s w w') {B : Nat} (hB : s < B) : Keeps (B ≤ ·) w w' := h.keepsD (fun b hb => by show b ≠ s; have : B ≤ b := hb; omega)
theorem set_fresh (w : World) {B k : Nat} (hk : k < B) (i : Nat) (v : Value) : Keeps (B ≤ ·) w (w.setCell ⟨k, i, none⟩ v) := keeps_set w (by omega) i v
end Go.Proofs.YtcfpfnoldgnloaaGreatDoor
