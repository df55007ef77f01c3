/-
  Small words for the walks of this seat: what a call may change, lists in memory, and closing lemmas. No condition.
  Plain data and plain functions: programs as trees, the operators' signs and levels, names. No program in sight.
  Programs as trees in memory: which cells hold them; that they stay where nothing is written. No condition.
  Names, arrays, functions and programs in memory. No condition.
-/
import Derived.Test.YtcfpfnoldgnloaaGreatDoorProg
import Derived.WalkKit
import Derived.WalkSpells
import Derived.WalkLawsBesides
import Derived.Laws.EntriesVeiled
import Derived.Deep.QuietTactic
import Derived.BigQuiet
import Derived.Deep.RegionHeld3
import Derived.Deep.RegionWith
import Derived.StillTailTactics
import Derived.Deep.RegionLaw
import Derived.Deep.Cut
import Derived.Deep.DeepCutAuto
import Derived.Deep.DeepFit
import Derived.Deep.DeepMust
import Derived.Deep.LoopGhost
import Derived.Lib.Hide
import Derived.KernelRfl
import Derived.Below
set_option linter.unusedVariables false
set_option linter.unusedSimpArgs false
namespace Go.Proofs.YtcfpfnoldgnloaaGreatDoor
open Go.RowKit

theorem ret_int {k : IntKind} {a b : Int} (h : a = b) : Ending.returned (.int k a) = .returned (.int k b) := by rw [h]
theorem ret_bool {a b : Bool} (h : a = b) : Ending.returned (.bool a) = .returned (.bool b) := by rw [h]

/-- What the walk may use behind a contract that ends in Below: old cells and old marks read as before. -/
theorem bcell {W w1 : World} (hb : Below W.heap.size W w1) : (∀ b o, b < W.heap.size → w1.cell? ⟨b, o, none⟩ = W.cell? ⟨b, o, none⟩) ∧ (∀ b o, b < W.heap.size → w1.frozen? ⟨b, o, none⟩ = W.frozen? ⟨b, o, none⟩) :=
  ⟨fun b o h => hb.cell (p := ⟨b, o, none⟩) h, fun b o h => hb.frozen (p := ⟨b, o, none⟩) h⟩

/-- A run of cells. -/
def RowAt (w : World) (b off : Nat) (cs : List Value) : Prop := ∀ i (h : i < cs.length), w.cell? ⟨b, off + i, none⟩ = some cs[i]

/-- Every old cell is there in the later world. -/
theorem below_keeps {w w' : World} (h : Below w.heap.size w w') {a : Addr} {x : Value} (hx : w.cell? a = some x) : w'.cell? a = some x := by
  rw [h.cell (p := a) (World.block_lt_of_cell? w a hx)]; exact hx
theorem RowAt.below {w w' : World} (h : Below w.heap.size w w') {b off : Nat} {cs : List Value} (hr : RowAt w b off cs) : RowAt w' b off cs :=
  fun i hi => below_keeps h (hr i hi)

/-- What is stored where it stands already. -/
theorem setCell_self {w : World} {a : Addr} {v : Value} (h : w.cell? a = some v) : w.setCell a v = w := by
  have hb := World.block_lt_of_cell? w a h
  unfold World.cell? at h
  rw [Array.getElem?_eq_getElem hb] at h
  cases ho : w.heap[a.block] with
  | cells c e fz =>
    simp only [ho] at h
    cases hs : a.spot.isSome with
    | true => simp [hs] at h
    | false =>
      simp only [hs, Bool.false_eq_true, if_false] at h
      have hc : c.setIfInBounds a.off v = c := by
        apply Array.ext_getElem?
        intro i
        rw [Array.getElem?_setIfInBounds]
        by_cases hi : a.off = i
        · subst hi
          have hlt : a.off < c.size := by
            rcases Nat.lt_or_ge a.off c.size with h' | h'
            · exact h'
            · rw [Array.getElem?_eq_none h'] at h; cases h
          rw [Array.getElem?_eq_getElem hlt] at h
          simp [hlt, Option.some.inj h]
        · simp [hi]
      have hh : (w.setCell a v).heap = w.heap := by
        apply Array.ext_getElem?
        intro i
        simp only [World.setCell, Array.getElem?_modify]
        by_cases hi : a.block = i
        · subst hi
          simp [Array.getElem?_eq_getElem hb, ho, hs, hc]
        · simp [hi]
      have he : w.setCell a v = { w with heap := (w.setCell a v).heap } := rfl
      rw [he, hh]
  | _ => simp [ho] at h

/-- The first place below n at which a test says yes, else -1. -/
def firstN (p : Nat → Bool) : Nat → Int
  | 0 => -1
  | n + 1 => let r := firstN p n; if 0 ≤ r then r else if p n then n else -1
/-- Does a test say yes somewhere below n? -/
def anyN (p : Nat → Bool) (n : Nat) : Bool := (List.range n).any p
theorem firstN_none (p : Nat → Bool) : ∀ n, (∀ i, i < n → p i = false) → firstN p n = -1
  | 0, _ => rfl
  | n + 1, h => by
    have ih := firstN_none p n (fun i hi => h i (by omega))
    simp [firstN, ih, h n (by omega)]
theorem firstN_at (p : Nat → Bool) (j : Nat) (hp : p j = true) (h : ∀ i, i < j → p i = false) : ∀ n, j < n → firstN p n = j
  | 0, hn => by omega
  | n + 1, hn => by
    by_cases hj : j = n
    · subst hj
      have := firstN_none p j h
      simp [firstN, this, hp]
    · have ih := firstN_at p j hp h n (by omega)
      simp [firstN, ih]
theorem anyN_false {p : Nat → Bool} {n : Nat} (h : ∀ i, i < n → p i = false) : anyN p n = false := by
  simp only [anyN, List.any_eq_false, List.mem_range]; intro x hx; simp [h x hx]
theorem anyN_true {p : Nat → Bool} {n j : Nat} (hj : j < n) (h : p j = true) : anyN p n = true := by
  simp only [anyN, List.any_eq_true, List.mem_range]; exact ⟨j, hj, h⟩
theorem firstN_range (p : Nat → Bool) (n : Nat) : (firstN p n = -1 ∧ ∀ i, i < n → p i = false) ∨ ∃ j, j < n ∧ p j = true ∧ firstN p n = j := by
  induction n with
  | zero => exact .inl ⟨rfl, fun i hi => by omega⟩
  | succ n ih =>
    rcases ih with ⟨e, h⟩ | ⟨j, hj, hp, e⟩
    · cases hp : p n
      · refine .inl ⟨by simp [firstN, e, hp], fun i hi => ?_⟩
        rcases Nat.lt_succ_iff_lt_or_eq.1 hi with h' | rfl
        · exact h i h'
        · exact hp
      · exact .inr ⟨n, by omega, hp, by simp [firstN, e, hp]⟩
    · exact .inr ⟨j, by omega, hp, by simp [firstN, e]⟩
theorem decide_firstN (p : Nat → Bool) (n : Nat) : decide (0 ≤ firstN p n) = anyN p n := by
  rcases firstN_range p n with ⟨e, h⟩ | ⟨j, hj, hp, e⟩
  · rw [e, anyN_false h]; rfl
  · rw [e, anyN_true hj hp]; simp
theorem anyN_list {α : Type} (f : α → Bool) (p : Nat → Bool) (l : List α) (h : ∀ i (hi : i < l.length), p i = f l[i]) : anyN p l.length = l.any f := by
  rw [Bool.eq_iff_iff]
  simp only [anyN, List.any_eq_true, List.mem_range]
  constructor
  · rintro ⟨i, hi, hp⟩; exact ⟨l[i], List.getElem_mem hi, by rw [← h i hi]; exact hp⟩
  · rintro ⟨x, hx, hf⟩; obtain ⟨i, hi, rfl⟩ := List.getElem_of_mem hx; exact ⟨i, hi, by rw [h i hi]; exact hf⟩
end Go.Proofs.YtcfpfnoldgnloaaGreatDoor

namespace Go.Proofs.YtcfpfnoldgnloaaGreatDoor

/-- Texts as lists of bytes. -/
abbrev Bs := List UInt8
abbrev strOf (l : Bs) : ByteArray := ⟨l.toArray⟩
theorem strOf_data (s : ByteArray) : s = strOf s.data.toList := by cases s; simp [strOf]

inductive Ex where
  | mk (kind op n : Int) (name : Bs) (args : List Ex)
namespace Ex
def kind : Ex → Int | mk k _ _ _ _ => k
def op : Ex → Int | mk _ o _ _ _ => o
def n : Ex → Int | mk _ _ n _ _ => n
def name : Ex → Bs | mk _ _ _ s _ => s
def args : Ex → List Ex | mk _ _ _ _ l => l
theorem eta (e : Ex) : e = mk e.kind e.op e.n e.name e.args := by cases e; rfl
end Ex

inductive St where
  | mk (kind : Int) (name : Bs) (args : List Ex) (thn els : List St)
namespace St
def kind : St → Int | mk k _ _ _ _ => k
def name : St → Bs | mk _ s _ _ _ => s
def args : St → List Ex | mk _ _ l _ _ => l
def thn : St → List St | mk _ _ _ l _ => l
def els : St → List St | mk _ _ _ _ l => l
end St

structure Fu where
  name : Bs
  params : List Bs
  locals : List Bs
  body : List St
structure Ar where
  name : Bs
  size : Int
structure Pr where
  arrays : List Ar
  funcs : List Fu

/-- An operator's sign and level. -/
def signOf (op : Int) : Bs :=
  if op = 1 then [43] else if op = 2 then [45] else if op = 3 then [42] else if op = 4 then [47] else if op = 5 then [37]
  else if op = 6 then [38] else if op = 7 then [124] else if op = 8 then [94] else if op = 9 then [60, 60] else if op = 10 then [62, 62]
  else if op = 11 then [60] else if op = 12 then [60, 61] else if op = 13 then [62] else if op = 14 then [62, 61] else if op = 15 then [61, 61]
  else if op = 16 then [33, 61] else if op = 17 then [45] else if op = 18 then [33] else if op = 19 then [126] else []
def levelOf (op : Int) : Int :=
  if op = 1 then 7 else if op = 2 then 7 else if op = 3 then 8 else if op = 4 then 8 else if op = 5 then 8
  else if op = 6 then 3 else if op = 7 then 1 else if op = 8 then 2 else if op = 9 then 6 else if op = 10 then 6
  else if op = 11 then 5 else if op = 12 then 5 else if op = 13 then 5 else if op = 14 then 5 else if op = 15 then 4
  else if op = 16 then 4 else 0

/-- Letters, digits, words, names. -/
def isLetter (c : UInt8) : Bool := c == 95 || (97 ≤ c && c ≤ 122) || (65 ≤ c && c ≤ 90)
def isDigit (c : UInt8) : Bool := 48 ≤ c && c ≤ 57
def wordList : List Bs := [[105, 110, 116], [105, 102], [101, 108, 115, 101], [119, 104, 105, 108, 101], [98, 114, 101, 97, 107], [99, 111, 110, 116, 105, 110, 117, 101], [114, 101, 116, 117, 114, 110], [112, 114, 105, 110, 116], [114, 101, 97, 100], [116, 114, 97, 112]]
def isWord (l : Bs) : Bool := wordList.contains l
/-- Is each character from place i on one that may stand there? -/
def isNameAt : Bool → Bs → Bool
  | _, [] => true
  | first, c :: l => (isLetter c || (!first && isDigit c)) && isNameAt false l
def isName (l : Bs) : Bool := !l.isEmpty && decide (l.length ≤ 20) && !isWord l && isNameAt true l

/-- Which expressions may be. -/
def deepOk : Nat → Ex → Bool
  | 0, _ => false
  | m + 1, e => e.args.all (deepOk m)
def onlyOp (e : Ex) : Int := if e.kind = 3 ∨ e.kind = 4 then e.op else 0
def onlyN (e : Ex) : Int := if e.kind = 1 then e.n else 0
def onlyName (e : Ex) : Bs := if e.kind = 2 ∨ e.kind = 5 ∨ e.kind = 6 then e.name else []
def onlyArgs (e : Ex) : Int := if e.kind = 3 ∨ e.kind = 6 then 1 else if e.kind = 4 then 2 else if e.kind = 5 then e.args.length else 0
def onlyOk (e : Ex) : Bool :=
  if e.kind = 1 then decide (0 ≤ e.n) else if e.kind = 2 then isName e.name else if e.kind = 3 then decide (e.op = 17 ∨ e.op = 18 ∨ e.op = 19)
  else if e.kind = 4 then decide (0 < levelOf e.op) else if e.kind = 5 then isName e.name && decide ((e.args.length : Int) ≤ 6)
  else if e.kind = 6 then isName e.name else decide (e.kind = 7)
def wellHere (e : Ex) : Bool := onlyOk e && ((e.args.length : Int) == onlyArgs e) && (onlyOp e == e.op) && (onlyN e == e.n) && (onlyName e == e.name)
mutual
def wellOk : Ex → Bool
  | .mk k o n nm args => wellHere (.mk k o n nm args) && wellAll args
def wellAll : List Ex → Bool
  | [] => true
  | x :: l => wellOk x && wellAll l
end
theorem wellAll_eq : ∀ l, wellAll l = l.all wellOk
  | [] => rfl
  | x :: l => by simp [wellAll, wellAll_eq l]
theorem wellOk_eq (e : Ex) : wellOk e = (wellHere e && e.args.all wellOk) := by
  cases e; rw [wellOk, wellAll_eq]; rfl
def rightEx (e : Ex) : Bool := deepOk 40 e && wellOk e

/-- What a kind of statements has. -/
def fNamed (k : Int) : Bool := decide (k = 1 ∨ k = 2)
def fArgs (k : Int) : Int := if k = 2 then 2 else if k = 1 ∨ k = 3 ∨ k = 4 ∨ k = 7 ∨ k = 8 ∨ k = 9 ∨ k = 10 then 1 else 0
def fThen (k : Int) : Bool := decide (k = 3 ∨ k = 4)
def fMore (k : Int) : Bool := decide (k = 3)
def fOk (k : Int) : Bool := decide (1 ≤ k ∧ k ≤ 10)
def stBad1 (most : Int) (x : St) : Bool := !fOk x.kind || most == 0 || !((x.args.length : Int) == fArgs x.kind) || (!fThen x.kind && !x.thn.isEmpty) || (!fMore x.kind && !x.els.isEmpty)
def stBad2 (x : St) : Bool := !(fNamed x.kind == isName x.name) || (!fNamed x.kind && !(x.name == [])) || (x.kind == 10 && !((x.args.headD (.mk 0 0 0 [] [])).kind == 5))
def stOk : Nat → St → Bool
  | 0, _ => false
  | m + 1, x => !stBad1 (m + 1) x && !stBad2 x && x.args.all rightEx && x.thn.all (stOk m) && x.els.all (stOk m)
def rightFu (f : Fu) : Bool := isName f.name && f.params.all isName && f.locals.all isName && decide (f.params.length ≤ 6) && f.body.all (stOk 40)
def rightAr (a : Ar) : Bool := isName a.name && decide (1 ≤ a.size ∧ a.size ≤ 1048576)
def rightPr (p : Pr) : Bool := p.arrays.all rightAr && p.funcs.all rightFu
theorem Ex.size_lt {e x : Ex} (h : x ∈ e.args) : SizeOf.sizeOf x < SizeOf.sizeOf e := by
  cases e with
  | mk k o n nm args =>
    have := List.sizeOf_lt_of_mem (show x ∈ args from h)
    simp only [Ex.mk.sizeOf_spec]; omega
end Go.Proofs.YtcfpfnoldgnloaaGreatDoor

namespace Go.Proofs.YtcfpfnoldgnloaaGreatDoor
open Go.RowKit

def Fits (n : Nat) : Prop := n ≤ 140737488355328
theorem Fits.out {n : Nat} (h : Fits n) : n ≤ 140737488355328 := h
theorem Fits.lt {n : Nat} (h : Fits n) : n < 9223372036854775807 := by have := h.out; omega
theorem Fits.mono {m n : Nat} (h : Fits n) (hm : m ≤ n) : Fits m := Nat.le_trans hm h

/-- An int of 64 bits. -/
def I64 (n : Int) : Prop := -9223372036854775808 ≤ n ∧ n ≤ 9223372036854775807
def Ex.nil : Ex := .mk 0 0 0 [] []
abbrev exAt (l : List Ex) (i : Nat) : Ex := l.getD i Ex.nil
def St.nil : St := .mk 0 [] [] [] []
abbrev stAt (l : List St) (i : Nat) : St := l.getD i St.nil

/-- A slice of expressions in the blocks D. -/
inductive ExsAt (D : Nat → Prop) (w : World) : List Ex → Value → Prop
  | mk (l : List Ex) (a : Option Addr) (cap b off : Nat) (sv : Nat → Value) (hcap : l.length ≤ cap) (hfit : Fits l.length)
    (ha : l.length = 0 ∨ (a = some ⟨b, off, none⟩ ∧ D b))
    (h0 : ∀ i, i < l.length → w.cell? ⟨b, off + i * 5, none⟩ = some (.int .i64 (exAt l i).kind))
    (h1 : ∀ i, i < l.length → w.cell? ⟨b, off + i * 5 + 1, none⟩ = some (.int .i64 (exAt l i).op))
    (h2 : ∀ i, i < l.length → w.cell? ⟨b, off + i * 5 + 2, none⟩ = some (.int .i64 (exAt l i).n))
    (h3 : ∀ i, i < l.length → w.cell? ⟨b, off + i * 5 + 3, none⟩ = some (.string (strOf (exAt l i).name)))
    (h4 : ∀ i, i < l.length → w.cell? ⟨b, off + i * 5 + 4, none⟩ = some (sv i))
    (hs : ∀ i, i < l.length → ExsAt D w (exAt l i).args (sv i))
    (hn : ∀ i, i < l.length → I64 (exAt l i).n) : ExsAt D w l (.slice a l.length cap)

/-- What is kept: the cells of the blocks D. -/
def Keeps (D : Nat → Prop) (w w' : World) : Prop := ∀ b off x, D b → w.cell? ⟨b, off, none⟩ = some x → w'.cell? ⟨b, off, none⟩ = some x
theorem Keeps.refl (D : Nat → Prop) (w : World) : Keeps D w w := fun _ _ _ _ h => h
theorem Keeps.trans {D : Nat → Prop} {a b c : World} (h : Keeps D a b) (k : Keeps D b c) : Keeps D a c := fun _ _ _ d x => k _ _ _ d (h _ _ _ d x)
theorem keeps_below {D : Nat → Prop} {w w' : World} (h : Below w.heap.size w w') : Keeps D w w' := fun _ _ _ _ hx => below_keeps h hx

theorem ExsAt.keep {D : Nat → Prop} {w w' : World} (hk : Keeps D w w') {l : List Ex} {v : Value} (h : ExsAt D w l v) : ExsAt D w' l v := by
  induction h with
  | mk l a cap b off sv hcap hfit ha h0 h1 h2 h3 h4 _ hn ih =>
    rcases ha with ha | ⟨ha, hD⟩
    · refine .mk l a cap b off sv hcap hfit (.inl ha) ?_ ?_ ?_ ?_ ?_ ih hn <;> (intro i hi; omega)
    · exact .mk l a cap b off sv hcap hfit (.inr ⟨ha, hD⟩) (fun i hi => hk _ _ _ hD (h0 i hi)) (fun i hi => hk _ _ _ hD (h1 i hi)) (fun i hi => hk _ _ _ hD (h2 i hi))
        (fun i hi => hk _ _ _ hD (h3 i hi)) (fun i hi => hk _ _ _ hD (h4 i hi)) ih hn
theorem ExsAt.mono {D D' : Nat → Prop} {w : World} (hD : ∀ b, D b → D' b) {l : List Ex} {v : Value} (h : ExsAt D w l v) : ExsAt D' w l v := by
  induction h with
  | mk l a cap b off sv hcap hfit ha h0 h1 h2 h3 h4 _ hn ih => exact .mk l a cap b off sv hcap hfit (ha.imp id fun h => ⟨h.1, hD _ h.2⟩) h0 h1 h2 h3 h4 ih hn
theorem ExsAt.old {D : Nat → Prop} {w w' : World} (hb : Below w.heap.size w w') {l : List Ex} {v : Value} (h : ExsAt D w l v) : ExsAt D w' l v := h.keep (keeps_below hb)

/-- A slice of statements in the blocks D. -/
inductive StsAt (D : Nat → Prop) (w : World) : List St → Value → Prop
  | mk (l : List St) (a : Option Addr) (cap b off : Nat) (sa st se : Nat → Value) (hcap : l.length ≤ cap) (hfit : Fits l.length)
    (ha : l.length = 0 ∨ (a = some ⟨b, off, none⟩ ∧ D b))
    (h0 : ∀ i, i < l.length → w.cell? ⟨b, off + i * 5, none⟩ = some (.int .i64 (stAt l i).kind))
    (h1 : ∀ i, i < l.length → w.cell? ⟨b, off + i * 5 + 1, none⟩ = some (.string (strOf (stAt l i).name)))
    (h2 : ∀ i, i < l.length → w.cell? ⟨b, off + i * 5 + 2, none⟩ = some (sa i))
    (h3 : ∀ i, i < l.length → w.cell? ⟨b, off + i * 5 + 3, none⟩ = some (st i))
    (h4 : ∀ i, i < l.length → w.cell? ⟨b, off + i * 5 + 4, none⟩ = some (se i))
    (ea : ∀ i, i < l.length → ExsAt D w (stAt l i).args (sa i))
    (et : ∀ i, i < l.length → StsAt D w (stAt l i).thn (st i))
    (ee : ∀ i, i < l.length → StsAt D w (stAt l i).els (se i)) : StsAt D w l (.slice a l.length cap)
theorem StsAt.keep {D : Nat → Prop} {w w' : World} (hk : Keeps D w w') {l : List St} {v : Value} (h : StsAt D w l v) : StsAt D w' l v := by
  induction h with
  | mk l a cap b off sa st se hcap hfit ha h0 h1 h2 h3 h4 ea _ _ ih1 ih2 =>
    rcases ha with ha | ⟨ha, hD⟩
    · refine .mk l a cap b off sa st se hcap hfit (.inl ha) ?_ ?_ ?_ ?_ ?_ ?_ ih1 ih2 <;> (intro i hi; omega)
    · exact .mk l a cap b off sa st se hcap hfit (.inr ⟨ha, hD⟩) (fun i hi => hk _ _ _ hD (h0 i hi)) (fun i hi => hk _ _ _ hD (h1 i hi)) (fun i hi => hk _ _ _ hD (h2 i hi))
        (fun i hi => hk _ _ _ hD (h3 i hi)) (fun i hi => hk _ _ _ hD (h4 i hi)) (fun i hi => (ea i hi).keep hk) ih1 ih2
theorem StsAt.mono {D D' : Nat → Prop} {w : World} (hD : ∀ b, D b → D' b) {l : List St} {v : Value} (h : StsAt D w l v) : StsAt D' w l v := by
  induction h with
  | mk l a cap b off sa st se hcap hfit ha h0 h1 h2 h3 h4 ea _ _ ih1 ih2 => exact .mk l a cap b off sa st se hcap hfit (ha.imp id fun h => ⟨h.1, hD _ h.2⟩) h0 h1 h2 h3 h4 (fun i hi => (ea i hi).mono hD) ih1 ih2
theorem StsAt.old {D : Nat → Prop} {w w' : World} (hb : Below w.heap.size w w') {l : List St} {v : Value} (h : StsAt D w l v) : StsAt D w' l v := h.keep (keeps_below hb)
theorem ExsAt.shape {D : Nat → Prop} {w : World} {l : List Ex} {v : Value} (h : ExsAt D w l v) : ∃ a cap, v = .slice a l.length cap := by cases h; exact ⟨_, _, rfl⟩
theorem ExsAt.cell0 {D : Nat → Prop} {w : World} {l : List Ex} {a : Option Addr} {n cap : Nat} (h : ExsAt D w l (.slice a n cap)) (hl : 0 < l.length) : ∃ b off, a = some ⟨b, off, none⟩ ∧ w.cell? ⟨b, off, none⟩ = some (.int .i64 (exAt l 0).kind) := by
  cases h with
  | mk _ _ _ b off sv hcap hfit ha h0 =>
    rcases ha with ha | ⟨ha, _⟩
    · omega
    · exact ⟨b, off, ha, by simpa using h0 0 hl⟩
/-- The i-th expression: where it stands. -/
theorem ExsAt.cellAt {D : Nat → Prop} {w : World} {l : List Ex} {a : Option Addr} {n cap : Nat} (h : ExsAt D w l (.slice a n cap)) (i : Nat) (hl : i < l.length) : ∃ b off s, a = some ⟨b, off, none⟩ ∧ D b ∧
    w.cell? ⟨b, off + i * 5, none⟩ = some (.int .i64 (exAt l i).kind) ∧ w.cell? ⟨b, off + i * 5 + 1, none⟩ = some (.int .i64 (exAt l i).op) ∧ w.cell? ⟨b, off + i * 5 + 2, none⟩ = some (.int .i64 (exAt l i).n) ∧
    w.cell? ⟨b, off + i * 5 + 3, none⟩ = some (.string (strOf (exAt l i).name)) ∧ w.cell? ⟨b, off + i * 5 + 4, none⟩ = some s ∧ ExsAt D w (exAt l i).args s ∧ I64 (exAt l i).n := by
  cases h with
  | mk _ _ _ b off sv hcap hfit ha h0 h1 h2 h3 h4 hs hn =>
    rcases ha with ha | ⟨ha, hD⟩
    · omega
    · exact ⟨b, off, sv i, ha, hD, h0 i hl, h1 i hl, h2 i hl, h3 i hl, h4 i hl, hs i hl, hn i hl⟩
theorem ExsAt.fits {D : Nat → Prop} {w : World} {l : List Ex} {v : Value} (h : ExsAt D w l v) : Fits l.length := by
  cases h with
  | mk _ _ _ b off sv hcap hfit => exact hfit
theorem StsAt.shape {D : Nat → Prop} {w : World} {l : List St} {v : Value} (h : StsAt D w l v) : ∃ a cap, v = .slice a l.length cap := by cases h; exact ⟨_, _, rfl⟩
end Go.Proofs.YtcfpfnoldgnloaaGreatDoor

namespace Go.Proofs.YtcfpfnoldgnloaaGreatDoor
open Go.RowKit

/-- A slice of texts in the blocks D. -/
def StrsAt (D : Nat → Prop) (w : World) (l : List Bs) (v : Value) : Prop :=
  ∃ a cap b off, v = .slice a l.length cap ∧ l.length ≤ cap ∧ Fits l.length ∧ (l.length = 0 ∨ (a = some ⟨b, off, none⟩ ∧ D b)) ∧
    ∀ i, i < l.length → w.cell? ⟨b, off + i, none⟩ = some (.string (strOf (l.getD i [])))
theorem StrsAt.keep {D : Nat → Prop} {w w' : World} (hk : Keeps D w w') {l : List Bs} {v : Value} (h : StrsAt D w l v) : StrsAt D w' l v := by
  obtain ⟨a, cap, b, off, hv, h1, h2, h3, h4⟩ := h
  refine ⟨a, cap, b, off, hv, h1, h2, h3, fun i hi => ?_⟩
  rcases h3 with h3 | ⟨_, hD⟩
  · omega
  · exact hk _ _ _ hD (h4 i hi)
theorem StrsAt.old {D : Nat → Prop} {w w' : World} (hb : Below w.heap.size w w') {l : List Bs} {v : Value} (h : StrsAt D w l v) : StrsAt D w' l v := h.keep (keeps_below hb)
theorem StrsAt.mono {D D' : Nat → Prop} {w : World} (hD : ∀ b, D b → D' b) {l : List Bs} {v : Value} (h : StrsAt D w l v) : StrsAt D' w l v := by
  obtain ⟨a, cap, b, off, hv, h1, h2, h3, h4⟩ := h
  exact ⟨a, cap, b, off, hv, h1, h2, h3.imp id fun h => ⟨h.1, hD _ h.2⟩, h4⟩

def Ar.nil : Ar := ⟨[], 0⟩
def Fu.nil : Fu := ⟨[], [], [], []⟩
abbrev arAt (l : List Ar) (i : Nat) : Ar := l.getD i Ar.nil
abbrev fuAt (l : List Fu) (i : Nat) : Fu := l.getD i Fu.nil
def ArsAt (D : Nat → Prop) (w : World) (l : List Ar) (v : Value) : Prop :=
  ∃ a cap b off, v = .slice a l.length cap ∧ l.length ≤ cap ∧ Fits l.length ∧ (l.length = 0 ∨ (a = some ⟨b, off, none⟩ ∧ D b)) ∧
    ∀ i, i < l.length → w.cell? ⟨b, off + i * 2, none⟩ = some (.string (strOf (arAt l i).name)) ∧ w.cell? ⟨b, off + i * 2 + 1, none⟩ = some (.int .i64 (arAt l i).size)
theorem ArsAt.keep {D : Nat → Prop} {w w' : World} (hk : Keeps D w w') {l : List Ar} {v : Value} (h : ArsAt D w l v) : ArsAt D w' l v := by
  obtain ⟨a, cap, b, off, hv, h1, h2, h3, h4⟩ := h
  refine ⟨a, cap, b, off, hv, h1, h2, h3, fun i hi => ?_⟩
  rcases h3 with h3 | ⟨_, hD⟩
  · omega
  · exact ⟨hk _ _ _ hD (h4 i hi).1, hk _ _ _ hD (h4 i hi).2⟩
theorem ArsAt.old {D : Nat → Prop} {w w' : World} (hb : Below w.heap.size w w') {l : List Ar} {v : Value} (h : ArsAt D w l v) : ArsAt D w' l v := h.keep (keeps_below hb)
def FusAt (D : Nat → Prop) (w : World) (l : List Fu) (v : Value) : Prop :=
  ∃ a cap b off, ∃ pv lv bv : Nat → Value, v = .slice a l.length cap ∧ l.length ≤ cap ∧ Fits l.length ∧ (l.length = 0 ∨ (a = some ⟨b, off, none⟩ ∧ D b)) ∧
    ∀ i, i < l.length → (w.cell? ⟨b, off + i * 4, none⟩ = some (.string (strOf (fuAt l i).name)) ∧ w.cell? ⟨b, off + i * 4 + 1, none⟩ = some (pv i) ∧ w.cell? ⟨b, off + i * 4 + 2, none⟩ = some (lv i) ∧ w.cell? ⟨b, off + i * 4 + 3, none⟩ = some (bv i)) ∧
      StrsAt D w (fuAt l i).params (pv i) ∧ StrsAt D w (fuAt l i).locals (lv i) ∧ StsAt D w (fuAt l i).body (bv i)
theorem FusAt.keep {D : Nat → Prop} {w w' : World} (hk : Keeps D w w') {l : List Fu} {v : Value} (h : FusAt D w l v) : FusAt D w' l v := by
  obtain ⟨a, cap, b, off, pv, lv, bv, hv, h1, h2, h3, h4⟩ := h
  refine ⟨a, cap, b, off, pv, lv, bv, hv, h1, h2, h3, fun i hi => ?_⟩
  rcases h3 with h3 | ⟨_, hD⟩
  · omega
  · obtain ⟨⟨c0, c1, c2, c3⟩, e1, e2, e3⟩ := h4 i hi
    exact ⟨⟨hk _ _ _ hD c0, hk _ _ _ hD c1, hk _ _ _ hD c2, hk _ _ _ hD c3⟩, e1.keep hk, e2.keep hk, e3.keep hk⟩
theorem FusAt.old {D : Nat → Prop} {w w' : World} (hb : Below w.heap.size w w') {l : List Fu} {v : Value} (h : FusAt D w l v) : FusAt D w' l v := h.keep (keeps_below hb)
theorem arAt_mem {l : List Ar} {i : Nat} (h : i < l.length) : arAt l i ∈ l := by
  simp only [arAt, List.getD_eq_getElem?_getD, List.getElem?_eq_getElem h, Option.getD_some]; exact List.getElem_mem h
theorem fuAt_mem {l : List Fu} {i : Nat} (h : i < l.length) : fuAt l i ∈ l := by
  simp only [fuAt, List.getD_eq_getElem?_getD, List.getElem?_eq_getElem h, Option.getD_some]; exact List.getElem_mem h
/-- A test that holds of the first n of n. -/
theorem all_of_at {α : Type} (l : List α) (d : α) (f : α → Bool) (h : ∀ i, i < l.length → f (l.getD i d) = true) : l.all f = true := by
  rw [List.all_eq_true]
  intro x hx
  obtain ⟨i, hi, rfl⟩ := List.getElem_of_mem hx
  have := h i hi
  rwa [List.getD_eq_getElem?_getD, List.getElem?_eq_getElem hi, Option.getD_some] at this
theorem all_false_at {α : Type} (l : List α) (d : α) (f : α → Bool) (i : Nat) (hi : i < l.length) (h : f (l.getD i d) = false) : l.all f = false := by
  rw [List.all_eq_false]
  refine ⟨l[i], List.getElem_mem hi, ?_⟩
  rw [List.getD_eq_getElem?_getD, List.getElem?_eq_getElem hi, Option.getD_some] at h
  simp [h]
end Go.Proofs.YtcfpfnoldgnloaaGreatDoor
