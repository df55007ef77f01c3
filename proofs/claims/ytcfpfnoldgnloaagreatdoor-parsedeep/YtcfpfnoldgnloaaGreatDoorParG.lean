/-
  Parse, Expr of a text of tokens. Conditions: the tokens may stand so; the library's tables lie in memory.
  ParseDeep's plain law: as deep as may be is parsed, deeper is told; looked through, depth by depth. No condition.
  awake: chapter 4's examples. Condition: the library's tables lie in memory.
  awake's walk; pick. Condition: the library's tables lie in memory.
-/
import Derived.Test.YtcfpfnoldgnloaaGreatDoorYTop
import Derived.Test.YtcfpfnoldgnloaaGreatDoorYAdj
set_option linter.unusedVariables false
set_option linter.unusedSimpArgs false
namespace Go.Proofs.YtcfpfnoldgnloaaGreatDoor
open Go.RowKit
set_option maxHeartbeats 4000000
set_option maxRecDepth 100000

theorem ygap_nil : GapOk [] [] := ⟨fun c hc => (by cases hc), fun p hp => (by cases hp)⟩
theorem ytail_nil : TailOk true [] := ⟨.inl rfl, rfl, fun _ => rfl, fun h => (by cases h)⟩
theorem ends_snoc (t : Tk) (h : t.kind = 5) : ∀ l : List Tk, EndsTk (l ++ [t])
  | [] => h
  | [a] => h
  | a :: b :: l => ends_snoc t h (b :: l)
/-- The tokens that Scan gives, the last one the end. -/
def scanned (line : Nat) (li : List It) : List Tk := toks line li ++ [⟨5, [], 0, endL line li⟩]
theorem toks_num {P : Int → Prop} : ∀ (l : List It) (line : Nat), (∀ i, i ∈ l → P i.n) → ∀ t, t ∈ toks line l → P t.num
  | [], line, h, t, ht => by cases ht
  | i :: l, line, h, t, ht => by
    rw [toks] at ht
    rcases List.mem_cons.1 ht with rfl | ht
    · exact h i List.mem_cons_self
    · exact toks_num l _ (fun j hj => h j (List.mem_cons_of_mem _ hj)) t ht
theorem scan_its (b0 : Bs) (l0 : List (Bs × Bs)) (hg : GapOk b0 l0) (li : List It) (hi : ItsOk [] li) (hlen : (gapText b0 l0 ++ itText li).length ≤ 20000) (w : World) (hl : ZLib w) :
    Calls Tryz.prog 20 #[.string (strOf (gapText b0 l0 ++ itText li))] w fun e w' => Below w.heap.size w w' ∧ ∃ v, e = .returned (.tuple #[v, .int .i64 0, .int .i64 0]) ∧ TksOwn w' w.heap.size (scanned (1 + feeds (gapText b0 l0)) li) v := by
  have h := scan_any true [] ytail_nil b0 l0 hg li hi (by simpa using hlen) w hl
  rw [List.append_nil] at h
  refine Calls.mono h ?_
  intro e w' hp
  obtain ⟨h1, h2⟩ := hp
  rw [if_pos rfl] at h2
  exact ⟨h1, h2⟩
theorem parse_its (b0 : Bs) (l0 : List (Bs × Bs)) (hg : GapOk b0 l0) (li : List It) (hi : ItsOk [] li) (hn : ∀ i, i ∈ li → I64 i.n) (hlen : (gapText b0 l0 ++ itText li).length ≤ 20000) (hc : li.length ≤ 900000) (f : Nat) (hf : 4 * (li.length + 1) + 4 ≤ f) (w : World) (hl : ZLib w) :
    Calls Tryz.prog 14 #[.string (strOf (gapText b0 l0 ++ itText li))] w (WhP w (finP (outP (progP f ⟨[], []⟩ (scanned (1 + feeds (gapText b0 l0)) li))))) := by
  have hT : (scanned (1 + feeds (gapText b0 l0)) li).length = li.length + 1 := by simp [scanned, toks_len]
  refine topP_of _ w _ (Lib.hid fun w1 hb1 => ?_)
  refine wholeP_ok _ (scanned (1 + feeds (gapText b0 l0)) li) (ends_snoc _ rfl _) ?_ (by omega) f (by omega) w1 (Lib.hid fun w2 hb2 => scan_its b0 l0 hg li hi hlen w2 ((hl.old hb1).old hb2))
  intro t ht
  rcases List.mem_append.1 ht with h | h
  · exact toks_num (P := I64) li _ hn t h
  · rw [List.mem_singleton] at h; subst h; exact yi64_0
theorem expr_its (b0 : Bs) (l0 : List (Bs × Bs)) (hg : GapOk b0 l0) (li : List It) (hi : ItsOk [] li) (hn : ∀ i, i ∈ li → I64 i.n) (hlen : (gapText b0 l0 ++ itText li).length ≤ 20000) (hc : li.length ≤ 900000) (f : Nat) (hf : 4 * (li.length + 1) + 4 ≤ f) (w : World) (hl : ZLib w) :
    Calls Tryz.prog 13 #[.string (strOf (gapText b0 l0 ++ itText li))] w (WhE w (finE (outE (climbP f 1 (scanned (1 + feeds (gapText b0 l0)) li))))) := by
  have hT : (scanned (1 + feeds (gapText b0 l0)) li).length = li.length + 1 := by simp [scanned, toks_len]
  refine topE_of _ w _ (Lib.hid fun w1 hb1 => ?_)
  refine wholeE_ok _ (scanned (1 + feeds (gapText b0 l0)) li) (ends_snoc _ rfl _) ?_ (by omega) f (by omega) w1 (Lib.hid fun w2 hb2 => scan_its b0 l0 hg li hi hlen w2 ((hl.old hb1).old hb2))
  intro t ht
  rcases List.mem_append.1 ht with h | h
  · exact toks_num (P := I64) li _ hn t h
  · rw [List.mem_singleton] at h; subst h; exact yi64_0

/-- A name, a word, a sign; a text's tokens, looked through. -/
def wordyB (x : Bs) : Bool := (match x with | c :: _ => isLetter c | [] => false) && x.all (fun c => decide (c.toNat < 128) && wordR (c.toNat : Nat))
theorem wordyB_of {x : Bs} (h : wordyB x = true) : ∃ c t, x = c :: t ∧ isLetter c = true ∧ ∀ c, c ∈ x → c.toNat < 128 ∧ wordR (c.toNat : Nat) = true := by
  cases x with
  | nil => cases h
  | cons c t =>
    unfold wordyB at h
    obtain ⟨h1, h2⟩ := (Bool.and_eq_true _ _).mp h
    refine ⟨c, t, rfl, h1, fun d hd => ?_⟩
    have := List.all_eq_true.1 h2 d hd
    simpa using this
theorem pc_name {x : Bs} (hx : isName x = true) (hk : isWord x = false) (h : wordyB x = true) : PcOk x 1 0 := by
  obtain ⟨c, t, hc, hl, ha⟩ := wordyB_of h
  exact .name x hx hk c t hc hl ha
theorem pc_word {x : Bs} (hk : isWord x = true) (h : wordyB x = true) : PcOk x 2 0 := by
  obtain ⟨c, t, hc, hl, ha⟩ := wordyB_of h
  exact .word x hk c t hc hl ha
theorem pc_sign {x : Bs} (h : isSign x = true) : PcOk x 4 0 := by
  rcases sign_cases h with rfl | rfl | rfl | rfl | rfl | rfl | rfl | rfl | rfl | rfl | rfl | rfl | rfl | rfl | rfl | rfl | rfl | rfl | rfl | rfl | rfl | rfl | rfl | rfl | rfl | rfl | rfl <;> exact .sign _ h _ _ rfl (by decide) (by decide)
def pcB (i : It) : Bool := if i.k = 1 then isName i.x && !isWord i.x && wordyB i.x && decide (i.n = 0) else if i.k = 2 then isWord i.x && wordyB i.x && decide (i.n = 0) else if i.k = 3 then decide (0 ≤ i.n ∧ i.n ≤ 9223372036854775807) && decide (i.x = Lib.decDigits i.n.toNat) && decide (i.x.length ≤ 18) && (match i.x with | c :: _ => isDigit c | [] => false) else decide (i.k = 4) && isSign i.x && decide (i.n = 0)
theorem pcB_of {i : It} (h : pcB i = true) : PcOk i.x i.k i.n ∧ (i.k = 3 → ∀ r, i.x ≠ 39 :: r) ∧ I64 i.n := by
  obtain ⟨x, k, n, b, l⟩ := i
  simp only [pcB] at h
  by_cases h1 : k = 1
  · rw [if_pos h1] at h
    simp at h
    obtain ⟨⟨⟨g1, g2⟩, g3⟩, rfl⟩ := h
    subst h1
    exact ⟨pc_name g1 g2 g3, fun e => absurd (show _ = _ from e) (by simp), yi64_0⟩
  rw [if_neg h1] at h
  by_cases h2 : k = 2
  · rw [if_pos h2] at h
    simp at h
    obtain ⟨⟨g1, g3⟩, rfl⟩ := h
    subst h2
    exact ⟨pc_word g1 g3, fun e => absurd (show _ = _ from e) (by simp), yi64_0⟩
  rw [if_neg h2] at h
  by_cases h3 : k = 3
  · rw [if_pos h3] at h
    subst h3
    simp only [Bool.and_eq_true, decide_eq_true_eq] at h
    obtain ⟨⟨⟨⟨g1, g2⟩, g3⟩, g4⟩, g5⟩ := h
    cases x with
    | nil => cases g5
    | cons c t =>
      have hu : (n.toNat : Int) = n := by omega
      refine ⟨?_, fun _ r e => ?_, (show I64 n from ⟨by omega, by omega⟩)⟩
      · have := PcOk.num n.toNat (by rw [← g3]; exact g4) (by omega) c t g3.symm g5
        rw [← g3, hu] at this
        exact this
      · cases e; simp [isDigit] at g5
  rw [if_neg h3] at h
  simp at h
  obtain ⟨⟨rfl, g1⟩, rfl⟩ := h
  exact ⟨pc_sign g1, fun e => absurd (show _ = _ from e) (by simp), yi64_0⟩
def itsB (z : Bs) : List It → Bool
  | [] => true
  | i :: l => pcB i && i.b.all isBlank && i.l.isEmpty && sepB i.k (i.gap ++ (itText l ++ z)) && itsB z l
theorem itsB_of (z : Bs) : ∀ (l : List It), itsB z l = true → ItsOk z l ∧ ∀ i, i ∈ l → I64 i.n
  | [], _ => ⟨trivial, fun i hi => by cases hi⟩
  | i :: l, h => by
    rw [itsB] at h
    simp only [Bool.and_eq_true] at h
    obtain ⟨⟨⟨⟨h1, h2⟩, h3⟩, h4⟩, h5⟩ := h
    obtain ⟨q1, q2⟩ := itsB_of z l h5
    obtain ⟨p1, p2, p3⟩ := pcB_of h1
    refine ⟨⟨tokAt_of p1 p2 h4, ⟨fun c hc => List.all_eq_true.1 h2 c hc, fun p hp => ?_⟩, q1⟩, fun j hj => ?_⟩
    · rw [List.isEmpty_iff.1 h3] at hp; cases hp
    · rcases List.mem_cons.1 hj with rfl | hj
      · exact p3
      · exact q2 j hj
end Go.Proofs.YtcfpfnoldgnloaaGreatDoor

namespace Go.Proofs.YtcfpfnoldgnloaaGreatDoor
open Go.RowKit
set_option maxHeartbeats 4000000
set_option maxRecDepth 100000

def sgn (i : Nat) : UInt8 := if i % 3 = 0 then 45 else if i % 3 = 1 then 33 else 126
def sgT : Nat → Bs
  | 0 => [49]
  | k + 1 => sgn k :: sgT k
def sgI : Nat → List It
  | 0 => [⟨[49], 3, 1, [], []⟩]
  | k + 1 => ⟨[sgn k], 4, 0, [], []⟩ :: sgI k
def whT : Nat → Bs
  | 0 => []
  | d + 1 => whT d ++ [119, 104, 105, 108, 101, 32, 40, 49, 41, 32, 123]
def cbT : Nat → Bs
  | 0 => []
  | d + 1 => cbT d ++ [125]
def prT (d : Nat) : Bs := [10, 105, 110, 116, 32, 109, 97, 105, 110, 40, 41, 32, 123, 32] ++ whT d ++ cbT d ++ [125]
def whI : Nat → List It
  | 0 => []
  | d + 1 => ⟨[119, 104, 105, 108, 101], 2, 0, [32], []⟩ :: ⟨[40], 4, 0, [], []⟩ :: ⟨[49], 3, 1, [], []⟩ :: ⟨[41], 4, 0, [32], []⟩ :: ⟨[123], 4, 0, [], []⟩ :: whI d
def cbI : Nat → List It
  | 0 => [⟨[125], 4, 0, [], []⟩]
  | d + 1 => ⟨[125], 4, 0, [], []⟩ :: cbI d
def prI (d : Nat) : List It := [⟨[105, 110, 116], 2, 0, [32], []⟩, ⟨[109, 97, 105, 110], 1, 0, [], []⟩, ⟨[40], 4, 0, [], []⟩, ⟨[41], 4, 0, [32], []⟩, ⟨[123], 4, 0, [32], []⟩] ++ whI d ++ cbI d
def deepEB (k : Nat) : Bool := itsB [] (sgI k) && decide (itText (sgI k) = sgT k) && decide ((sgI k).length ≤ 61) && decide ((sgT k).length ≤ 61) && (let r := (finE (outE (climbP 300 1 (scanned 1 (sgI k))))).2; if k < 40 then decide (r = (0, 0)) else decide (r = (41, 1)))
theorem deepE_all : (List.range 61).all deepEB = true := by kernel_rfl
def deepPB (d : Nat) : Bool := itsB [] (prI d) && decide ([10] ++ itText (prI d) = prT d) && decide ((prI d).length ≤ 400) && decide ((prT d).length ≤ 800) && (let r := finP (outP (progP 1700 ⟨[], []⟩ (scanned 2 (prI d)))); if d ≤ 40 then decide (r.2 = (0, 0)) && decide (r.1.funcs.length = 1) else decide (r.2 = (41, 1)))
theorem deepP_all : (List.range 61).all deepPB = true := by kernel_rfl
end Go.Proofs.YtcfpfnoldgnloaaGreatDoor

namespace Go.Proofs.YtcfpfnoldgnloaaGreatDoor
open Go.RowKit
set_option maxHeartbeats 4000000
set_option maxRecDepth 100000

def awP : List It := [⟨[105, 110, 116], 2, 0, [32], []⟩, ⟨[109, 97, 105, 110], 1, 0, [], []⟩, ⟨[40], 4, 0, [], []⟩, ⟨[41], 4, 0, [32], []⟩, ⟨[123], 4, 0, [32], []⟩, ⟨[112, 114, 105, 110, 116], 2, 0, [], []⟩, ⟨[40], 4, 0, [], []⟩, ⟨[49], 3, 1, [32], []⟩, ⟨[43], 4, 0, [32], []⟩, ⟨[50], 3, 2, [32], []⟩, ⟨[42], 4, 0, [32], []⟩, ⟨[51], 3, 3, [], []⟩, ⟨[41], 4, 0, [], []⟩, ⟨[59], 4, 0, [32], []⟩, ⟨[125], 4, 0, [], []⟩]
def awQ : List It := [⟨[105, 110, 116], 2, 0, [32], []⟩, ⟨[109, 97, 105, 110], 1, 0, [], []⟩, ⟨[40], 4, 0, [], []⟩, ⟨[41], 4, 0, [32], []⟩, ⟨[123], 4, 0, [10], []⟩]
def awX : List It := [⟨[97], 1, 0, [32], []⟩, ⟨[45], 4, 0, [32], []⟩, ⟨[98], 1, 0, [32], []⟩, ⟨[45], 4, 0, [32], []⟩, ⟨[99], 1, 0, [], []⟩]
theorem awP_ok : itsB [] awP = true := by kernel_rfl
theorem awQ_ok : itsB [] awQ = true := by kernel_rfl
theorem awX_ok : itsB [] awX = true := by kernel_rfl
def awPr : Pr × Int × Int := finP (outP (progP 100 ⟨[], []⟩ (scanned 1 awP)))
def awEx : Ex × Int × Int := finE (outE (climbP 100 1 (scanned 1 awX)))
theorem aw_p (w : World) (hl : ZLib w) :
    Calls Tryz.prog 14 #[.string ⟨#[105, 110, 116, 32, 109, 97, 105, 110, 40, 41, 32, 123, 32, 112, 114, 105, 110, 116, 40, 49, 32, 43, 32, 50, 32, 42, 32, 51, 41, 59, 32, 125]⟩] w fun e w' =>
      Below w.heap.size w w' ∧ ∃ aa an ac b off cap b2 o2 c2, e = .returned (.tuple #[.agg #[.slice aa an ac, .slice (some ⟨b, off, none⟩) 1 cap], .int .i64 0, .int .i64 0]) ∧ w'.cell? ⟨b, off + 3, none⟩ = some (.slice (some ⟨b2, o2, none⟩) 1 c2) ∧ w'.cell? ⟨b2, o2, none⟩ = some (.int .i64 8) ∧ 1 ≤ cap ∧ 1 ≤ c2 := by
  obtain ⟨h1, h2⟩ := itsB_of [] awP awP_ok
  refine (parse_its [] [] ygap_nil awP h1 h2 (by decide) (by decide) 100 (by decide) w hl).mono ?_
  intro e w' hp
  obtain ⟨hb, v, he, av, fv, hv, hxa, hxf⟩ := hp
  have e1 : (finP (outP (progP 100 ⟨[], []⟩ (scanned (1 + feeds (gapText [] [])) awP)))).2.1 = 0 := by kernel_rfl
  have e2 : (finP (outP (progP 100 ⟨[], []⟩ (scanned (1 + feeds (gapText [] [])) awP)))).2.2 = 0 := by kernel_rfl
  have e3 : (finP (outP (progP 100 ⟨[], []⟩ (scanned (1 + feeds (gapText [] [])) awP)))).1.funcs.length = 1 := by kernel_rfl
  have e4 : (fuAt (finP (outP (progP 100 ⟨[], []⟩ (scanned (1 + feeds (gapText [] [])) awP)))).1.funcs 0).body.length = 1 := by kernel_rfl
  have e5 : (stAt (fuAt (finP (outP (progP 100 ⟨[], []⟩ (scanned (1 + feeds (gapText [] [])) awP)))).1.funcs 0).body 0).kind = 8 := by kernel_rfl
  generalize finP (outP (progP 100 ⟨[], []⟩ (scanned (1 + feeds (gapText [] [])) awP))) = R at *
  obtain ⟨a, cap, b, off, pv, lv, bv, rfl, hc, _, hz, hall⟩ := hxf
  rw [e3] at hc hz hall
  obtain ⟨⟨_, _, _, g3⟩, _, _, hst⟩ := hall 0 (by decide)
  obtain ⟨a2, c2, hs2⟩ := hst.shape
  rw [hs2] at hst g3
  rcases hz with hz | ⟨rfl, _⟩
  · omega
  have hq : ∃ b2 o2, a2 = some ⟨b2, o2, none⟩ ∧ w'.cell? ⟨b2, o2, none⟩ = some (.int .i64 8) ∧ 1 ≤ c2 := by
    rw [← e5]
    cases hst with
    | mk _ _ _ b2 o2 sa st se hcap hfit ha h0 =>
      rcases ha with ha | ⟨ha, _⟩
      · omega
      · exact ⟨b2, o2, ha, by simpa using h0 0 (by omega), by omega⟩
  obtain ⟨b2, o2, rfl, hk, hc2⟩ := hq
  rw [e4] at g3
  obtain ⟨aa, an, ac, rfl⟩ : ∃ a n c, av = Value.slice a n c := by obtain ⟨a, c, h⟩ := hxa.yshape; exact ⟨a, _, c, h⟩
  refine ⟨hb, aa, an, ac, b, off, cap, b2, o2, c2, ?_, by simpa using g3, hk, hc, hc2⟩
  rw [he, hv, e1, e2, e3]
theorem aw_q (w : World) (hl : ZLib w) :
    Calls Tryz.prog 14 #[.string ⟨#[105, 110, 116, 32, 109, 97, 105, 110, 40, 41, 32, 123, 10]⟩] w fun e w' =>
      Below w.heap.size w w' ∧ ∃ aa an ac fa fn fc, e = .returned (.tuple #[.agg #[.slice aa an ac, .slice fa fn fc], .int .i64 40, .int .i64 2]) := by
  obtain ⟨h1, h2⟩ := itsB_of [] awQ awQ_ok
  refine (parse_its [] [] ygap_nil awQ h1 h2 (by decide) (by decide) 100 (by decide) w hl).mono ?_
  intro e w' hp
  obtain ⟨hb, v, he, av, fv, hv, hxa, hxf⟩ := hp
  obtain ⟨aa, an, ac, rfl⟩ : ∃ a n c, av = Value.slice a n c := by obtain ⟨a, c, h⟩ := hxa.yshape; exact ⟨a, _, c, h⟩
  obtain ⟨fa, fn, fc, rfl⟩ : ∃ a n c, fv = Value.slice a n c := by obtain ⟨a, c, h⟩ := hxf.yshape; exact ⟨a, _, c, h⟩
  refine ⟨hb, aa, an, ac, fa, fn, fc, ?_⟩
  rw [he, hv]
  rfl
theorem aw_x (w : World) (hl : ZLib w) :
    Calls Tryz.prog 13 #[.string ⟨#[97, 32, 45, 32, 98, 32, 45, 32, 99]⟩] w fun e w' =>
      Below w.heap.size w w' ∧ ∃ k o n s b off cap, e = .returned (.tuple #[.agg #[.int .i64 k, .int .i64 o, .int .i64 n, .string s, .slice (some ⟨b, off, none⟩) 2 cap], .int .i64 0, .int .i64 0]) ∧ w'.cell? ⟨b, off + 8, none⟩ = some (.string ⟨#[99]⟩) := by
  obtain ⟨h1, h2⟩ := itsB_of [] awX awX_ok
  refine (expr_its [] [] ygap_nil awX h1 h2 (by decide) (by decide) 100 (by decide) w hl).mono ?_
  intro e w' hp
  obtain ⟨hb, v, he, s, hv, hx, hn⟩ := hp
  have e1 : (finE (outE (climbP 100 1 (scanned (1 + feeds (gapText [] [])) awX)))).2.1 = 0 := by kernel_rfl
  have e2 : (finE (outE (climbP 100 1 (scanned (1 + feeds (gapText [] [])) awX)))).2.2 = 0 := by kernel_rfl
  have e3 : (finE (outE (climbP 100 1 (scanned (1 + feeds (gapText [] [])) awX)))).1.args.length = 2 := by kernel_rfl
  have e4 : (exAt (finE (outE (climbP 100 1 (scanned (1 + feeds (gapText [] [])) awX)))).1.args 1).name = [99] := by kernel_rfl
  generalize finE (outE (climbP 100 1 (scanned (1 + feeds (gapText [] [])) awX))) = R at *
  obtain ⟨a, cap, rfl⟩ := hx.shape
  obtain ⟨b, off, s2, rfl, _, _, _, _, h4, _⟩ := hx.cellAt 1 (by omega)
  rw [e4] at h4
  refine ⟨hb, R.1.kind, R.1.op, R.1.n, strOf R.1.name, b, off, cap, ?_, h4⟩
  rw [he, hv, e1, e2, e3]
end Go.Proofs.YtcfpfnoldgnloaaGreatDoor

namespace Go.Proofs.YtcfpfnoldgnloaaGreatDoor
open Go.RowKit
set_option maxHeartbeats 4000000
set_option maxRecDepth 100000

theorem yawake_any (w : World) (hl : ZLib w) :
    Calls Tryz.prog 11 #[] w fun e w' => e = .returned (.bool true) ∧ Below w.heap.size w w' := by
  have HL := Lib.hid hl; clear hl
  go_enter Tryz.func11, Tryz.ntmps11
  go_wp2_with fail
  refine (aw_p w HL.out).mono ?_
  rintro e w1 ⟨hb1, aa, an, ac, b, off, cap, b2, o2, c2, rfl, h3, hk, hc, hc2⟩
  have hal : Below w1.heap.size w1 (w1.alloc (.cells #[.slice aa an ac, .slice (some ⟨b, off, none⟩) 1 cap] 34)) := (Below.refl _ _).alloc (Nat.le_refl _) _
  have HO := Lib.hid (OwnAt.new w1 [.slice aa an ac, .slice (some ⟨b, off, none⟩) 1 cap] 34)
  have HL1 := Lib.hid ((HL.out.old hb1).old hal)
  have HB1 := Lib.hid (hb1.trans (hal.mono hb1.size))
  have H3 := Lib.hid (below_keeps hal h3)
  have HK := Lib.hid (below_keeps hal hk)
  clear hb1 h3 hk hal
  go_upto_region 2 with (fail)
  generalize w1.alloc (.cells #[.slice aa an ac, .slice (some ⟨b, off, none⟩) 1 cap] 34) = w2 at *
  obtain ⟨pb, hpb⟩ : ∃ pb, w1.heap.size = pb := ⟨_, rfl⟩
  rw [hpb] at HO ⊢
  clear hpb
  go_wp2_with fail
  refine (aw_q w2 HL1.out).mono ?_
  rintro e w3 ⟨hb3, a3, n3, d3, f3, m3, e3, rfl⟩
  have hal : Below w3.heap.size w3 (w3.alloc (.cells #[.slice a3 n3 d3, .slice f3 m3 e3] 34)) := (Below.refl _ _).alloc (Nat.le_refl _) _
  have HO3 := Lib.hid ((HO.out.old hb3).old hal)
  have HL3 := Lib.hid ((HL1.out.old hb3).old hal)
  have HB3 := Lib.hid (HB1.out.trans ((hb3.trans (hal.mono hb3.size)).mono HB1.out.size))
  have H33 := Lib.hid (below_keeps hal (below_keeps hb3 H3.out))
  have HK3 := Lib.hid (below_keeps hal (below_keeps hb3 HK.out))
  clear hb3 hal HO HL1 HB1 H3 HK
  go_upto_region 3 with (fail)
  generalize w3.alloc (.cells #[.slice a3 n3 d3, .slice f3 m3 e3] 34) = w4 at *
  go_wp2_with fail
  refine (aw_x w4 HL3.out).mono ?_
  rintro e w5 ⟨hb5, k, o, n, s, b5, off5, cap5, rfl, h5⟩
  have hal : Below w5.heap.size w5 (w5.alloc (.cells #[.int .i64 k, .int .i64 o, .int .i64 n, .string s, .slice (some ⟨b5, off5, none⟩) 2 cap5] 27)) := (Below.refl _ _).alloc (Nat.le_refl _) _
  have HO5 := Lib.hid ((HO3.out.old hb5).old hal)
  have HX5 := Lib.hid (OwnAt.new w5 [.int .i64 k, .int .i64 o, .int .i64 n, .string s, .slice (some ⟨b5, off5, none⟩) 2 cap5] 27)
  have HB5 := Lib.hid (HB3.out.trans ((hb5.trans (hal.mono hb5.size)).mono HB3.out.size))
  have H35 := Lib.hid (below_keeps hal (below_keeps hb5 H33.out))
  have HK5 := Lib.hid (below_keeps hal (below_keeps hb5 HK3.out))
  have H85 := Lib.hid (below_keeps hal h5)
  clear hb5 hal HO3 HL3 HB3 H33 HK3 h5
  go_upto_region 4 with (fail)
  generalize w5.alloc (.cells #[.int .i64 k, .int .i64 o, .int .i64 n, .string s, .slice (some ⟨b5, off5, none⟩) 2 cap5] 27) = w6 at *
  obtain ⟨xb, hxb⟩ : ∃ xb, w5.heap.size = xb := ⟨_, rfl⟩
  rw [hxb] at HX5 ⊢
  clear hxb
  have p1 := HO5.out.at 1 _ rfl
  have q4 := HX5.out.at 4 _ rfl
  have c3 := H35.out
  have ck := HK5.out
  have c8 := H85.out
  have hcI : (1 : Int) ≤ (cap : Int) := by omega
  go_wp2_with fail
  go_ret
  exact ⟨rfl, HB5.out⟩

def ypickOf (c n : Int) : Int := if c < 0 then (-(c + 1)) % n else c % n
theorem ypick_any (c n : Int) (hc : I64 c) (h0 : 0 < n) (h1 : n ≤ 9223372036854775807) (w : World) :
    Calls Tryz.prog 12 #[.int .i64 c, .int .i64 n] w fun e w' => e = .returned (.int .i64 (ypickOf c n)) ∧ w' = w := by
  obtain ⟨l, u⟩ := hc
  unfold ypickOf
  by_cases hneg : c < 0
  · rw [if_pos hneg]
    have hn0 : (n == 0) = false := by simp; omega
    go_enter Tryz.func12, Tryz.ntmps12
    go_wp2_with fail
    go_ret
    exact ⟨ret_int (by show -((c + 1).tmod n) = _; rw [← Int.neg_tmod, Int.tmod_eq_emod_of_nonneg (by omega)]), rfl⟩
  · rw [if_neg hneg]
    have hneg' : 0 ≤ c := by omega
    go_enter Tryz.func12, Tryz.ntmps12
    go_wp2_with fail
    go_ret
    exact ⟨rfl, rfl⟩
theorem ypick_range (c n : Int) (h : 0 < n) : ∃ k : Nat, ypickOf c n = k ∧ (k : Int) < n := by
  unfold ypickOf
  split
  · exact ⟨((-(c + 1)) % n).toNat, by have := Int.emod_nonneg (-(c + 1)) (show n ≠ 0 by omega); omega, by have := Int.emod_nonneg (-(c + 1)) (show n ≠ 0 by omega); have := Int.emod_lt_of_pos (-(c + 1)) h; omega⟩
  · exact ⟨(c % n).toNat, by have := Int.emod_nonneg c (show n ≠ 0 by omega); omega, by have := Int.emod_nonneg c (show n ≠ 0 by omega); have := Int.emod_lt_of_pos c h; omega⟩
end Go.Proofs.YtcfpfnoldgnloaaGreatDoor
