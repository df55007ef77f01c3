/-
  Two texts with a line feed between: the tokens of both. No condition.
-/
import Derived.Test.YtjmidoncojajcaaDoorScanSe
set_option linter.unusedVariables false
set_option linter.unusedSimpArgs false
namespace Go.Proofs.YtjmidoncojajcaaDoor
open Go.RowKit
set_option maxHeartbeats 4000000
set_option maxRecDepth 100000

theorem zlines_le2 {g : Nat → Bs × List (Bs × Bs)} (hg : GapsOk g) (line : Nat) : ∀ k, zlines g line k ≤ line + k * 20
  | 0 => by simp [zlines]
  | k + 1 => by
    have h1 := zlines_le2 hg line k
    have h2 := feeds_le (gapText (g k).1 (g k).2)
    have h3 := hg.len k
    show zlines g line k + feeds (gapText (g k).1 (g k).2) ≤ _
    omega
theorem zall_lines {g : Nat → Bs × List (Bs × Bs)} (hg : GapsOk g) (raw : List (Int × Int)) (m j : Nat) (hm : m ≤ 20) (h : j < m + 1) : 0 ≤ (tkAt (zall [] [] (zitsOf g raw m)) j).line ∧ (tkAt (zall [] [] (zitsOf g raw m)) j).line ≤ 1000 := by
  have e : feeds (gapText [] []) = 0 := by decide
  have hz := zlines_le2 hg (1 + feeds (gapText [] [])) j
  rw [e] at hz
  by_cases hj : j < m
  · rw [zall_at _ _ _ _ _ _ hj]
    show 0 ≤ ((zlines g (1 + feeds (gapText [] [])) j : Nat) : Int) ∧ ((zlines g (1 + feeds (gapText [] [])) j : Nat) : Int) ≤ 1000
    rw [e]; omega
  · have ej : j = m := by omega
    subst ej
    rw [zall_end]
    show 0 ≤ ((zlines g (1 + feeds (gapText [] [])) j : Nat) : Int) ∧ ((zlines g (1 + feeds (gapText [] [])) j : Nat) : Int) ≤ 1000
    rw [e]; omega
theorem TksOwn.at {w : World} {base : Nat} {l : List Tk} {g n cap : Nat} (h : TksOwn w base l (.slice (some ⟨g, 0, none⟩) n cap)) (hn : l.length = n) (j : Nat) (u : Value) (hu : (l.flatMap tkCells)[j]? = some u) : w.cell? ⟨g, j, none⟩ = some u := by
  unfold TksOwn at h
  rw [hn] at h
  exact zrow_at h j u hu
theorem TksOwn.form {w : World} {base : Nat} {l : List Tk} {a : Option Addr} {n cap : Nat} (h : TksOwn w base l (.slice a n cap)) (h0 : 0 < n) : ∃ g, a = some ⟨g, 0, none⟩ := by
  rcases h.2 with ⟨e, _⟩ | ⟨g, c, cur, e, _⟩
  · cases e; omega
  · cases e; exact ⟨g, rfl⟩
theorem TksOwn.ofRow {w : World} {base n : Nat} {l : List Tk} {v : Value} (hn : l.length = n) (h : w.ownsRow base 34 4 v n (l.flatMap tkCells)) : TksOwn w base l v := by
  unfold TksOwn; rw [hn]; exact h
theorem TksOwn.row {w : World} {base n : Nat} {l : List Tk} {v : Value} (h : TksOwn w base l v) (hn : l.length = n) : w.ownsRow base 34 4 v n (l.flatMap tkCells) := by
  unfold TksOwn at h; rwa [hn] at h
theorem tks_one (l : List Tk) : ∀ u, u ∈ l.flatMap tkCells → u.oneCell' = true := by
  intro u hu
  obtain ⟨a, _, ha⟩ := List.mem_flatMap.1 hu
  exact tkCells_one a u ha
/-- A gap with one more line feed at its end. -/
def feedEnd : Bs × Bs → List (Bs × Bs) → List (Bs × Bs)
  | p, [] => [(p.1, p.2 ++ [10])]
  | p, q :: l => p :: feedEnd q l
def gfeed (b : Bs) : List (Bs × Bs) → Bs × List (Bs × Bs)
  | [] => (b ++ [10], [])
  | p :: l => (b, feedEnd p l)
theorem feedEnd_text : ∀ (l : List (Bs × Bs)) (p : Bs × Bs), (feedEnd p l).flatMap (fun p => p.1 ++ p.2) = (p :: l).flatMap (fun p => p.1 ++ p.2) ++ [10]
  | [], p => by simp [feedEnd]
  | q :: l, p => by
    have := feedEnd_text l q
    simp only [feedEnd, List.flatMap_cons] at this ⊢
    rw [this]; simp
theorem gfeed_text (b : Bs) (l : List (Bs × Bs)) : gapText (gfeed b l).1 (gfeed b l).2 = gapText b l ++ [10] := by
  cases l with
  | nil => simp [gfeed, gapText]
  | cons p l => simp only [gfeed, gapText]; rw [feedEnd_text, List.append_assoc]
theorem feedEnd_ok : ∀ (l : List (Bs × Bs)) (p : Bs × Bs), (∀ q, q ∈ p :: l → CommOk q.1 ∧ (∀ c, c ∈ q.2 → isBlank c = true) ∧ ∃ r, q.2 = 10 :: r) → ∀ q, q ∈ feedEnd p l → CommOk q.1 ∧ (∀ c, c ∈ q.2 → isBlank c = true) ∧ ∃ r, q.2 = 10 :: r
  | [], p, h, q, hq => by
    obtain ⟨h1, h2, r, h3⟩ := h p List.mem_cons_self
    rw [List.mem_singleton.1 hq]
    refine ⟨h1, fun c hc => ?_, r ++ [10], by show p.2 ++ [10] = _; rw [h3]; rfl⟩
    rcases List.mem_append.1 hc with hc | hc
    · exact h2 c hc
    · rw [List.mem_singleton.1 hc]; decide
  | q' :: l, p, h, q, hq => by
    rcases List.mem_cons.1 hq with rfl | hq
    · exact h _ List.mem_cons_self
    · exact feedEnd_ok l q' (fun x hx => h x (List.mem_cons_of_mem _ hx)) q hq
theorem gfeed_ok {b : Bs} {l : List (Bs × Bs)} (h : GapOk b l) (hh : ∃ c t, b = c :: t) : GapOk (gfeed b l).1 (gfeed b l).2 ∧ ∃ c t, (gfeed b l).1 = c :: t := by
  cases l with
  | nil =>
    refine ⟨⟨fun c hc => ?_, fun p hp => (by cases hp)⟩, ?_⟩
    · rcases List.mem_append.1 hc with hc | hc
      · exact h.blank c hc
      · rw [List.mem_singleton.1 hc]; decide
    · obtain ⟨c, t, rfl⟩ := hh; exact ⟨c, t ++ [10], rfl⟩
  | cons p l => exact ⟨⟨h.blank, feedEnd_ok l p h.comm⟩, hh⟩
/-- A token some lines further on. -/
def shiftTk (d : Nat) (t : Tk) : Tk := ⟨t.kind, t.text, t.num, t.line + (d : Int)⟩
theorem toks_shift (d : Nat) : ∀ (l : List It) (line : Nat), toks (line + d) l = (toks line l).map (shiftTk d) ∧ endL (line + d) l = endL line l + d
  | [], _ => ⟨rfl, rfl⟩
  | i :: l, line => by
    obtain ⟨h1, h2⟩ := toks_shift d l (line + feeds i.gap)
    have e : line + d + feeds i.gap = line + feeds i.gap + d := by omega
    constructor
    · simp only [toks, List.map_cons]
      rw [e, h1]
      congr 1
    · simp only [endL]
      rw [e, h2]
theorem zall_shift (d : Nat) (l : List It) : (zall [] [] l).map (shiftTk d) = toks (1 + d) l ++ [⟨5, [], 0, (endL (1 + d) l : Nat)⟩] := by
  have e : feeds (gapText [] []) = 0 := by decide
  unfold zall
  rw [e, Nat.add_zero, List.map_append]
  obtain ⟨h1, h2⟩ := toks_shift d l 1
  rw [h1, h2]
  congr 1
theorem join_its {ga : Nat → Bs × List (Bs × Bs)} (hga : GapsOk ga) (one : List (Int × Int)) (m : Nat) (B : List It) (hB : ∀ i, i ∈ B → ItOk i) :
    ∃ b0 l0 items, GapOk b0 l0 ∧ (∀ i, i ∈ items → ItOk i) ∧ gapText b0 l0 ++ itText items = itText (zitsOf ga one m) ++ [10] ++ itText B ∧
      zall b0 l0 items = toks 1 (zitsOf ga one m) ++ (zall [] [] B).map (shiftTk (feeds (itText (zitsOf ga one m)) + 1)) := by
  cases m with
  | zero =>
    refine ⟨[10], [], B, ⟨by decide, fun p hp => (by cases hp)⟩, hB, by simp [gapText, zitsOf, itText], ?_⟩
    have e : feeds (gapText [10] []) = 1 := by decide
    have e2 : feeds (itText (zitsOf ga one 0)) = 0 := rfl
    rw [zall_shift, e2]
    unfold zall
    rw [e]
    simp [zitsOf, toks]
  | succ m =>
    have hok := zits_ok hga one (m + 1)
    have hlast : ItOk (zitAt ga one m) := hok _ (by rw [zits_succ]; simp)
    obtain ⟨g1, g2⟩ := gfeed_ok hlast.gap hlast.head
    have hi : ItOk ⟨(zitAt ga one m).x, (zitAt ga one m).k, (zitAt ga one m).n, (gfeed (zitAt ga one m).b (zitAt ga one m).l).1, (gfeed (zitAt ga one m).b (zitAt ga one m).l).2⟩ := ⟨hlast.tok, g1, g2⟩
    have hgap : It.gap ⟨(zitAt ga one m).x, (zitAt ga one m).k, (zitAt ga one m).n, (gfeed (zitAt ga one m).b (zitAt ga one m).l).1, (gfeed (zitAt ga one m).b (zitAt ga one m).l).2⟩ = (zitAt ga one m).gap ++ [10] := gfeed_text _ _
    generalize hit : (⟨(zitAt ga one m).x, (zitAt ga one m).k, (zitAt ga one m).n, (gfeed (zitAt ga one m).b (zitAt ga one m).l).1, (gfeed (zitAt ga one m).b (zitAt ga one m).l).2⟩ : It) = it at hi hgap
    have hx : it.x = (zitAt ga one m).x := by rw [← hit]
    have hk : it.k = (zitAt ga one m).k := by rw [← hit]
    have hn : it.n = (zitAt ga one m).n := by rw [← hit]
    refine ⟨[], [], zitsOf ga one m ++ (it :: B), gap_nil, ?_, ?_, ?_⟩
    · intro i hm
      rcases List.mem_append.1 hm with hm | hm
      · exact hok i (by rw [zits_succ]; exact List.mem_append_left _ hm)
      · rcases List.mem_cons.1 hm with rfl | hm
        · exact hi
        · exact hB i hm
    · rw [zits_succ, itText_app, itText_app, itText_cons, hx, hgap]
      simp [gapText, itText]
    · have e : feeds (gapText [] []) = 0 := by decide
      have hf := zits_feeds ga one 1 (m + 1)
      have hE := (zits_toks ga one 1 (m + 1)).2
      rw [zall_shift]
      have e3 : 1 + (feeds (itText (zitsOf ga one (m + 1))) + 1) = endL 1 (zitsOf ga one (m + 1)) + 1 := by rw [hE, ← hf]; omega
      rw [e3]
      unfold zall
      rw [e, Nat.add_zero, zits_succ, toks_app, toks_app, endL_app, endL_app]
      have e4 : endL (endL 1 (zitsOf ga one m)) (it :: B) = endL (endL (endL 1 (zitsOf ga one m)) [zitAt ga one m] + 1) B := by
        simp only [endL]
        rw [hgap, feeds_app]; rfl
      have e5 : toks (endL 1 (zitsOf ga one m)) (it :: B) = toks (endL 1 (zitsOf ga one m)) [zitAt ga one m] ++ toks (endL (endL 1 (zitsOf ga one m)) [zitAt ga one m] + 1) B := by
        simp only [toks, endL]
        rw [hgap, feeds_app, hx, hk, hn]; rfl
      rw [e4, e5]
      simp only [List.append_assoc]
end Go.Proofs.YtjmidoncojajcaaDoor
