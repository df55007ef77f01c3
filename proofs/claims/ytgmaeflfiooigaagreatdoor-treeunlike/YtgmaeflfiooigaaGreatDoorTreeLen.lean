/-
  Unlike right programs have unlike texts. Plain functions alone.
  How long the text of a raw program is; how many parts it has; two programs together. Plain functions alone.
-/
import Derived.Test.YtgmaeflfiooigaaGreatDoorTreeH
import Derived.Test.YtgmaeflfiooigaaGreatDoorTreeF
import Derived.Test.YtgmaeflfiooigaaGreatDoorTreeI
set_option linter.unusedVariables false
set_option linter.unusedSimpArgs false
namespace Go.Proofs.YtgmaeflfiooigaaGreatDoor
set_option maxHeartbeats 4000000

theorem name_dec {a b r s : Bs} {c d : UInt8} (ha : isName a = true) (hb : isName b = true) (hc : isNC c = false) (hd : isNC d = false) (h : a ++ c :: r = b ++ d :: s) : a = b ∧ c = d ∧ r = s := by
  obtain ⟨h1, h2⟩ := span_eq isNC _ _ _ _ (isName_nc ha) (isName_nc hb) (Free.cons hc) (Free.cons hd) h
  cases h2; exact ⟨h1, rfl, rfl⟩
theorem pmore_dec : ∀ (l m : List Bs) (r s : Bs), (∀ x, x ∈ l → isName x = true) → (∀ x, x ∈ m → isName x = true) →
    (l.map intP).flatMap (fun y => [44, 32] ++ y) ++ 41 :: r = (m.map intP).flatMap (fun y => [44, 32] ++ y) ++ 41 :: s → l = m ∧ r = s
  | [], [], r, s, _, _, h => by simp at h; exact ⟨rfl, h⟩
  | [], y :: m, r, s, _, _, h => by simp at h
  | x :: l, [], r, s, _, _, h => by simp at h
  | x :: l, y :: m, r, s, hl, hm, h => by
    simp only [List.map_cons, List.flatMap_cons, intP, List.cons_append, List.nil_append, List.append_assoc, List.cons.injEq, true_and] at h
    have sp : ∀ (l : List Bs) (r : Bs), Free isNC ((l.map intP).flatMap (fun y => 44 :: 32 :: y) ++ 41 :: r) := fun l r => by
      cases l with
      | nil => exact Free.cons (by decide)
      | cons z l => exact Free.cons (by decide)
    have hp := span_eq isNC _ _ _ _ (isName_nc (hl x List.mem_cons_self)) (isName_nc (hm y List.mem_cons_self)) (sp l r) (sp m s) h
    clear h
    obtain ⟨rfl, h⟩ := hp
    have hp := pmore_dec l m r s (fun z hz => hl z (List.mem_cons_of_mem _ hz)) (fun z hz => hm z (List.mem_cons_of_mem _ hz)) h
    clear h
    obtain ⟨rfl, h⟩ := hp
    exact ⟨rfl, h⟩
theorem pars_dec (l m : List Bs) (r s : Bs) (hl : ∀ x, x ∈ l → isName x = true) (hm : ∀ x, x ∈ m → isName x = true) (h : sepText (l.map intP) ++ 41 :: r = sepText (m.map intP) ++ 41 :: s) : l = m ∧ r = s := by
  cases l with
  | nil =>
    cases m with
    | nil => simp [sepText] at h; exact ⟨rfl, h⟩
    | cons y m => simp [sepText, intP] at h
  | cons x l =>
    cases m with
    | nil => simp [sepText, intP] at h
    | cons y m =>
      refine pmore_dec (x :: l) (y :: m) r s hl hm ?_
      simp only [List.map_cons, sepText, List.flatMap_cons, List.append_assoc] at h ⊢
      rw [h]
def LEnd (r : Bs) : Prop := ∀ q, r ≠ [9, 105, 110, 116, 32] ++ q
theorem loc_one (x : Bs) (l : List Bs) (r : Bs) : locText (x :: l) ++ r = [9, 105, 110, 116, 32] ++ (x ++ 59 :: 10 :: (locText l ++ r)) := by
  simp [locText, ln, tabsOf]
theorem locs_dec : ∀ (l m : List Bs) (r s : Bs), (∀ x, x ∈ l → isName x = true) → (∀ x, x ∈ m → isName x = true) → LEnd r → LEnd s → locText l ++ r = locText m ++ s → l = m ∧ r = s
  | [], [], r, s, _, _, _, _, h => ⟨rfl, h⟩
  | [], y :: m, r, s, _, _, hr, _, h => by rw [loc_one] at h; exact absurd h (hr _)
  | x :: l, [], r, s, _, _, _, hs, h => by rw [loc_one] at h; exact absurd h.symm (hs _)
  | x :: l, y :: m, r, s, hl, hm, hr, hs, h => by
    rw [loc_one, loc_one] at h
    replace h := List.append_cancel_left h
    have hp := name_dec (hl x List.mem_cons_self) (hm y List.mem_cons_self) (by decide) (by decide) h
    clear h
    obtain ⟨rfl, _, h⟩ := hp
    simp only [List.cons.injEq, true_and] at h
    have hp := locs_dec l m r s (fun z hz => hl z (List.mem_cons_of_mem _ hz)) (fun z hz => hm z (List.mem_cons_of_mem _ hz)) hr hs h
    clear h
    obtain ⟨rfl, h⟩ := hp
    exact ⟨rfl, h⟩
theorem wd_int {x : St} (hx : SOk x) : wdS x ≠ [105, 110, 116] := by
  have nn : ∀ {nm : Bs}, isName nm = true → nm ≠ [105, 110, 116] := fun h e => by subst e; exact absurd h (by decide)
  have hc := canonS hx
  cases hc with
  | set nm x h hx => exact nn h
  | store nm x y h hx hy => exact nn h
  | call nm l h hn hl => exact nn h
  | _ => intro e; have := wd_word _ (by simp [St.kind]) (by simp [St.kind]) |>.symm.trans (congrArg isWord e); simp [wdS, St.kind] at e
theorem body_end (l : List St) (hl : ∀ x, x ∈ l → SOk x) (r : Bs) : LEnd (stsText 1 l ++ 125 :: r) := by
  intro q h
  cases l with
  | nil => simp [stsText] at h
  | cons x l =>
    obtain ⟨t1, c1, f1, _⟩ := st_parts (hl x List.mem_cons_self) 1
    rw [stsText, t1] at h
    simp only [tabsOf, List.replicate, List.append_assoc, List.cons_append, List.nil_append, List.cons.injEq, true_and] at h
    have := (span_eq isNC (wdS x) [105, 110, 116] _ (32 :: q) c1 (by decide) (f1 _) (Free.cons (by decide)) h).1
    exact wd_int (hl x List.mem_cons_self) this
structure FOk (f : Fu) : Prop where
  name : isName f.name = true
  params : ∀ x, x ∈ f.params → isName x = true
  locals : ∀ x, x ∈ f.locals → isName x = true
  body : ∀ x, x ∈ f.body → SOk x
theorem right_fok {f : Fu} (h : rightFu f = true) : FOk f := by
  unfold rightFu at h
  simp only [Bool.and_eq_true, List.all_eq_true] at h
  exact ⟨h.1.1.1.1, h.1.1.1.2, h.1.1.2, fun x hx => ⟨40, h.2 x hx⟩⟩
theorem fu_dec {f g : Fu} (hf : FOk f) (hg : FOk g) {r s : Bs} (h : fuText f ++ r = fuText g ++ s) : f = g ∧ r = s := by
  obtain ⟨n, p, l, b⟩ := f
  obtain ⟨n', p', l', b'⟩ := g
  have e : ∀ (n : Bs) (p l : List Bs) (b : List St) (r : Bs), fuText ⟨n, p, l, b⟩ ++ r = [105, 110, 116, 32] ++ (n ++ 40 :: (sepText (p.map intP) ++ 41 :: ([32, 123, 10] ++ (locText l ++ (stsText 1 b ++ 125 :: 10 :: r))))) := fun n p l b r => by
    simp [fuText, ln, tabsOf]
  rw [e, e] at h
  replace h := List.append_cancel_left h
  have hp := name_dec hf.name hg.name (by decide) (by decide) h
  clear h
  obtain ⟨rfl, _, h⟩ := hp
  have hp := pars_dec p p' _ _ hf.params hg.params h
  clear h
  obtain ⟨rfl, h⟩ := hp
  replace h := List.append_cancel_left h
  have hp := locs_dec l l' _ _ hf.locals hg.locals (body_end b hf.body _) (body_end b' hg.body _) h
  clear h
  obtain ⟨rfl, h⟩ := hp
  have hp := sts_dec 0 b b' _ _ (fun z hz => ⟨st_any (hf.body z hz), hf.body z hz⟩) hg.body ⟨_, rfl⟩ ⟨_, rfl⟩ h
  clear h
  obtain ⟨rfl, h⟩ := hp
  exact ⟨rfl, by simpa using h⟩
theorem fus_dec : ∀ (l m : List Fu), (∀ f, f ∈ l → FOk f) → (∀ f, f ∈ m → FOk f) → fusText l = fusText m → l = m
  | [], [], _, _, _ => rfl
  | [], y :: m, _, _, h => by simp [fusText, fuText] at h
  | x :: l, [], _, _, h => by simp [fusText, fuText] at h
  | x :: l, y :: m, hl, hm, h => by
    replace h : fuText x ++ fusText l = fuText y ++ fusText m := h
    have hp := fu_dec (hl x List.mem_cons_self) (hm y List.mem_cons_self) h
    clear h
    obtain ⟨rfl, h⟩ := hp
    rw [fus_dec l m (fun z hz => hl z (List.mem_cons_of_mem _ hz)) (fun z hz => hm z (List.mem_cons_of_mem _ hz)) h]
def AOk (a : Ar) : Prop := isName a.name = true ∧ 0 ≤ a.size
theorem ar_one (a : Ar) (r : Bs) : arText a ++ r = [105, 110, 116, 32] ++ (a.name ++ 91 :: (Lib.itoa a.size ++ 93 :: 59 :: 10 :: r)) := by
  simp [arText, ln, tabsOf]
theorem fu_one (f : Fu) (l : List Fu) : ∃ q, fusText (f :: l) = [105, 110, 116, 32] ++ (f.name ++ 40 :: q) := ⟨sepText (f.params.map intP) ++ ([41, 32, 123, 10] ++ (locText f.locals ++ (stsText 1 f.body ++ (ln 0 [[125]] ++ fusText l)))), by simp only [fusText, fuText, List.flatMap_cons, List.append_assoc, List.cons_append, List.nil_append]⟩
theorem pr_dec : ∀ (a b : List Ar) (l m : List Fu), (∀ x, x ∈ a → AOk x) → (∀ x, x ∈ b → AOk x) → (∀ f, f ∈ l → FOk f) → (∀ f, f ∈ m → FOk f) → arsText a ++ fusText l = arsText b ++ fusText m → a = b ∧ l = m
  | [], [], l, m, _, _, hl, hm, h => ⟨rfl, fus_dec l m hl hm h⟩
  | [], y :: b, l, m, _, hb, hl, _, h => by
    replace h : fusText l = arText y ++ arsText b ++ fusText m := h
    rw [List.append_assoc, ar_one] at h
    cases l with
    | nil => simp [fusText] at h
    | cons f l =>
      obtain ⟨q, hq⟩ := fu_one f l
      rw [hq] at h
      obtain ⟨_, h, _⟩ := name_dec (hl f List.mem_cons_self).name (hb y List.mem_cons_self).1 (by decide) (by decide) (List.append_cancel_left h)
      exact absurd h (by decide)
  | x :: a, [], l, m, ha, _, _, hm, h => by
    replace h : arText x ++ arsText a ++ fusText l = fusText m := h
    rw [List.append_assoc, ar_one] at h
    cases m with
    | nil => simp [fusText] at h
    | cons f m =>
      obtain ⟨q, hq⟩ := fu_one f m
      rw [hq] at h
      obtain ⟨_, h, _⟩ := name_dec (ha x List.mem_cons_self).1 (hm f List.mem_cons_self).name (by decide) (by decide) (List.append_cancel_left h)
      exact absurd h (by decide)
  | x :: a, y :: b, l, m, ha, hb, hl, hm, h => by
    replace h : arText x ++ arsText a ++ fusText l = arText y ++ arsText b ++ fusText m := h
    rw [List.append_assoc, List.append_assoc, ar_one, ar_one] at h
    have hx := ha x List.mem_cons_self
    have hy := hb y List.mem_cons_self
    have hp := name_dec hx.1 hy.1 (by decide) (by decide) (List.append_cancel_left h)
    clear h
    obtain ⟨hn, _, h⟩ := hp
    have hp := span_eq isDigit _ _ _ _ (by rw [itoa_pos hx.2]; exact (dec_digits _).1) (by rw [itoa_pos hy.2]; exact (dec_digits _).1) (Free.cons (by decide)) (Free.cons (by decide)) h
    clear h
    obtain ⟨hs, h⟩ := hp
    replace hs := itoa_inj hx.2 hy.2 hs
    simp only [List.cons.injEq, true_and] at h
    obtain ⟨rfl, rfl⟩ := pr_dec a b l m (fun z hz => ha z (List.mem_cons_of_mem _ hz)) (fun z hz => hb z (List.mem_cons_of_mem _ hz)) hl hm h
    obtain ⟨n1, s1⟩ := x
    obtain ⟨n2, s2⟩ := y
    replace hn : n1 = n2 := hn
    replace hs : s1 = s2 := hs
    subst hn; subst hs
    exact ⟨rfl, rfl⟩
/-- Unlike right programs have unlike texts. -/
theorem prText_inj {p q : Pr} (hp : rightPr p = true) (hq : rightPr q = true) (h : prText p = prText q) : p = q := by
  obtain ⟨a, l⟩ := p
  obtain ⟨b, m⟩ := q
  unfold rightPr at hp hq
  simp only [Bool.and_eq_true, List.all_eq_true] at hp hq
  have aok : ∀ x, rightAr x = true → AOk x := fun x h => by
    unfold rightAr at h
    simp only [Bool.and_eq_true, decide_eq_true_eq] at h
    exact ⟨h.1, by omega⟩
  obtain ⟨rfl, rfl⟩ := pr_dec a b l m (fun x hx => aok x (hp.1 x hx)) (fun x hx => aok x (hq.1 x hx)) (fun f hf => right_fok (hp.2 f hf)) (fun f hf => right_fok (hq.2 f hf)) h
  rfl
end Go.Proofs.YtgmaeflfiooigaaGreatDoor

namespace Go.Proofs.YtgmaeflfiooigaaGreatDoor
set_option maxHeartbeats 4000000

def fuB : Nat := 1000 + stB 4
def prB : Nat := 200 + 3 * fuB
theorem prB_fits : 2 * prB ≤ 140737488355328 := by decide +kernel
theorem arText_len {a : Ar} (h : rightAr a = true) : (arText a).length ≤ 100 := by
  unfold rightAr at h
  simp only [Bool.and_eq_true, decide_eq_true_eq] at h
  have h1 := isName_len h.1
  have h2 := Lib.itoa_length_le a.size (by omega) (by omega)
  unfold arText
  rw [ln_len]
  simp only [List.flatten_cons, List.flatten_nil, List.length_append, List.length_cons, List.length_nil]; omega
theorem arsText_len : ∀ l : List Ar, (∀ a, a ∈ l → rightAr a = true) → (arsText l).length ≤ l.length * 100
  | [], _ => by simp [arsText]
  | a :: l, h => by
    have h1 := arText_len (h a List.mem_cons_self)
    have h2 := arsText_len l (fun x hx => h x (List.mem_cons_of_mem _ hx))
    show (arText a ++ arsText l).length ≤ _
    rw [List.length_append, List.length_cons, Nat.add_mul]; omega
theorem locText_len : ∀ l : List Bs, (∀ x, x ∈ l → isName x = true) → (locText l).length ≤ l.length * 40
  | [], _ => by simp [locText]
  | x :: l, h => by
    have h1 := isName_len (h x List.mem_cons_self)
    have h2 := locText_len l (fun y hy => h y (List.mem_cons_of_mem _ hy))
    show (ln 1 [[105, 110, 116, 32], x, [59]] ++ locText l).length ≤ _
    rw [List.length_append, ln_len, List.length_cons, Nat.add_mul]
    simp only [List.flatten_cons, List.flatten_nil, List.length_append, List.length_cons, List.length_nil]; omega
theorem fuText_len {f : Fu} (h : FOk f) (hp : f.params.length ≤ 6) (hl : f.locals.length ≤ 5) (hb : (stsText 1 f.body).length ≤ stB 4) : (fuText f).length ≤ fuB := by
  have h1 := isName_len h.name
  have h2 := sep_len 24 (f.params.map intP) (fun x hx => by
    obtain ⟨y, hy, rfl⟩ := List.mem_map.1 hx
    have := isName_len (h.params y hy)
    unfold intP; rw [List.length_append]; simp; omega)
  have h3 := locText_len f.locals h.locals
  have h4 : (f.params.map intP).length * (24 + 2) ≤ 6 * 26 := Nat.mul_le_mul_right _ (by rw [List.length_map]; exact hp)
  have h5 : f.locals.length * 40 ≤ 5 * 40 := Nat.mul_le_mul_right _ hl
  unfold fuText fuB
  simp only [List.length_append, ln_len, List.flatten_cons, List.flatten_nil, List.length_cons, List.length_nil]
  omega
theorem fusText_len : ∀ l : List Fu, (∀ f, f ∈ l → (fuText f).length ≤ fuB) → (fusText l).length ≤ l.length * fuB
  | [], _ => by simp [fusText]
  | a :: l, h => by
    have h1 := h a List.mem_cons_self
    have h2 := fusText_len l (fun x hx => h x (List.mem_cons_of_mem _ hx))
    show (fuText a ++ fusText l).length ≤ _
    rw [List.length_append, List.length_cons, Nat.add_mul]; omega
theorem gBodies_all (raw : List Int) (sc : Sc) (P : Fu → Prop) (hP : ∀ f, f ∈ sc.funcs → ∀ a, P (gBody raw sc f a).1) : ∀ (l : List Fu), (∀ f, f ∈ l → f ∈ sc.funcs) → ∀ a, ∀ x, x ∈ (gBodies raw sc l a).1 → P x
  | [], _, a, x, hx => by cases hx
  | f :: l, hl, a, x, hx => by
    rw [gBodies] at hx
    rcases List.mem_cons.1 hx with rfl | hx
    · exact hP f (hl f List.mem_cons_self) a
    · exact gBodies_all raw sc P hP l (fun g hg => hl g (List.mem_cons_of_mem _ hg)) _ x hx
theorem gBodies_length (raw : List Int) (sc : Sc) : ∀ (l : List Fu) (a : Nat), (gBodies raw sc l a).1.length = l.length
  | [], a => rfl
  | g :: l, a => by rw [gBodies, List.length_cons, List.length_cons, gBodies_length raw sc l]
theorem gArrs_length (free : Bool) (raw : List Int) : ∀ n a, (gArrs free raw n a).1.length = n
  | 0, a => rfl
  | n + 1, a => by rw [gArrs, List.length_cons, gArrs_length free raw n]
theorem gFuns_length (raw : List Int) : ∀ n a, (gFuns raw n a).1.length = n
  | 0, a => rfl
  | n + 1, a => by rw [gFuns, List.length_cons, gFuns_length raw n]
theorem gSc_ok (raw : List Int) (free : Bool) {f : Fu} (hf : f ∈ (gProgSc raw free).funcs) (k : Nat) : Sc.Ok ⟨f.params ++ lNames.take k, (gProgSc raw free).arrays, (gProgSc raw free).funcs, free, false⟩ := by
  refine ⟨fun x hx => ?_, fun x hx => ?_, fun x hx => ⟨(gProg_heads raw free x hx).1, (gProg_heads raw free x hx).2.1⟩⟩
  · rcases List.mem_append.1 hx with hx | hx
    · exact (gProg_heads raw free f hf).2.2 x hx
    · exact lNames_ok x (List.mem_of_mem_take hx)
  · have := gProg_arrays raw free x hx
    unfold rightAr at this; exact ((Bool.and_eq_true _ _).mp this).1
theorem gProg_funcs (raw : List Int) (free : Bool) : ∀ f, f ∈ (gProg raw free).funcs → (fuText f).length ≤ fuB := by
  intro f hf
  have hr := gProg_right raw free
  unfold rightPr at hr
  simp only [Bool.and_eq_true, List.all_eq_true] at hr
  have hok := right_fok (hr.2 f hf)
  have h := gBodies_all (raw.take 400) (gProgSc (raw.take 400) free) (fun f => f.params.length ≤ 6 ∧ f.locals.length ≤ 5 ∧ (stsText 1 f.body).length ≤ stB 4) (fun g hg a => by
    have hh := gProg_heads (raw.take 400) free g hg
    refine ⟨hh.2.1, ?_, ?_⟩
    · show (lNames.take _).length ≤ 5
      rw [List.length_take]; exact Nat.min_le_right _ _
    · exact gStmts_len (raw.take 400) 4 1 _ (gSc_ok (raw.take 400) free hg _) (by omega) _) (gProgSc (raw.take 400) free).funcs (fun f hf => hf) _ f hf
  exact fuText_len hok h.1 h.2.1 h.2.2
theorem gProg_counts (raw : List Int) (free : Bool) : (gProg raw free).arrays.length ≤ 2 ∧ (gProg raw free).funcs.length ≤ 3 ∧ 0 < (gProg raw free).funcs.length := by
  have h1 := gNext_range (raw.take 400) 0 3 (by decide)
  have h2 := gNext_range (raw.take 400) (gProgA (raw.take 400) free).2 3 (by decide)
  have ea : (gProg raw free).arrays.length = (gNext (raw.take 400) 0 3).1.toNat := gArrs_length _ _ _ _
  have ef : (gProg raw free).funcs.length = (gNext (raw.take 400) (gProgA (raw.take 400) free).2 3).1.toNat + 1 := by
    show (gBodies _ _ _ _).1.length = _
    rw [gBodies_length]
    show (fMain :: (gProgF _ _).1).length = _
    rw [List.length_cons]
    show (gFuns _ _ _).1.length + 1 = _
    rw [gFuns_length]
  rw [ea, ef]
  omega
theorem gProg_len (raw : List Int) (free : Bool) : (prText (gProg raw free)).length ≤ prB := by
  have hr := gProg_right raw free
  unfold rightPr at hr
  simp only [Bool.and_eq_true, List.all_eq_true] at hr
  obtain ⟨c1, c2, _⟩ := gProg_counts raw free
  have h1 := arsText_len _ hr.1
  have h2 := fusText_len _ (gProg_funcs raw free)
  have h3 : (gProg raw free).arrays.length * 100 ≤ 2 * 100 := Nat.mul_le_mul_right _ c1
  have h4 : (gProg raw free).funcs.length * fuB ≤ 3 * fuB := Nat.mul_le_mul_right _ c2
  unfold prText prB
  rw [List.length_append]; omega
theorem fuCount_len {f : Fu} (h : FOk f) : stsCount f.body ≤ (fuText f).length := by
  have := stsCount_of 1 f.body (fun x hx => stCount_len _ x (Nat.le_refl _) (h.body x hx) 1)
  unfold fuText
  simp only [List.length_append]; omega
theorem fusCount_len : ∀ l : List Fu, (∀ f, f ∈ l → FOk f) → fusCount l ≤ (fusText l).length
  | [], _ => Nat.zero_le _
  | f :: l, h => by
    have h1 := fuCount_len (h f List.mem_cons_self)
    have h2 := fusCount_len l (fun g hg => h g (List.mem_cons_of_mem _ hg))
    show stsCount f.body + fusCount l ≤ (fuText f ++ fusText l).length
    rw [List.length_append]; omega
theorem prCount_len {p : Pr} (h : rightPr p = true) : prCount p ≤ (prText p).length := by
  unfold rightPr at h
  simp only [Bool.and_eq_true, List.all_eq_true] at h
  have := fusCount_len p.funcs (fun f hf => right_fok (h.2 f hf))
  unfold prCount prText
  rw [List.length_append]; omega
theorem prText_ne {p : Pr} (h : 0 < p.funcs.length) : prText p ≠ [] := by
  obtain ⟨a, l⟩ := p
  cases l with
  | nil => cases h
  | cons f l =>
    unfold prText
    intro e
    have := (List.append_eq_nil_iff.1 e).2
    simp [fusText, fuText] at this
/-- Two programs together. -/
def bothOf (p q : Pr) : Pr := ⟨p.arrays, p.funcs ++ q.funcs⟩
def bareOf (q : Pr) : Pr := ⟨[], q.funcs⟩
theorem both_right {p q : Pr} (hp : rightPr p = true) (hq : rightPr q = true) : rightPr (bothOf p q) = true ∧ rightPr (bareOf q) = true := by
  unfold rightPr at *
  simp only [Bool.and_eq_true, List.all_eq_true, bothOf, bareOf] at *
  refine ⟨⟨hp.1, fun f hf => ?_⟩, fun x hx => (by cases hx), hq.2⟩
  rcases List.mem_append.1 hf with h | h
  · exact hp.2 f h
  · exact hq.2 f h
theorem both_text (p q : Pr) : prText (bothOf p q) = prText p ++ prText (bareOf q) := by
  unfold prText bothOf bareOf
  simp [fusText, arsText]
theorem both_count (p q : Pr) : prCount (bothOf p q) = prCount p + prCount (bareOf q) := by
  unfold prCount bothOf bareOf
  exact fusCount_app _ _
theorem bare_len (q : Pr) : (prText (bareOf q)).length ≤ (prText q).length := by
  unfold prText bareOf
  rw [List.length_append, List.length_append]
  show ([] : Bs).length + _ ≤ _
  simp
end Go.Proofs.YtgmaeflfiooigaaGreatDoor
