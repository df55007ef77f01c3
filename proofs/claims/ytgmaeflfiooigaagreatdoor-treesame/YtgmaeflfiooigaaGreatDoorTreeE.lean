/-
  words and line: texts and expressions, one behind the other, into the printer. Conditions: the expressions may be; the text takes at most 2^47 bytes; the library's table of powers is there.
  stmt and inside: statements' lines. Conditions: the statements may be; the text takes at most 2^47 bytes; the library's table of powers is there.
  stmt and inside: statements' lines. Conditions: the statements may be; the text takes at most 2^47 bytes; the library's table of powers is there.
  stmt and inside: statements' lines. Conditions: the statements may be; the text takes at most 2^47 bytes; the library's table of powers is there.
  stmt and inside: statements' lines. Conditions: the statements may be; the text takes at most 2^47 bytes; the library's table of powers is there.
  stmt and inside: statements' lines. Conditions: the statements may be; the text takes at most 2^47 bytes; the library's table of powers is there.
  stmt and inside: statements' lines. Conditions: the statements may be; the text takes at most 2^47 bytes; the library's table of powers is there.
  stmt and inside: statements' lines. Conditions: the statements may be; the text takes at most 2^47 bytes; the library's table of powers is there.
-/
import Derived.Test.YtgmaeflfiooigaaGreatDoorTreeD
import Derived.Test.YtgmaeflfiooigaaGreatDoorTreeA
set_option linter.unusedVariables false
set_option linter.unusedSimpArgs false
namespace Go.Proofs.YtgmaeflfiooigaaGreatDoor
open Go.RowKit
set_option maxHeartbeats 2000000
set_option maxRecDepth 100000

/-- A thing that words takes: a text, or an expression whose parts lie at v. -/
inductive It where
  | s (x : Bs)
  | e (x : Ex) (v : Value)
def It.val : It → Value
  | .s x => .iface 9 (.string (strOf x))
  | .e x v => .iface 31 (exV x v)
def It.text : It → Bs
  | .s x => x
  | .e x _ => exText x
def It.ok (b : Nat) (w : World) : It → Prop
  | .s _ => True
  | .e x v => ExsAt (· < b) w x.args v ∧ I64 x.n ∧ wellOk x = true
def itNil : It := .s []
theorem It.ok.keep {b : Nat} {w w' : World} (hk : Keeps (· < b) w w') {x : It} (h : x.ok b w) : x.ok b w' := by
  cases x with
  | s x => trivial
  | e x v => exact ⟨h.1.keep hk, h.2⟩
def itText (l : List It) : Bs := l.flatMap It.text
@[go_sem] theorem asExEx (v : Value) (w : World) : (Instr.typeAssert (.iface 31 v) 20 31 true).run Tryz.prog w = .ok (.tuple #[v, .bool true]) w := by kernel_rfl
@[go_sem] theorem asStEx (v : Value) (w : World) : (Instr.typeAssert (.iface 9 v) 20 31 true).run Tryz.prog w = .ok (.tuple #[.agg #[.int .i64 0, .int .i64 0, .int .i64 0, .string ByteArray.empty, .slice none 0 0], .bool false]) w := by kernel_rfl
@[go_sem] theorem asStSt (v : Value) (w : World) : (Instr.typeAssert (.iface 9 v) 20 9 false).run Tryz.prog w = .ok v w := by kernel_rfl

theorem itText_take (l : List It) (k : Nat) (h : k < l.length) : itText (l.take (k + 1)) = itText (l.take k) ++ (l.getD k itNil).text := by
  unfold itText; rw [List.take_succ_eq_append_getElem h, List.flatMap_append]; simp [List.getElem?_eq_getElem h]
theorem itText_take_le (l : List It) (k : Nat) : (itText (l.take k)).length ≤ (itText l).length := by
  have e : itText l = itText (l.take k) ++ itText (l.drop k) := by unfold itText; rw [← List.flatMap_append, List.take_append_drop]
  rw [e]; simp

theorem words_any (its : List It) (X cap b : Nat) (bs : Bs) (t : Int) (w : World) (hb : 3 < b) (ht : TabOk w) (hp : PrtAt w b bs t) (hl : Loc w b X (its.map It.val)) (ho : ∀ x, x ∈ its → x.ok b w) (hf : Fits (bs.length + (itText its).length)) (hn : its.length ≤ 1000) :
    Calls Tryz.prog 74 #[.pointer (some ⟨b, 0, none⟩), .slice (some ⟨X, 0, none⟩) its.length cap] w (Puts w b bs t (itText its)) := by
  have HP := Lib.hid hp; have HL := Lib.hid hl; have HF := Lib.hid hf; have HO := Lib.hid ho; have HT := Lib.hid ht
  clear hp hl hf ho ht
  go_enter Tryz.func74, Tryz.ntmps74
  go_wp2_with fail
  go_loopw [5, 6, 7, 10] (fun _ _ _ s10 wr => ∃ k : Nat, k ≤ its.length ∧ s10 = .int .i64 k ∧ PrtAt wr b (bs ++ itText (its.take k)) t ∧ PFr b w wr) (fun _ _ _ s10 _ => its.length - (intOf s10).toNat)
  case atStart => exact ⟨0, Nat.zero_le _, rfl, by simpa [itText] using HP.out, PFr.refl _ _⟩
  case round =>
    obtain ⟨k, hk, rfl, hp, hfr⟩ := hrel
    have HPK := Lib.hid hp; have HFR := Lib.hid hfr
    have hbl := hp.lt
    have HLK := Lib.hid (HL.out.step hfr)
    clear hp hfr
    by_cases hlt : k < its.length
    · have c := HLK.out.cell k (by simpa using hlt)
      have hmem : its.getD k itNil ∈ its := by rw [List.getD_eq_getElem?_getD, List.getElem?_eq_getElem hlt]; exact List.getElem_mem hlt
      have ec : (its.map It.val)[k]'(by simpa using hlt) = (its.getD k itNil).val := by simp [List.getElem?_eq_getElem hlt]
      rw [ec] at c
      have hsp := Lib.hid (itText_take its k hlt)
      have hfit : Hid (Fits ((bs ++ itText (its.take k)).length + ((its.getD k itNil).text).length)) := by
        refine HF.out.mono ?_
        have e := itText_take_le its (k + 1)
        rw [hsp.out] at e; simp at e; simp; omega
      have HOK := Lib.hid (HO.out _ hmem)
      clear ec hmem
      generalize its.getD k itNil = x at c hsp hfit HOK
      cases x with
      | s x =>
        simp only [It.val, It.text] at c hsp hfit
        go_wp2_with fail
        refine (put1 x _ _ b _ t _ (by simp) (HPK.out.alloc _) hfit.out).mono ?_
        rintro r w3 ⟨rfl, hp3, hf3⟩
        have HP3 := Lib.hid hp3; have HF3 := Lib.hid hf3
        clear hp3 hf3
        go_wp2_with fail
        go_roundw
        case rel => exact ⟨k + 1, by omega, by go_num, by rw [hsp.out, ← List.append_assoc]; exact HP3.out, HFR.out.trans ((PFr.alloc HPK.out _).trans HF3.out)⟩
        case measure => simp [intOf]; omega
      | e e v =>
        obtain ⟨hes, hn, hw⟩ := HOK.out
        obtain ⟨ea, ec, rfl⟩ := hes.shape
        have HES := Lib.hid hes; have HN := Lib.hid hn; have HW := Lib.hid hw
        clear hes hn hw HOK
        simp only [It.val, It.text, exV] at c hsp hfit
        go_wp2_with fail
        refine (expr_any _ e (Nat.le_refl _) b _ t _ _ hb (HT.out.fr (HFR.out.trans (PFr.alloc HPK.out _)) HP.out hb) (HPK.out.alloc _) (HES.out.keep ((HFR.out.trans (PFr.alloc HPK.out _)).keeps HP.out)) HN.out HW.out hfit.out).mono ?_
        rintro r w3 ⟨rfl, hp3, hf3⟩
        have HP3 := Lib.hid hp3; have HF3 := Lib.hid hf3
        clear hp3 hf3
        go_wp2_with fail
        go_roundw
        case rel => exact ⟨k + 1, by omega, by go_num, by rw [hsp.out, ← List.append_assoc]; exact HP3.out, HFR.out.trans ((PFr.alloc HPK.out _).trans HF3.out)⟩
        case measure => simp [intOf]; omega
    · go_wp2_with fail
      go_end0
      exact ⟨rfl, by have e : its.take k = its := List.take_of_length_le (by omega); have q := HPK.out; rwa [e] at q, HFR.out⟩

theorem repeatL_tab (c : Nat) : Lib.repeatL [9] c = tabsOf c := by
  induction c with
  | zero => rfl
  | succ n ih => simp [Lib.repeatL, tabsOf, List.replicate_succ] at *; try exact ih
theorem PrtAt.tab {w : World} {b : Nat} {bs : Bs} {t : Int} (h : PrtAt w b bs t) : w.cell? ⟨b, 2, none⟩ = some (.int .i64 t) := by
  obtain ⟨p, v, hb, _⟩ := h
  rw [Lib.cell_of_heap hb]; rfl
theorem line_any (its : List It) (X cap b : Nat) (bs : Bs) (t : Nat) (w : World) (hb : 3 < b) (ht : TabOk w) (hp : PrtAt w b bs t) (hl : Loc w b X (its.map It.val)) (ho : ∀ x, x ∈ its → x.ok b w)
    (htt : t ≤ 1000000) (hf : Fits (bs.length + (tabsOf t ++ itText its ++ [10]).length)) (hn : its.length ≤ 1000) :
    Calls Tryz.prog 38 #[.pointer (some ⟨b, 0, none⟩), .slice (some ⟨X, 0, none⟩) its.length cap] w (Puts w b bs t (tabsOf t ++ itText its ++ [10])) := by
  have c2 := hp.tab
  have HP := Lib.hid hp; have HL := Lib.hid hl; have HF := Lib.hid hf; have HO := Lib.hid ho; have HT := Lib.hid ht
  clear hp hl hf ho ht
  go_enter Tryz.func38, Tryz.ntmps38
  go_wp2_with fail
  refine (Tryz.strings_Repeat _ t _ (by omega) (by show 1 * t ≤ _; omega)).mono ?_
  rintro r w1 ⟨rfl, hb1⟩
  have e1 : ((ByteArray.mk #[9]).data.toList) = [9] := rfl
  rw [e1, repeatL_tab]
  have HP1 := Lib.hid (HP.out.old hb1); have HF1 := Lib.hid (PFr.of_below hb1 HP.out.lt)
  clear hb1 c2 e1
  go_wp2_with fail
  refine (put1 (tabsOf t) _ _ b _ t w1 rfl HP1.out (HF.out.mono (by simp))).mono ?_
  rintro r w2 ⟨rfl, hp2, hf2⟩
  have HP2 := Lib.hid hp2; have HF2 := Lib.hid (HF1.out.trans hf2)
  clear hp2 hf2
  go_wp2_with fail
  refine (words_any its X cap b _ t w2 hb (HT.out.fr HF2.out HP.out hb) HP2.out (HL.out.step HF2.out) (fun x hx => (HO.out x hx).keep (HF2.out.keeps HP.out)) (HF.out.mono (by simp; omega)) hn).mono ?_
  rintro r w3 ⟨rfl, hp3, hf3⟩
  have HP3 := Lib.hid hp3; have HF3 := Lib.hid (HF2.out.trans hf3)
  clear hp3 hf3
  go_wp2_with fail
  refine (put1 [10] _ _ b _ t w3 rfl HP3.out (HF.out.mono (by simp; omega))).mono ?_
  rintro r w4 ⟨rfl, hp4, hf4⟩
  have HP4 := Lib.hid hp4; have HF4 := Lib.hid (HF3.out.trans hf4)
  clear hp4 hf4
  go_wp2_with fail
  go_end0
  exact ⟨rfl, by simpa using HP4.out, HF4.out⟩
def lineText (t : Nat) (its : List It) : Bs := ln t (its.map It.text)
theorem line_at (its : List It) (T : TypeId) (X b : Nat) (bs : Bs) (t : Nat) (w : World) (hX : X = w.heap.size) (hb : 3 < b) (ht : TabOk w) (hp : PrtAt w b bs t) (ho : ∀ x, x ∈ its → x.ok b w)
    (htt : t ≤ 1000000) (hf : Fits (bs.length + (lineText t its).length)) (hn : its.length ≤ 1000) :
    Calls Tryz.prog 38 #[.pointer (some ⟨b, 0, none⟩), .slice (some ⟨X, 0, none⟩) its.length its.length] (w.alloc (.cells (its.map It.val).toArray T)) (Puts w b bs t (lineText t its)) := by
  subst hX
  refine (line_any its w.heap.size its.length b bs t _ hb (ht.fr (PFr.alloc hp _) hp hb) (hp.alloc _) (Loc.new hp (its.map It.val) T) (fun x hx => (ho x hx).keep ((PFr.alloc hp _).keeps hp)) htt hf hn).mono ?_
  rintro r w' ⟨rfl, h2, h3⟩
  exact ⟨rfl, h2, (PFr.alloc hp _).trans h3⟩
end Go.Proofs.YtgmaeflfiooigaaGreatDoor

namespace Go.Proofs.YtgmaeflfiooigaaGreatDoor
open Go.RowKit
set_option maxHeartbeats 4000000
set_option maxRecDepth 100000

theorem Fits.left {n : Nat} {a c : Bs} (h : Fits (n + (a ++ c).length)) : Fits (n + a.length) := h.mono (by simp only [List.length_append]; omega)
theorem Fits.right {bs a c : Bs} (h : Fits (bs.length + (a ++ c).length)) : Fits ((bs ++ a).length + c.length) := h.mono (by simp only [List.length_append]; omega)
def AllOk (b : Nat) (w : World) (l : List It) : Prop := ∀ x, x ∈ l → x.ok b w
theorem AllOk.nil {b : Nat} {w : World} : AllOk b w [] := fun _ h => by cases h
theorem AllOk.s {b : Nat} {w : World} {x : Bs} {l : List It} (h : AllOk b w l) : AllOk b w (.s x :: l) := fun y hy => by
  rcases List.mem_cons.1 hy with rfl | hy
  · trivial
  · exact h y hy
theorem AllOk.e {b : Nat} {w : World} {x : Ex} {v : Value} {l : List It} (hx : ExsAt (· < b) w x.args v) (hn : I64 x.n) (hw : wellOk x = true) (h : AllOk b w l) : AllOk b w (.e x v :: l) := fun y hy => by
  rcases List.mem_cons.1 hy with rfl | hy
  · exact ⟨hx, hn, hw⟩
  · exact h y hy
theorem line_ln (its : List It) (T : TypeId) (X b : Nat) (bs : Bs) (t : Nat) (w : World) (hX : X = w.heap.size) (hb : 3 < b) (ht : TabOk w) (hp : PrtAt w b bs t) (ho : AllOk b w its)
    (htt : t ≤ 1000000) (hf : Fits (bs.length + (ln t (its.map It.text)).length)) (hn : its.length ≤ 1000) :
    Calls Tryz.prog 38 #[.pointer (some ⟨b, 0, none⟩), .slice (some ⟨X, 0, none⟩) its.length its.length] (w.alloc (.cells (its.map It.val).toArray T)) (Puts w b bs t (ln t (its.map It.text))) :=
  line_at its T X b bs t w hX hb ht hp ho htt hf hn

/-- The first, the first two expressions: where they stand. -/
theorem ExsAt.at0 {D : Nat → Prop} {w : World} {l : List Ex} {a : Option Addr} {n cap : Nat} (h : ExsAt D w l (.slice a n cap)) (hl : 0 < l.length) : ∃ b off s, a = some ⟨b, off, none⟩ ∧ D b ∧ b < w.heap.size ∧
    w.cell? ⟨b, off, none⟩ = some (.int .i64 (exAt l 0).kind) ∧ w.cell? ⟨b, off + 1, none⟩ = some (.int .i64 (exAt l 0).op) ∧ w.cell? ⟨b, off + 2, none⟩ = some (.int .i64 (exAt l 0).n) ∧
    w.cell? ⟨b, off + 3, none⟩ = some (.string (strOf (exAt l 0).name)) ∧ w.cell? ⟨b, off + 4, none⟩ = some s ∧ ExsAt D w (exAt l 0).args s ∧ I64 (exAt l 0).n := by
  obtain ⟨b, off, s, ha, hD, h0, h1, h2, h3, h4, h5, h6⟩ := h.cellAt 0 hl
  exact ⟨b, off, s, ha, hD, World.block_lt_of_cell? _ _ h0, by simpa using h0, by simpa using h1, by simpa using h2, by simpa using h3, by simpa using h4, h5, h6⟩
theorem ExsAt.at1 {D : Nat → Prop} {w : World} {l : List Ex} {b off : Nat} {n cap : Nat} (h : ExsAt D w l (.slice (some ⟨b, off, none⟩) n cap)) (hl : 1 < l.length) : ∃ s,
    w.cell? ⟨b, off + 5, none⟩ = some (.int .i64 (exAt l 1).kind) ∧ w.cell? ⟨b, off + 5 + 1, none⟩ = some (.int .i64 (exAt l 1).op) ∧ w.cell? ⟨b, off + 5 + 2, none⟩ = some (.int .i64 (exAt l 1).n) ∧
    w.cell? ⟨b, off + 5 + 3, none⟩ = some (.string (strOf (exAt l 1).name)) ∧ w.cell? ⟨b, off + 5 + 4, none⟩ = some s ∧ ExsAt D w (exAt l 1).args s ∧ I64 (exAt l 1).n := by
  obtain ⟨b', off', s, ha, _, h0, h1, h2, h3, h4, h5, h6⟩ := h.cellAt 1 hl
  cases ha
  exact ⟨s, by simpa using h0, by simpa using h1, by simpa using h2, by simpa using h3, by simpa using h4, h5, h6⟩

theorem stOk_parts {m : Nat} {k : Int} {nm : Bs} {args : List Ex} {thn els : List St} (h : stOk (m + 1) (.mk k nm args thn els) = true) :
    (args.length : Int) = fArgs k ∧ (1 ≤ k ∧ k ≤ 10) ∧ (∀ x, x ∈ args → wellOk x = true) ∧ thn.all (stOk m) = true ∧ els.all (stOk m) = true := by
  simp only [stOk, stBad1, St.kind, St.args, St.thn, St.els, Bool.and_eq_true, Bool.not_eq_true', Bool.or_eq_false_iff, Bool.not_eq_false', beq_iff_eq, fOk, decide_eq_true_eq, List.all_eq_true] at h
  obtain ⟨⟨⟨⟨h1, h2⟩, h3⟩, h4⟩, h5⟩ := h
  refine ⟨by have := h1.1.1.2; simpa using this, of_decide_eq_true h1.1.1.1.1, fun x hx => ?_, List.all_eq_true.2 h4, List.all_eq_true.2 h5⟩
  have := h3 x hx
  unfold rightEx at this
  exact (Bool.and_eq_true _ _ ▸ this : _ ∧ _).2

/-- The contracts of stmt and inside, for what may be m deep. -/
def PStOf (m : Nat) : Prop := ∀ (x : St), stOk m x = true → ∀ (b : Nat) (bs : Bs) (t : Nat) (s st se : Value) (w : World), 3 < b → TabOk w → PrtAt w b bs t → ExsAt (· < b) w x.args s → StsAt (· < b) w x.thn st → StsAt (· < b) w x.els se →
  t + m ≤ 1000 → Fits (bs.length + (stText t x).length) →
  Calls Tryz.prog 140 #[.pointer (some ⟨b, 0, none⟩), stV x s st se] w (Puts w b bs t (stText t x))
def PInOf (m : Nat) : Prop := ∀ (l : List St), l.all (stOk m) = true → ∀ (b : Nat) (bs : Bs) (t : Nat) (v : Value) (w : World), 3 < b → TabOk w → PrtAt w b bs t → StsAt (· < b) w l v →
  t + 1 + m ≤ 1000 → Fits (bs.length + (stsText (t + 1) l).length) →
  Calls Tryz.prog 78 #[.pointer (some ⟨b, 0, none⟩), v] w (Puts w b bs t (stsText (t + 1) l))
end Go.Proofs.YtgmaeflfiooigaaGreatDoor

namespace Go.Proofs.YtgmaeflfiooigaaGreatDoor
open Go.RowKit
set_option maxHeartbeats 4000000
set_option maxRecDepth 100000

theorem pst_5 (m : Nat) (ih : PInOf m) (nm : Bs) (args : List Ex) (thn els : List St) (hx : stOk (m + 1) (.mk 5 nm args thn els) = true) (b : Nat) (bs : Bs) (t : Nat) (s st se : Value) (w : World) (hb : 3 < b) (ht : TabOk w) (hp : PrtAt w b bs t)
    (hs : ExsAt (· < b) w args s) (hst : StsAt (· < b) w thn st) (hse : StsAt (· < b) w els se) (htm : t + (m + 1) ≤ 1000) (hf : Fits (bs.length + (stText t (.mk 5 nm args thn els)).length)) :
    Calls Tryz.prog 140 #[.pointer (some ⟨b, 0, none⟩), stV (.mk 5 nm args thn els) s st se] w (Puts w b bs t (stText t (.mk 5 nm args thn els))) := by
  obtain ⟨hlen, hrng, hwl, hot, hoe⟩ := stOk_parts hx
  clear hrng
  replace hlen : args.length = 0 := by simp only [fArgs, Int.reduceEq, if_true, if_false, reduceIte, or_true, true_or, or_false, false_or, or_self] at hlen; omega
  rw [stText_eq, stShape_5] at hf ⊢
  obtain ⟨sa, sc, rfl⟩ := hs.shape
  obtain ⟨ta, tc, rfl⟩ := hst.shape
  obtain ⟨ua, uc, rfl⟩ := hse.shape
  show Calls _ _ #[.pointer (some ⟨b, 0, none⟩), .agg #[.int .i64 5, .string (strOf nm), .slice sa args.length sc, .slice ta thn.length tc, .slice ua els.length uc]] _ _
  have IH := Lib.hid ih; have HT := Lib.hid ht; have HP := Lib.hid hp; have HF := Lib.hid hf; have HST := Lib.hid hst; have HSE := Lib.hid hse; have HOT := Lib.hid hot; have HOE := Lib.hid hoe
  have HP1 := Lib.hid (hp.alloc (.cells #[.int .i64 5, .string (strOf nm), .slice sa args.length sc, .slice ta thn.length tc, .slice ua els.length uc] 49))
  have HF1 := Lib.hid (PFr.alloc hp (.cells #[.int .i64 5, .string (strOf nm), .slice sa args.length sc, .slice ta thn.length tc, .slice ua els.length uc] 49))
  have HL1 := Lib.hid (Loc.new hp [.int .i64 5, .string (strOf nm), .slice sa args.length sc, .slice ta thn.length tc, .slice ua els.length uc] 49)
  clear ih ht hp hf hst hse hx hwl hot hoe hlen hs
  go_enter Tryz.func140, Tryz.ntmps140
  go_wp2_with fail
  refine (line_ln [.s [98, 114, 101, 97, 107, 59]] _ _ b _ t _ (by simp) hb (HT.out.fr HF1.out HP.out hb) HP1.out (.s (AllOk.nil)) (by omega) HF.out (by simp)).mono ?_
  rintro r w2 ⟨rfl, hp2, hf2⟩
  have HP2 := Lib.hid hp2; have HF2 := Lib.hid (HF1.out.trans hf2); have HL2 := Lib.hid (HL1.out.step hf2)
  clear hp2 hf2
  go_wp2_with fail
  go_end0
  exact ⟨rfl, by simpa only [List.append_assoc, List.map_cons, List.map_nil, It.text, List.nil_append, List.append_nil] using HP2.out, HF2.out⟩

theorem pst_6 (m : Nat) (ih : PInOf m) (nm : Bs) (args : List Ex) (thn els : List St) (hx : stOk (m + 1) (.mk 6 nm args thn els) = true) (b : Nat) (bs : Bs) (t : Nat) (s st se : Value) (w : World) (hb : 3 < b) (ht : TabOk w) (hp : PrtAt w b bs t)
    (hs : ExsAt (· < b) w args s) (hst : StsAt (· < b) w thn st) (hse : StsAt (· < b) w els se) (htm : t + (m + 1) ≤ 1000) (hf : Fits (bs.length + (stText t (.mk 6 nm args thn els)).length)) :
    Calls Tryz.prog 140 #[.pointer (some ⟨b, 0, none⟩), stV (.mk 6 nm args thn els) s st se] w (Puts w b bs t (stText t (.mk 6 nm args thn els))) := by
  obtain ⟨hlen, hrng, hwl, hot, hoe⟩ := stOk_parts hx
  clear hrng
  replace hlen : args.length = 0 := by simp only [fArgs, Int.reduceEq, if_true, if_false, reduceIte, or_true, true_or, or_false, false_or, or_self] at hlen; omega
  rw [stText_eq, stShape_6] at hf ⊢
  obtain ⟨sa, sc, rfl⟩ := hs.shape
  obtain ⟨ta, tc, rfl⟩ := hst.shape
  obtain ⟨ua, uc, rfl⟩ := hse.shape
  show Calls _ _ #[.pointer (some ⟨b, 0, none⟩), .agg #[.int .i64 6, .string (strOf nm), .slice sa args.length sc, .slice ta thn.length tc, .slice ua els.length uc]] _ _
  have IH := Lib.hid ih; have HT := Lib.hid ht; have HP := Lib.hid hp; have HF := Lib.hid hf; have HST := Lib.hid hst; have HSE := Lib.hid hse; have HOT := Lib.hid hot; have HOE := Lib.hid hoe
  have HP1 := Lib.hid (hp.alloc (.cells #[.int .i64 6, .string (strOf nm), .slice sa args.length sc, .slice ta thn.length tc, .slice ua els.length uc] 49))
  have HF1 := Lib.hid (PFr.alloc hp (.cells #[.int .i64 6, .string (strOf nm), .slice sa args.length sc, .slice ta thn.length tc, .slice ua els.length uc] 49))
  have HL1 := Lib.hid (Loc.new hp [.int .i64 6, .string (strOf nm), .slice sa args.length sc, .slice ta thn.length tc, .slice ua els.length uc] 49)
  clear ih ht hp hf hst hse hx hwl hot hoe hlen hs
  go_enter Tryz.func140, Tryz.ntmps140
  go_wp2_with fail
  refine (line_ln [.s [99, 111, 110, 116, 105, 110, 117, 101, 59]] _ _ b _ t _ (by simp) hb (HT.out.fr HF1.out HP.out hb) HP1.out (.s (AllOk.nil)) (by omega) HF.out (by simp)).mono ?_
  rintro r w2 ⟨rfl, hp2, hf2⟩
  have HP2 := Lib.hid hp2; have HF2 := Lib.hid (HF1.out.trans hf2); have HL2 := Lib.hid (HL1.out.step hf2)
  clear hp2 hf2
  go_wp2_with fail
  go_end0
  exact ⟨rfl, by simpa only [List.append_assoc, List.map_cons, List.map_nil, It.text, List.nil_append, List.append_nil] using HP2.out, HF2.out⟩

theorem pst_7 (m : Nat) (ih : PInOf m) (nm : Bs) (args : List Ex) (thn els : List St) (hx : stOk (m + 1) (.mk 7 nm args thn els) = true) (b : Nat) (bs : Bs) (t : Nat) (s st se : Value) (w : World) (hb : 3 < b) (ht : TabOk w) (hp : PrtAt w b bs t)
    (hs : ExsAt (· < b) w args s) (hst : StsAt (· < b) w thn st) (hse : StsAt (· < b) w els se) (htm : t + (m + 1) ≤ 1000) (hf : Fits (bs.length + (stText t (.mk 7 nm args thn els)).length)) :
    Calls Tryz.prog 140 #[.pointer (some ⟨b, 0, none⟩), stV (.mk 7 nm args thn els) s st se] w (Puts w b bs t (stText t (.mk 7 nm args thn els))) := by
  obtain ⟨hlen, hrng, hwl, hot, hoe⟩ := stOk_parts hx
  clear hrng
  replace hlen : args.length = 1 := by simp only [fArgs, Int.reduceEq, if_true, if_false, reduceIte, or_true, true_or, or_false, false_or, or_self] at hlen; omega
  rw [stText_eq, stShape_7] at hf ⊢
  obtain ⟨sa, sc, rfl⟩ := hs.shape
  obtain ⟨ta, tc, rfl⟩ := hst.shape
  obtain ⟨ua, uc, rfl⟩ := hse.shape
  obtain ⟨eb, off, av, rfl, hebD, hebl, z0, z1, z2, z3, z4, hea, hna⟩ := hs.at0 (by omega)
  obtain ⟨aa, ac, rfl⟩ := hea.shape
  have HWA := Lib.hid (hwl _ (exAt_mem (l := args) (i := 0) (by omega)))
  have hl0 : (0 : Int) < (args.length : Int) := by omega
  have hl0n : 0 < args.length := by omega
  generalize exAt args 0 = xa at *
  show Calls _ _ #[.pointer (some ⟨b, 0, none⟩), .agg #[.int .i64 7, .string (strOf nm), .slice (some ⟨eb, off, none⟩) args.length sc, .slice ta thn.length tc, .slice ua els.length uc]] _ _
  have IH := Lib.hid ih; have HT := Lib.hid ht; have HP := Lib.hid hp; have HF := Lib.hid hf; have HST := Lib.hid hst; have HSE := Lib.hid hse; have HOT := Lib.hid hot; have HOE := Lib.hid hoe
  have HP1 := Lib.hid (hp.alloc (.cells #[.int .i64 7, .string (strOf nm), .slice (some ⟨eb, off, none⟩) args.length sc, .slice ta thn.length tc, .slice ua els.length uc] 49))
  have HF1 := Lib.hid (PFr.alloc hp (.cells #[.int .i64 7, .string (strOf nm), .slice (some ⟨eb, off, none⟩) args.length sc, .slice ta thn.length tc, .slice ua els.length uc] 49))
  have HL1 := Lib.hid (Loc.new hp [.int .i64 7, .string (strOf nm), .slice (some ⟨eb, off, none⟩) args.length sc, .slice ta thn.length tc, .slice ua els.length uc] 49)
  have HEA := Lib.hid hea; have HNA := Lib.hid hna
  clear ih ht hp hf hst hse hx hwl hot hoe hlen hs hea hna
  go_enter Tryz.func140, Tryz.ntmps140
  go_wp2_with fail
  refine (line_ln [.s [114, 101, 116, 117, 114, 110, 32], .e xa (.slice aa xa.args.length ac), .s [59]] _ _ b _ t _ (by simp) hb (HT.out.fr HF1.out HP.out hb) HP1.out (.s (.e (HEA.out.keep (HF1.out.keeps HP.out)) HNA.out HWA.out (.s (AllOk.nil)))) (by omega) HF.out (by simp)).mono ?_
  rintro r w2 ⟨rfl, hp2, hf2⟩
  have HP2 := Lib.hid hp2; have HF2 := Lib.hid (HF1.out.trans hf2); have HL2 := Lib.hid (HL1.out.step hf2)
  clear hp2 hf2
  clear z0 z1 z2 z3 z4
  go_wp2_with fail
  go_end0
  exact ⟨rfl, by simpa only [List.append_assoc, List.map_cons, List.map_nil, It.text, List.nil_append, List.append_nil] using HP2.out, HF2.out⟩

theorem pst_8 (m : Nat) (ih : PInOf m) (nm : Bs) (args : List Ex) (thn els : List St) (hx : stOk (m + 1) (.mk 8 nm args thn els) = true) (b : Nat) (bs : Bs) (t : Nat) (s st se : Value) (w : World) (hb : 3 < b) (ht : TabOk w) (hp : PrtAt w b bs t)
    (hs : ExsAt (· < b) w args s) (hst : StsAt (· < b) w thn st) (hse : StsAt (· < b) w els se) (htm : t + (m + 1) ≤ 1000) (hf : Fits (bs.length + (stText t (.mk 8 nm args thn els)).length)) :
    Calls Tryz.prog 140 #[.pointer (some ⟨b, 0, none⟩), stV (.mk 8 nm args thn els) s st se] w (Puts w b bs t (stText t (.mk 8 nm args thn els))) := by
  obtain ⟨hlen, hrng, hwl, hot, hoe⟩ := stOk_parts hx
  clear hrng
  replace hlen : args.length = 1 := by simp only [fArgs, Int.reduceEq, if_true, if_false, reduceIte, or_true, true_or, or_false, false_or, or_self] at hlen; omega
  rw [stText_eq, stShape_8] at hf ⊢
  obtain ⟨sa, sc, rfl⟩ := hs.shape
  obtain ⟨ta, tc, rfl⟩ := hst.shape
  obtain ⟨ua, uc, rfl⟩ := hse.shape
  obtain ⟨eb, off, av, rfl, hebD, hebl, z0, z1, z2, z3, z4, hea, hna⟩ := hs.at0 (by omega)
  obtain ⟨aa, ac, rfl⟩ := hea.shape
  have HWA := Lib.hid (hwl _ (exAt_mem (l := args) (i := 0) (by omega)))
  have hl0 : (0 : Int) < (args.length : Int) := by omega
  have hl0n : 0 < args.length := by omega
  generalize exAt args 0 = xa at *
  show Calls _ _ #[.pointer (some ⟨b, 0, none⟩), .agg #[.int .i64 8, .string (strOf nm), .slice (some ⟨eb, off, none⟩) args.length sc, .slice ta thn.length tc, .slice ua els.length uc]] _ _
  have IH := Lib.hid ih; have HT := Lib.hid ht; have HP := Lib.hid hp; have HF := Lib.hid hf; have HST := Lib.hid hst; have HSE := Lib.hid hse; have HOT := Lib.hid hot; have HOE := Lib.hid hoe
  have HP1 := Lib.hid (hp.alloc (.cells #[.int .i64 8, .string (strOf nm), .slice (some ⟨eb, off, none⟩) args.length sc, .slice ta thn.length tc, .slice ua els.length uc] 49))
  have HF1 := Lib.hid (PFr.alloc hp (.cells #[.int .i64 8, .string (strOf nm), .slice (some ⟨eb, off, none⟩) args.length sc, .slice ta thn.length tc, .slice ua els.length uc] 49))
  have HL1 := Lib.hid (Loc.new hp [.int .i64 8, .string (strOf nm), .slice (some ⟨eb, off, none⟩) args.length sc, .slice ta thn.length tc, .slice ua els.length uc] 49)
  have HEA := Lib.hid hea; have HNA := Lib.hid hna
  clear ih ht hp hf hst hse hx hwl hot hoe hlen hs hea hna
  go_enter Tryz.func140, Tryz.ntmps140
  go_wp2_with fail
  refine (line_ln [.s [112, 114, 105, 110, 116, 40], .e xa (.slice aa xa.args.length ac), .s [41, 59]] _ _ b _ t _ (by simp) hb (HT.out.fr HF1.out HP.out hb) HP1.out (.s (.e (HEA.out.keep (HF1.out.keeps HP.out)) HNA.out HWA.out (.s (AllOk.nil)))) (by omega) HF.out (by simp)).mono ?_
  rintro r w2 ⟨rfl, hp2, hf2⟩
  have HP2 := Lib.hid hp2; have HF2 := Lib.hid (HF1.out.trans hf2); have HL2 := Lib.hid (HL1.out.step hf2)
  clear hp2 hf2
  clear z0 z1 z2 z3 z4
  go_wp2_with fail
  go_end0
  exact ⟨rfl, by simpa only [List.append_assoc, List.map_cons, List.map_nil, It.text, List.nil_append, List.append_nil] using HP2.out, HF2.out⟩

theorem pst_9 (m : Nat) (ih : PInOf m) (nm : Bs) (args : List Ex) (thn els : List St) (hx : stOk (m + 1) (.mk 9 nm args thn els) = true) (b : Nat) (bs : Bs) (t : Nat) (s st se : Value) (w : World) (hb : 3 < b) (ht : TabOk w) (hp : PrtAt w b bs t)
    (hs : ExsAt (· < b) w args s) (hst : StsAt (· < b) w thn st) (hse : StsAt (· < b) w els se) (htm : t + (m + 1) ≤ 1000) (hf : Fits (bs.length + (stText t (.mk 9 nm args thn els)).length)) :
    Calls Tryz.prog 140 #[.pointer (some ⟨b, 0, none⟩), stV (.mk 9 nm args thn els) s st se] w (Puts w b bs t (stText t (.mk 9 nm args thn els))) := by
  obtain ⟨hlen, hrng, hwl, hot, hoe⟩ := stOk_parts hx
  clear hrng
  replace hlen : args.length = 1 := by simp only [fArgs, Int.reduceEq, if_true, if_false, reduceIte, or_true, true_or, or_false, false_or, or_self] at hlen; omega
  rw [stText_eq, stShape_9] at hf ⊢
  obtain ⟨sa, sc, rfl⟩ := hs.shape
  obtain ⟨ta, tc, rfl⟩ := hst.shape
  obtain ⟨ua, uc, rfl⟩ := hse.shape
  obtain ⟨eb, off, av, rfl, hebD, hebl, z0, z1, z2, z3, z4, hea, hna⟩ := hs.at0 (by omega)
  obtain ⟨aa, ac, rfl⟩ := hea.shape
  have HWA := Lib.hid (hwl _ (exAt_mem (l := args) (i := 0) (by omega)))
  have hl0 : (0 : Int) < (args.length : Int) := by omega
  have hl0n : 0 < args.length := by omega
  generalize exAt args 0 = xa at *
  show Calls _ _ #[.pointer (some ⟨b, 0, none⟩), .agg #[.int .i64 9, .string (strOf nm), .slice (some ⟨eb, off, none⟩) args.length sc, .slice ta thn.length tc, .slice ua els.length uc]] _ _
  have IH := Lib.hid ih; have HT := Lib.hid ht; have HP := Lib.hid hp; have HF := Lib.hid hf; have HST := Lib.hid hst; have HSE := Lib.hid hse; have HOT := Lib.hid hot; have HOE := Lib.hid hoe
  have HP1 := Lib.hid (hp.alloc (.cells #[.int .i64 9, .string (strOf nm), .slice (some ⟨eb, off, none⟩) args.length sc, .slice ta thn.length tc, .slice ua els.length uc] 49))
  have HF1 := Lib.hid (PFr.alloc hp (.cells #[.int .i64 9, .string (strOf nm), .slice (some ⟨eb, off, none⟩) args.length sc, .slice ta thn.length tc, .slice ua els.length uc] 49))
  have HL1 := Lib.hid (Loc.new hp [.int .i64 9, .string (strOf nm), .slice (some ⟨eb, off, none⟩) args.length sc, .slice ta thn.length tc, .slice ua els.length uc] 49)
  have HEA := Lib.hid hea; have HNA := Lib.hid hna
  clear ih ht hp hf hst hse hx hwl hot hoe hlen hs hea hna
  go_enter Tryz.func140, Tryz.ntmps140
  go_wp2_with fail
  refine (line_ln [.s [116, 114, 97, 112, 40], .e xa (.slice aa xa.args.length ac), .s [41, 59]] _ _ b _ t _ (by simp) hb (HT.out.fr HF1.out HP.out hb) HP1.out (.s (.e (HEA.out.keep (HF1.out.keeps HP.out)) HNA.out HWA.out (.s (AllOk.nil)))) (by omega) HF.out (by simp)).mono ?_
  rintro r w2 ⟨rfl, hp2, hf2⟩
  have HP2 := Lib.hid hp2; have HF2 := Lib.hid (HF1.out.trans hf2); have HL2 := Lib.hid (HL1.out.step hf2)
  clear hp2 hf2
  clear z0 z1 z2 z3 z4
  go_wp2_with fail
  go_end0
  exact ⟨rfl, by simpa only [List.append_assoc, List.map_cons, List.map_nil, It.text, List.nil_append, List.append_nil] using HP2.out, HF2.out⟩

theorem pst_10 (m : Nat) (ih : PInOf m) (nm : Bs) (args : List Ex) (thn els : List St) (hx : stOk (m + 1) (.mk 10 nm args thn els) = true) (b : Nat) (bs : Bs) (t : Nat) (s st se : Value) (w : World) (hb : 3 < b) (ht : TabOk w) (hp : PrtAt w b bs t)
    (hs : ExsAt (· < b) w args s) (hst : StsAt (· < b) w thn st) (hse : StsAt (· < b) w els se) (htm : t + (m + 1) ≤ 1000) (hf : Fits (bs.length + (stText t (.mk 10 nm args thn els)).length)) :
    Calls Tryz.prog 140 #[.pointer (some ⟨b, 0, none⟩), stV (.mk 10 nm args thn els) s st se] w (Puts w b bs t (stText t (.mk 10 nm args thn els))) := by
  obtain ⟨hlen, hrng, hwl, hot, hoe⟩ := stOk_parts hx
  clear hrng
  replace hlen : args.length = 1 := by simp only [fArgs, Int.reduceEq, if_true, if_false, reduceIte, or_true, true_or, or_false, false_or, or_self] at hlen; omega
  rw [stText_eq, stShape_10] at hf ⊢
  obtain ⟨sa, sc, rfl⟩ := hs.shape
  obtain ⟨ta, tc, rfl⟩ := hst.shape
  obtain ⟨ua, uc, rfl⟩ := hse.shape
  obtain ⟨eb, off, av, rfl, hebD, hebl, z0, z1, z2, z3, z4, hea, hna⟩ := hs.at0 (by omega)
  obtain ⟨aa, ac, rfl⟩ := hea.shape
  have HWA := Lib.hid (hwl _ (exAt_mem (l := args) (i := 0) (by omega)))
  have hl0 : (0 : Int) < (args.length : Int) := by omega
  have hl0n : 0 < args.length := by omega
  generalize exAt args 0 = xa at *
  show Calls _ _ #[.pointer (some ⟨b, 0, none⟩), .agg #[.int .i64 10, .string (strOf nm), .slice (some ⟨eb, off, none⟩) args.length sc, .slice ta thn.length tc, .slice ua els.length uc]] _ _
  have IH := Lib.hid ih; have HT := Lib.hid ht; have HP := Lib.hid hp; have HF := Lib.hid hf; have HST := Lib.hid hst; have HSE := Lib.hid hse; have HOT := Lib.hid hot; have HOE := Lib.hid hoe
  have HP1 := Lib.hid (hp.alloc (.cells #[.int .i64 10, .string (strOf nm), .slice (some ⟨eb, off, none⟩) args.length sc, .slice ta thn.length tc, .slice ua els.length uc] 49))
  have HF1 := Lib.hid (PFr.alloc hp (.cells #[.int .i64 10, .string (strOf nm), .slice (some ⟨eb, off, none⟩) args.length sc, .slice ta thn.length tc, .slice ua els.length uc] 49))
  have HL1 := Lib.hid (Loc.new hp [.int .i64 10, .string (strOf nm), .slice (some ⟨eb, off, none⟩) args.length sc, .slice ta thn.length tc, .slice ua els.length uc] 49)
  have HEA := Lib.hid hea; have HNA := Lib.hid hna
  clear ih ht hp hf hst hse hx hwl hot hoe hlen hs hea hna
  go_enter Tryz.func140, Tryz.ntmps140
  go_wp2_with fail
  refine (line_ln [.e xa (.slice aa xa.args.length ac), .s [59]] _ _ b _ t _ (by simp) hb (HT.out.fr HF1.out HP.out hb) HP1.out (.e (HEA.out.keep (HF1.out.keeps HP.out)) HNA.out HWA.out (.s (AllOk.nil))) (by omega) HF.out (by simp)).mono ?_
  rintro r w2 ⟨rfl, hp2, hf2⟩
  have HP2 := Lib.hid hp2; have HF2 := Lib.hid (HF1.out.trans hf2); have HL2 := Lib.hid (HL1.out.step hf2)
  clear hp2 hf2
  clear z0 z1 z2 z3 z4
  go_wp2_with fail
  go_end0
  exact ⟨rfl, by simpa only [List.append_assoc, List.map_cons, List.map_nil, It.text, List.nil_append, List.append_nil] using HP2.out, HF2.out⟩
end Go.Proofs.YtgmaeflfiooigaaGreatDoor

namespace Go.Proofs.YtgmaeflfiooigaaGreatDoor
open Go.RowKit
set_option maxHeartbeats 4000000
set_option maxRecDepth 100000

theorem pst_1 (m : Nat) (ih : PInOf m) (nm : Bs) (args : List Ex) (thn els : List St) (hx : stOk (m + 1) (.mk 1 nm args thn els) = true) (b : Nat) (bs : Bs) (t : Nat) (s st se : Value) (w : World) (hb : 3 < b) (ht : TabOk w) (hp : PrtAt w b bs t)
    (hs : ExsAt (· < b) w args s) (hst : StsAt (· < b) w thn st) (hse : StsAt (· < b) w els se) (htm : t + (m + 1) ≤ 1000) (hf : Fits (bs.length + (stText t (.mk 1 nm args thn els)).length)) :
    Calls Tryz.prog 140 #[.pointer (some ⟨b, 0, none⟩), stV (.mk 1 nm args thn els) s st se] w (Puts w b bs t (stText t (.mk 1 nm args thn els))) := by
  obtain ⟨hlen, hrng, hwl, hot, hoe⟩ := stOk_parts hx
  clear hrng
  replace hlen : args.length = 1 := by simp only [fArgs, Int.reduceEq, if_true, if_false, reduceIte, or_true, true_or, or_false, false_or, or_self] at hlen; omega
  rw [stText_eq, stShape_1] at hf ⊢
  obtain ⟨sa, sc, rfl⟩ := hs.shape
  obtain ⟨ta, tc, rfl⟩ := hst.shape
  obtain ⟨ua, uc, rfl⟩ := hse.shape
  obtain ⟨eb, off, av, rfl, hebD, hebl, z0, z1, z2, z3, z4, hea, hna⟩ := hs.at0 (by omega)
  obtain ⟨aa, ac, rfl⟩ := hea.shape
  have HWA := Lib.hid (hwl _ (exAt_mem (l := args) (i := 0) (by omega)))
  have hl0 : (0 : Int) < (args.length : Int) := by omega
  have hl0n : 0 < args.length := by omega
  generalize exAt args 0 = xa at *
  show Calls _ _ #[.pointer (some ⟨b, 0, none⟩), .agg #[.int .i64 1, .string (strOf nm), .slice (some ⟨eb, off, none⟩) args.length sc, .slice ta thn.length tc, .slice ua els.length uc]] _ _
  have IH := Lib.hid ih; have HT := Lib.hid ht; have HP := Lib.hid hp; have HF := Lib.hid hf; have HST := Lib.hid hst; have HSE := Lib.hid hse; have HOT := Lib.hid hot; have HOE := Lib.hid hoe
  have HP1 := Lib.hid (hp.alloc (.cells #[.int .i64 1, .string (strOf nm), .slice (some ⟨eb, off, none⟩) args.length sc, .slice ta thn.length tc, .slice ua els.length uc] 49))
  have HF1 := Lib.hid (PFr.alloc hp (.cells #[.int .i64 1, .string (strOf nm), .slice (some ⟨eb, off, none⟩) args.length sc, .slice ta thn.length tc, .slice ua els.length uc] 49))
  have HL1 := Lib.hid (Loc.new hp [.int .i64 1, .string (strOf nm), .slice (some ⟨eb, off, none⟩) args.length sc, .slice ta thn.length tc, .slice ua els.length uc] 49)
  have HEA := Lib.hid hea; have HNA := Lib.hid hna
  clear ih ht hp hf hst hse hx hwl hot hoe hlen hs hea hna
  go_enter Tryz.func140, Tryz.ntmps140
  go_wp2_with fail
  have z0 : (w.alloc (.cells #[.int .i64 1, .string (strOf nm), .slice (some ⟨eb, off, none⟩) args.length sc, .slice ta thn.length tc, .slice ua els.length uc] 49)).cell? ⟨eb, off, none⟩ = some (.int .i64 xa.kind) := by rw [World.cell?_alloc_lt _ _ _ hebl]; exact z0
  have z1 : (w.alloc (.cells #[.int .i64 1, .string (strOf nm), .slice (some ⟨eb, off, none⟩) args.length sc, .slice ta thn.length tc, .slice ua els.length uc] 49)).cell? ⟨eb, off + 1, none⟩ = some (.int .i64 xa.op) := by rw [World.cell?_alloc_lt _ _ _ hebl]; exact z1
  have z2 : (w.alloc (.cells #[.int .i64 1, .string (strOf nm), .slice (some ⟨eb, off, none⟩) args.length sc, .slice ta thn.length tc, .slice ua els.length uc] 49)).cell? ⟨eb, off + 2, none⟩ = some (.int .i64 xa.n) := by rw [World.cell?_alloc_lt _ _ _ hebl]; exact z2
  have z3 : (w.alloc (.cells #[.int .i64 1, .string (strOf nm), .slice (some ⟨eb, off, none⟩) args.length sc, .slice ta thn.length tc, .slice ua els.length uc] 49)).cell? ⟨eb, off + 3, none⟩ = some (.string (strOf xa.name)) := by rw [World.cell?_alloc_lt _ _ _ hebl]; exact z3
  have z4 : (w.alloc (.cells #[.int .i64 1, .string (strOf nm), .slice (some ⟨eb, off, none⟩) args.length sc, .slice ta thn.length tc, .slice ua els.length uc] 49)).cell? ⟨eb, off + 4, none⟩ = some (.slice aa xa.args.length ac) := by rw [World.cell?_alloc_lt _ _ _ hebl]; exact z4
  have hbl := HP1.out.lt
  have HXl : Hid (w.heap.size < (w.alloc (.cells #[.int .i64 1, .string (strOf nm), .slice (some ⟨eb, off, none⟩) args.length sc, .slice ta thn.length tc, .slice ua els.length uc] 49)).heap.size) := by show _ < _; simp
  generalize w.alloc (.cells #[.int .i64 1, .string (strOf nm), .slice (some ⟨eb, off, none⟩) args.length sc, .slice ta thn.length tc, .slice ua els.length uc] 49) = W at *
  have c1 := HL1.out.cell 1 (by simp)
  have c2 := HL1.out.cell 2 (by simp)
  simp only [List.getElem_cons_zero, List.getElem_cons_succ] at c1 c2
  have hdr : Below W.heap.size W W.drew := (Below.refl _ _).drew
  have HP1d := Lib.hid (HP1.out.old hdr); have HF1d := Lib.hid (HF1.out.trans (PFr.of_below hdr hbl)); have HL1d := Lib.hid (HL1.out.step (PFr.of_below hdr hbl))
  clear hdr
  go_region_held3 (fun w' => w'.cell? ⟨w.heap.size, 1, none⟩ = some (.string (strOf nm)) ∧ w'.cell? ⟨w.heap.size, 2, none⟩ = some (.slice (some ⟨eb, off, none⟩) args.length sc) ∧ w'.cell? ⟨eb, off, none⟩ = some (.int .i64 xa.kind) ∧ w'.cell? ⟨eb, off + 1, none⟩ = some (.int .i64 xa.op) ∧ w'.cell? ⟨eb, off + 2, none⟩ = some (.int .i64 xa.n) ∧ w'.cell? ⟨eb, off + 3, none⟩ = some (.string (strOf xa.name)) ∧ w'.cell? ⟨eb, off + 4, none⟩ = some (.slice aa xa.args.length ac)) (first | (simp [*, World.cell?_alloc_lt]; done) | go_keep) (first | (go_at_call 38; refine (line_ln [.s nm, .s [32, 61, 32], .e xa (.slice aa xa.args.length ac), .s [59]] _ _ b _ t _ (by simp) hb (HT.out.fr HF1d.out HP.out hb) HP1d.out (.s (.s (.e (HEA.out.keep (HF1d.out.keeps HP.out)) HNA.out HWA.out (.s (AllOk.nil))))) (by omega) HF.out (by simp)).mono ?_; rintro r w2 ⟨he, hp2, hf2⟩; subst he; have gc1 : w2.cell? ⟨w.heap.size, 1, none⟩ = some (.string (strOf nm)) := (HL1d.out.step hf2).cell 1 (by simp); have gc2 : w2.cell? ⟨w.heap.size, 2, none⟩ = some (.slice (some ⟨eb, off, none⟩) args.length sc) := (HL1d.out.step hf2).cell 2 (by simp); have gz0 : w2.cell? ⟨eb, off, none⟩ = some (.int .i64 xa.kind) := hf2.keeps HP1d.out eb _ _ hebD (by simpa using z0); have gz1 : w2.cell? ⟨eb, off + 1, none⟩ = some (.int .i64 xa.op) := hf2.keeps HP1d.out eb _ _ hebD (by simpa using z1); have gz2 : w2.cell? ⟨eb, off + 2, none⟩ = some (.int .i64 xa.n) := hf2.keeps HP1d.out eb _ _ hebD (by simpa using z2); have gz3 : w2.cell? ⟨eb, off + 3, none⟩ = some (.string (strOf xa.name)) := hf2.keeps HP1d.out eb _ _ hebD (by simpa using z3); have gz4 : w2.cell? ⟨eb, off + 4, none⟩ = some (.slice aa xa.args.length ac) := hf2.keeps HP1d.out eb _ _ hebD (by simpa using z4); have HP2 := Lib.hid hp2; have HF2 := Lib.hid (HF1d.out.trans hf2); clear hp2 hf2))
  go_wp2_with fail
  go_end0
  exact ⟨rfl, by simpa only [List.append_assoc, List.map_cons, List.map_nil, It.text, List.nil_append, List.append_nil] using HP2.out, HF2.out⟩
end Go.Proofs.YtgmaeflfiooigaaGreatDoor

namespace Go.Proofs.YtgmaeflfiooigaaGreatDoor
open Go.RowKit
set_option maxHeartbeats 4000000
set_option maxRecDepth 100000

theorem pst_2 (m : Nat) (ih : PInOf m) (nm : Bs) (args : List Ex) (thn els : List St) (hx : stOk (m + 1) (.mk 2 nm args thn els) = true) (b : Nat) (bs : Bs) (t : Nat) (s st se : Value) (w : World) (hb : 3 < b) (ht : TabOk w) (hp : PrtAt w b bs t)
    (hs : ExsAt (· < b) w args s) (hst : StsAt (· < b) w thn st) (hse : StsAt (· < b) w els se) (htm : t + (m + 1) ≤ 1000) (hf : Fits (bs.length + (stText t (.mk 2 nm args thn els)).length)) :
    Calls Tryz.prog 140 #[.pointer (some ⟨b, 0, none⟩), stV (.mk 2 nm args thn els) s st se] w (Puts w b bs t (stText t (.mk 2 nm args thn els))) := by
  obtain ⟨hlen, hrng, hwl, hot, hoe⟩ := stOk_parts hx
  clear hrng
  replace hlen : args.length = 2 := by simp only [fArgs, Int.reduceEq, if_true, if_false, reduceIte, or_true, true_or, or_false, false_or, or_self] at hlen; omega
  rw [stText_eq, stShape_2] at hf ⊢
  obtain ⟨sa, sc, rfl⟩ := hs.shape
  obtain ⟨ta, tc, rfl⟩ := hst.shape
  obtain ⟨ua, uc, rfl⟩ := hse.shape
  obtain ⟨eb, off, av, rfl, hebD, hebl, z0, z1, z2, z3, z4, hea, hna⟩ := hs.at0 (by omega)
  obtain ⟨aa, ac, rfl⟩ := hea.shape
  have HWA := Lib.hid (hwl _ (exAt_mem (l := args) (i := 0) (by omega)))
  have hl0 : (0 : Int) < (args.length : Int) := by omega
  have hl0n : 0 < args.length := by omega
  obtain ⟨cs, y0, y1, y2, y3, y4, hec, hnc⟩ := hs.at1 (by omega)
  obtain ⟨ca, cc, rfl⟩ := hec.shape
  have HWC := Lib.hid (hwl _ (exAt_mem (l := args) (i := 1) (by omega)))
  have hl1' : (1 : Int) < (args.length : Int) := by omega
  have hl1n : 1 < args.length := by omega
  generalize exAt args 1 = xc at *
  generalize exAt args 0 = xa at *
  show Calls _ _ #[.pointer (some ⟨b, 0, none⟩), .agg #[.int .i64 2, .string (strOf nm), .slice (some ⟨eb, off, none⟩) args.length sc, .slice ta thn.length tc, .slice ua els.length uc]] _ _
  have IH := Lib.hid ih; have HT := Lib.hid ht; have HP := Lib.hid hp; have HF := Lib.hid hf; have HST := Lib.hid hst; have HSE := Lib.hid hse; have HOT := Lib.hid hot; have HOE := Lib.hid hoe
  have HP1 := Lib.hid (hp.alloc (.cells #[.int .i64 2, .string (strOf nm), .slice (some ⟨eb, off, none⟩) args.length sc, .slice ta thn.length tc, .slice ua els.length uc] 49))
  have HF1 := Lib.hid (PFr.alloc hp (.cells #[.int .i64 2, .string (strOf nm), .slice (some ⟨eb, off, none⟩) args.length sc, .slice ta thn.length tc, .slice ua els.length uc] 49))
  have HL1 := Lib.hid (Loc.new hp [.int .i64 2, .string (strOf nm), .slice (some ⟨eb, off, none⟩) args.length sc, .slice ta thn.length tc, .slice ua els.length uc] 49)
  have HEA := Lib.hid hea; have HNA := Lib.hid hna
  have HEC := Lib.hid hec; have HNC := Lib.hid hnc
  clear ih ht hp hf hst hse hx hwl hot hoe hlen hs hea hna hec hnc
  go_enter Tryz.func140, Tryz.ntmps140
  go_wp2_with fail
  have z0 : (w.alloc (.cells #[.int .i64 2, .string (strOf nm), .slice (some ⟨eb, off, none⟩) args.length sc, .slice ta thn.length tc, .slice ua els.length uc] 49)).cell? ⟨eb, off, none⟩ = some (.int .i64 xa.kind) := by rw [World.cell?_alloc_lt _ _ _ hebl]; exact z0
  have z1 : (w.alloc (.cells #[.int .i64 2, .string (strOf nm), .slice (some ⟨eb, off, none⟩) args.length sc, .slice ta thn.length tc, .slice ua els.length uc] 49)).cell? ⟨eb, off + 1, none⟩ = some (.int .i64 xa.op) := by rw [World.cell?_alloc_lt _ _ _ hebl]; exact z1
  have z2 : (w.alloc (.cells #[.int .i64 2, .string (strOf nm), .slice (some ⟨eb, off, none⟩) args.length sc, .slice ta thn.length tc, .slice ua els.length uc] 49)).cell? ⟨eb, off + 2, none⟩ = some (.int .i64 xa.n) := by rw [World.cell?_alloc_lt _ _ _ hebl]; exact z2
  have z3 : (w.alloc (.cells #[.int .i64 2, .string (strOf nm), .slice (some ⟨eb, off, none⟩) args.length sc, .slice ta thn.length tc, .slice ua els.length uc] 49)).cell? ⟨eb, off + 3, none⟩ = some (.string (strOf xa.name)) := by rw [World.cell?_alloc_lt _ _ _ hebl]; exact z3
  have z4 : (w.alloc (.cells #[.int .i64 2, .string (strOf nm), .slice (some ⟨eb, off, none⟩) args.length sc, .slice ta thn.length tc, .slice ua els.length uc] 49)).cell? ⟨eb, off + 4, none⟩ = some (.slice aa xa.args.length ac) := by rw [World.cell?_alloc_lt _ _ _ hebl]; exact z4
  have y0 : (w.alloc (.cells #[.int .i64 2, .string (strOf nm), .slice (some ⟨eb, off, none⟩) args.length sc, .slice ta thn.length tc, .slice ua els.length uc] 49)).cell? ⟨eb, off + 5, none⟩ = some (.int .i64 xc.kind) := by rw [World.cell?_alloc_lt _ _ _ hebl]; exact y0
  have y1 : (w.alloc (.cells #[.int .i64 2, .string (strOf nm), .slice (some ⟨eb, off, none⟩) args.length sc, .slice ta thn.length tc, .slice ua els.length uc] 49)).cell? ⟨eb, off + 5 + 1, none⟩ = some (.int .i64 xc.op) := by rw [World.cell?_alloc_lt _ _ _ hebl]; exact y1
  have y2 : (w.alloc (.cells #[.int .i64 2, .string (strOf nm), .slice (some ⟨eb, off, none⟩) args.length sc, .slice ta thn.length tc, .slice ua els.length uc] 49)).cell? ⟨eb, off + 5 + 2, none⟩ = some (.int .i64 xc.n) := by rw [World.cell?_alloc_lt _ _ _ hebl]; exact y2
  have y3 : (w.alloc (.cells #[.int .i64 2, .string (strOf nm), .slice (some ⟨eb, off, none⟩) args.length sc, .slice ta thn.length tc, .slice ua els.length uc] 49)).cell? ⟨eb, off + 5 + 3, none⟩ = some (.string (strOf xc.name)) := by rw [World.cell?_alloc_lt _ _ _ hebl]; exact y3
  have y4 : (w.alloc (.cells #[.int .i64 2, .string (strOf nm), .slice (some ⟨eb, off, none⟩) args.length sc, .slice ta thn.length tc, .slice ua els.length uc] 49)).cell? ⟨eb, off + 5 + 4, none⟩ = some (.slice ca xc.args.length cc) := by rw [World.cell?_alloc_lt _ _ _ hebl]; exact y4
  have hbl := HP1.out.lt
  have HXl : Hid (w.heap.size < (w.alloc (.cells #[.int .i64 2, .string (strOf nm), .slice (some ⟨eb, off, none⟩) args.length sc, .slice ta thn.length tc, .slice ua els.length uc] 49)).heap.size) := by show _ < _; simp
  generalize w.alloc (.cells #[.int .i64 2, .string (strOf nm), .slice (some ⟨eb, off, none⟩) args.length sc, .slice ta thn.length tc, .slice ua els.length uc] 49) = W at *
  have c1 := HL1.out.cell 1 (by simp)
  have c2 := HL1.out.cell 2 (by simp)
  simp only [List.getElem_cons_zero, List.getElem_cons_succ] at c1 c2
  have hdr : Below W.heap.size W W.drew := (Below.refl _ _).drew
  have HP1d := Lib.hid (HP1.out.old hdr); have HF1d := Lib.hid (HF1.out.trans (PFr.of_below hdr hbl)); have HL1d := Lib.hid (HL1.out.step (PFr.of_below hdr hbl))
  clear hdr
  go_region_held3 (fun w' => w'.cell? ⟨w.heap.size, 1, none⟩ = some (.string (strOf nm)) ∧ w'.cell? ⟨w.heap.size, 2, none⟩ = some (.slice (some ⟨eb, off, none⟩) args.length sc) ∧ w'.cell? ⟨eb, off, none⟩ = some (.int .i64 xa.kind) ∧ w'.cell? ⟨eb, off + 1, none⟩ = some (.int .i64 xa.op) ∧ w'.cell? ⟨eb, off + 2, none⟩ = some (.int .i64 xa.n) ∧ w'.cell? ⟨eb, off + 3, none⟩ = some (.string (strOf xa.name)) ∧ w'.cell? ⟨eb, off + 4, none⟩ = some (.slice aa xa.args.length ac) ∧ w'.cell? ⟨eb, off + 5, none⟩ = some (.int .i64 xc.kind) ∧ w'.cell? ⟨eb, off + 5 + 1, none⟩ = some (.int .i64 xc.op) ∧ w'.cell? ⟨eb, off + 5 + 2, none⟩ = some (.int .i64 xc.n) ∧ w'.cell? ⟨eb, off + 5 + 3, none⟩ = some (.string (strOf xc.name)) ∧ w'.cell? ⟨eb, off + 5 + 4, none⟩ = some (.slice ca xc.args.length cc)) (first | (simp [*, World.cell?_alloc_lt]; done) | go_keep) (first | (go_at_call 38; refine (line_ln [.s nm, .s [91], .e xa (.slice aa xa.args.length ac), .s [93, 32, 61, 32], .e xc (.slice ca xc.args.length cc), .s [59]] _ _ b _ t _ (by simp) hb (HT.out.fr HF1d.out HP.out hb) HP1d.out (.s (.s (.e (HEA.out.keep (HF1d.out.keeps HP.out)) HNA.out HWA.out (.s (.e (HEC.out.keep (HF1d.out.keeps HP.out)) HNC.out HWC.out (.s (AllOk.nil))))))) (by omega) HF.out (by simp)).mono ?_; rintro r w2 ⟨he, hp2, hf2⟩; subst he; have gc1 : w2.cell? ⟨w.heap.size, 1, none⟩ = some (.string (strOf nm)) := (HL1d.out.step hf2).cell 1 (by simp); have gc2 : w2.cell? ⟨w.heap.size, 2, none⟩ = some (.slice (some ⟨eb, off, none⟩) args.length sc) := (HL1d.out.step hf2).cell 2 (by simp); have gz0 : w2.cell? ⟨eb, off, none⟩ = some (.int .i64 xa.kind) := hf2.keeps HP1d.out eb _ _ hebD (by simpa using z0); have gz1 : w2.cell? ⟨eb, off + 1, none⟩ = some (.int .i64 xa.op) := hf2.keeps HP1d.out eb _ _ hebD (by simpa using z1); have gz2 : w2.cell? ⟨eb, off + 2, none⟩ = some (.int .i64 xa.n) := hf2.keeps HP1d.out eb _ _ hebD (by simpa using z2); have gz3 : w2.cell? ⟨eb, off + 3, none⟩ = some (.string (strOf xa.name)) := hf2.keeps HP1d.out eb _ _ hebD (by simpa using z3); have gz4 : w2.cell? ⟨eb, off + 4, none⟩ = some (.slice aa xa.args.length ac) := hf2.keeps HP1d.out eb _ _ hebD (by simpa using z4); have gy0 : w2.cell? ⟨eb, off + 5, none⟩ = some (.int .i64 xc.kind) := hf2.keeps HP1d.out eb _ _ hebD (by simpa using y0); have gy1 : w2.cell? ⟨eb, off + 5 + 1, none⟩ = some (.int .i64 xc.op) := hf2.keeps HP1d.out eb _ _ hebD (by simpa using y1); have gy2 : w2.cell? ⟨eb, off + 5 + 2, none⟩ = some (.int .i64 xc.n) := hf2.keeps HP1d.out eb _ _ hebD (by simpa using y2); have gy3 : w2.cell? ⟨eb, off + 5 + 3, none⟩ = some (.string (strOf xc.name)) := hf2.keeps HP1d.out eb _ _ hebD (by simpa using y3); have gy4 : w2.cell? ⟨eb, off + 5 + 4, none⟩ = some (.slice ca xc.args.length cc) := hf2.keeps HP1d.out eb _ _ hebD (by simpa using y4); have HP2 := Lib.hid hp2; have HF2 := Lib.hid (HF1d.out.trans hf2); clear hp2 hf2))
  go_wp2_with fail
  go_end0
  exact ⟨rfl, by simpa only [List.append_assoc, List.map_cons, List.map_nil, It.text, List.nil_append, List.append_nil] using HP2.out, HF2.out⟩
end Go.Proofs.YtgmaeflfiooigaaGreatDoor

namespace Go.Proofs.YtgmaeflfiooigaaGreatDoor
open Go.RowKit
set_option maxHeartbeats 4000000
set_option maxRecDepth 100000

theorem pst_3a (m : Nat) (ih : PInOf m) (nm : Bs) (args : List Ex) (thn : List St) (hx : stOk (m + 1) (.mk 3 nm args thn ([] : List St)) = true) (b : Nat) (bs : Bs) (t : Nat) (s st se : Value) (w : World) (hb : 3 < b) (ht : TabOk w) (hp : PrtAt w b bs t)
    (hs : ExsAt (· < b) w args s) (hst : StsAt (· < b) w thn st) (hse : StsAt (· < b) w ([] : List St) se) (htm : t + (m + 1) ≤ 1000) (hf : Fits (bs.length + (stText t (.mk 3 nm args thn ([] : List St))).length)) :
    Calls Tryz.prog 140 #[.pointer (some ⟨b, 0, none⟩), stV (.mk 3 nm args thn ([] : List St)) s st se] w (Puts w b bs t (stText t (.mk 3 nm args thn ([] : List St)))) := by
  obtain ⟨hlen, hrng, hwl, hot, hoe⟩ := stOk_parts hx
  clear hrng
  replace hlen : args.length = 1 := by simp only [fArgs, Int.reduceEq, if_true, if_false, reduceIte, or_true, true_or, or_false, false_or, or_self] at hlen; omega
  rw [stText_eq, stShape_3] at hf ⊢
  simp only [List.isEmpty_nil, if_true, List.nil_append] at hf ⊢
  obtain ⟨sa, sc, rfl⟩ := hs.shape
  obtain ⟨ta, tc, rfl⟩ := hst.shape
  obtain ⟨ua, uc, rfl⟩ := hse.shape
  obtain ⟨eb, off, av, rfl, hebD, hebl, z0, z1, z2, z3, z4, hea, hna⟩ := hs.at0 (by omega)
  obtain ⟨aa, ac, rfl⟩ := hea.shape
  have HWA := Lib.hid (hwl _ (exAt_mem (l := args) (i := 0) (by omega)))
  have hl0 : (0 : Int) < (args.length : Int) := by omega
  have hl0n : 0 < args.length := by omega
  generalize exAt args 0 = xa at *
  show Calls _ _ #[.pointer (some ⟨b, 0, none⟩), .agg #[.int .i64 3, .string (strOf nm), .slice (some ⟨eb, off, none⟩) args.length sc, .slice ta thn.length tc, .slice ua ([] : List St).length uc]] _ _
  have IH := Lib.hid ih; have HT := Lib.hid ht; have HP := Lib.hid hp; have HF := Lib.hid hf; have HST := Lib.hid hst; have HSE := Lib.hid hse; have HOT := Lib.hid hot; have HOE := Lib.hid hoe
  have HP1 := Lib.hid (hp.alloc (.cells #[.int .i64 3, .string (strOf nm), .slice (some ⟨eb, off, none⟩) args.length sc, .slice ta thn.length tc, .slice ua ([] : List St).length uc] 49))
  have HF1 := Lib.hid (PFr.alloc hp (.cells #[.int .i64 3, .string (strOf nm), .slice (some ⟨eb, off, none⟩) args.length sc, .slice ta thn.length tc, .slice ua ([] : List St).length uc] 49))
  have HL1 := Lib.hid (Loc.new hp [.int .i64 3, .string (strOf nm), .slice (some ⟨eb, off, none⟩) args.length sc, .slice ta thn.length tc, .slice ua ([] : List St).length uc] 49)
  have HEA := Lib.hid hea; have HNA := Lib.hid hna
  clear ih ht hp hf hst hse hx hwl hot hoe hlen hs hea hna
  go_enter Tryz.func140, Tryz.ntmps140
  go_wp2_with fail
  refine (line_ln [.s [105, 102, 32, 40], .e xa (.slice aa xa.args.length ac), .s [41, 32, 123]] _ _ b _ t _ (by simp) hb (HT.out.fr HF1.out HP.out hb) HP1.out (.s (.e (HEA.out.keep (HF1.out.keeps HP.out)) HNA.out HWA.out (.s (AllOk.nil)))) (by omega) HF.out.left (by simp)).mono ?_
  rintro r w2 ⟨rfl, hp2, hf2⟩
  have HP2 := Lib.hid hp2; have HF2 := Lib.hid (HF1.out.trans hf2); have HL2 := Lib.hid (HL1.out.step hf2)
  clear hp2 hf2
  clear z0 z1 z2 z3 z4
  have c3 := HL2.out.cell 3 (by simp)
  simp only [List.getElem_cons_zero, List.getElem_cons_succ] at c3
  go_wp2_with fail
  refine (IH.out thn HOT.out b _ t _ _ hb (HT.out.fr HF2.out HP.out hb) HP2.out (HST.out.keep (HF2.out.keeps HP.out)) (by omega) HF.out.right.left).mono ?_
  rintro r w3 ⟨rfl, hp3, hf3⟩
  have HP3 := Lib.hid hp3; have HF3 := Lib.hid (HF2.out.trans hf3); have HL3 := Lib.hid (HL2.out.step hf3)
  clear hp3 hf3 c3
  have c4 := HL3.out.cell 4 (by simp)
  simp only [List.getElem_cons_zero, List.getElem_cons_succ] at c4
  go_wp2_with fail
  refine (line_ln [.s [125]] _ _ b _ t _ (by simp) hb (HT.out.fr HF3.out HP.out hb) HP3.out (.s (AllOk.nil)) (by omega) HF.out.right.right (by simp)).mono ?_
  rintro r w4 ⟨rfl, hp4, hf4⟩
  have HP4 := Lib.hid hp4; have HF4 := Lib.hid (HF3.out.trans hf4); have HL4 := Lib.hid (HL3.out.step hf4)
  clear hp4 hf4
  go_wp2_with fail
  go_end0
  exact ⟨rfl, by simpa only [List.append_assoc, List.map_cons, List.map_nil, It.text, List.nil_append, List.append_nil] using HP4.out, HF4.out⟩

theorem pst_3b (m : Nat) (ih : PInOf m) (nm : Bs) (args : List Ex) (thn : List St) (e0 : St) (el : List St) (hx : stOk (m + 1) (.mk 3 nm args thn (e0 :: el)) = true) (b : Nat) (bs : Bs) (t : Nat) (s st se : Value) (w : World) (hb : 3 < b) (ht : TabOk w) (hp : PrtAt w b bs t)
    (hs : ExsAt (· < b) w args s) (hst : StsAt (· < b) w thn st) (hse : StsAt (· < b) w (e0 :: el) se) (htm : t + (m + 1) ≤ 1000) (hf : Fits (bs.length + (stText t (.mk 3 nm args thn (e0 :: el))).length)) :
    Calls Tryz.prog 140 #[.pointer (some ⟨b, 0, none⟩), stV (.mk 3 nm args thn (e0 :: el)) s st se] w (Puts w b bs t (stText t (.mk 3 nm args thn (e0 :: el)))) := by
  obtain ⟨hlen, hrng, hwl, hot, hoe⟩ := stOk_parts hx
  clear hrng
  replace hlen : args.length = 1 := by simp only [fArgs, Int.reduceEq, if_true, if_false, reduceIte, or_true, true_or, or_false, false_or, or_self] at hlen; omega
  rw [stText_eq, stShape_3] at hf ⊢
  have E3 : ((if (e0 :: el).isEmpty = true then ([] : Bs) else ln t [[125, 32, 101, 108, 115, 101, 32, 123]] ++ stsText (t + 1) (e0 :: el)) ++ ln t [[125]]) = ln t [[125, 32, 101, 108, 115, 101, 32, 123]] ++ (stsText (t + 1) (e0 :: el) ++ ln t [[125]]) := by simp
  rw [E3] at hf ⊢
  clear E3
  obtain ⟨sa, sc, rfl⟩ := hs.shape
  obtain ⟨ta, tc, rfl⟩ := hst.shape
  obtain ⟨ua, uc, rfl⟩ := hse.shape
  obtain ⟨eb, off, av, rfl, hebD, hebl, z0, z1, z2, z3, z4, hea, hna⟩ := hs.at0 (by omega)
  obtain ⟨aa, ac, rfl⟩ := hea.shape
  have HWA := Lib.hid (hwl _ (exAt_mem (l := args) (i := 0) (by omega)))
  have hl0 : (0 : Int) < (args.length : Int) := by omega
  have hl0n : 0 < args.length := by omega
  generalize exAt args 0 = xa at *
  show Calls _ _ #[.pointer (some ⟨b, 0, none⟩), .agg #[.int .i64 3, .string (strOf nm), .slice (some ⟨eb, off, none⟩) args.length sc, .slice ta thn.length tc, .slice ua (e0 :: el).length uc]] _ _
  have IH := Lib.hid ih; have HT := Lib.hid ht; have HP := Lib.hid hp; have HF := Lib.hid hf; have HST := Lib.hid hst; have HSE := Lib.hid hse; have HOT := Lib.hid hot; have HOE := Lib.hid hoe
  have HP1 := Lib.hid (hp.alloc (.cells #[.int .i64 3, .string (strOf nm), .slice (some ⟨eb, off, none⟩) args.length sc, .slice ta thn.length tc, .slice ua (e0 :: el).length uc] 49))
  have HF1 := Lib.hid (PFr.alloc hp (.cells #[.int .i64 3, .string (strOf nm), .slice (some ⟨eb, off, none⟩) args.length sc, .slice ta thn.length tc, .slice ua (e0 :: el).length uc] 49))
  have HL1 := Lib.hid (Loc.new hp [.int .i64 3, .string (strOf nm), .slice (some ⟨eb, off, none⟩) args.length sc, .slice ta thn.length tc, .slice ua (e0 :: el).length uc] 49)
  have HEA := Lib.hid hea; have HNA := Lib.hid hna
  clear ih ht hp hf hst hse hx hwl hot hoe hlen hs hea hna
  have hpos : (0 : Int) < ((e0 :: el).length : Int) := by simp only [List.length_cons]; omega
  generalize hels : e0 :: el = els at *
  have HELS := Lib.hid hels; clear hels
  go_enter Tryz.func140, Tryz.ntmps140
  go_wp2_with fail
  refine (line_ln [.s [105, 102, 32, 40], .e xa (.slice aa xa.args.length ac), .s [41, 32, 123]] _ _ b _ t _ (by simp) hb (HT.out.fr HF1.out HP.out hb) HP1.out (.s (.e (HEA.out.keep (HF1.out.keeps HP.out)) HNA.out HWA.out (.s (AllOk.nil)))) (by omega) HF.out.left (by simp)).mono ?_
  rintro r w2 ⟨rfl, hp2, hf2⟩
  have HP2 := Lib.hid hp2; have HF2 := Lib.hid (HF1.out.trans hf2); have HL2 := Lib.hid (HL1.out.step hf2)
  clear hp2 hf2
  clear z0 z1 z2 z3 z4
  have c3 := HL2.out.cell 3 (by simp)
  simp only [List.getElem_cons_zero, List.getElem_cons_succ] at c3
  go_wp2_with fail
  refine (IH.out thn HOT.out b _ t _ _ hb (HT.out.fr HF2.out HP.out hb) HP2.out (HST.out.keep (HF2.out.keeps HP.out)) (by omega) HF.out.right.left).mono ?_
  rintro r w3 ⟨rfl, hp3, hf3⟩
  have HP3 := Lib.hid hp3; have HF3 := Lib.hid (HF2.out.trans hf3); have HL3 := Lib.hid (HL2.out.step hf3)
  clear hp3 hf3 c3
  have c4 := HL3.out.cell 4 (by simp)
  simp only [List.getElem_cons_zero, List.getElem_cons_succ] at c4
  go_wp2_with fail
  refine (line_ln [.s [125, 32, 101, 108, 115, 101, 32, 123]] _ _ b _ t _ (by simp) hb (HT.out.fr HF3.out HP.out hb) HP3.out (.s (AllOk.nil)) (by omega) HF.out.right.right.left (by simp)).mono ?_
  rintro r w4 ⟨rfl, hp4, hf4⟩
  have HP4 := Lib.hid hp4; have HF4 := Lib.hid (HF3.out.trans hf4); have HL4 := Lib.hid (HL3.out.step hf4)
  clear hp4 hf4
  clear c4
  have c4 := HL4.out.cell 4 (by simp)
  simp only [List.getElem_cons_zero, List.getElem_cons_succ] at c4
  go_wp2_with fail
  refine (IH.out els HOE.out b _ t _ _ hb (HT.out.fr HF4.out HP.out hb) HP4.out (HSE.out.keep (HF4.out.keeps HP.out)) (by omega) HF.out.right.right.right.left).mono ?_
  rintro r w5 ⟨rfl, hp5, hf5⟩
  have HP5 := Lib.hid hp5; have HF5 := Lib.hid (HF4.out.trans hf5); have HL5 := Lib.hid (HL4.out.step hf5)
  clear hp5 hf5 c4
  go_wp2_with fail
  refine (line_ln [.s [125]] _ _ b _ t _ (by simp) hb (HT.out.fr HF5.out HP.out hb) HP5.out (.s (AllOk.nil)) (by omega) HF.out.right.right.right.right (by simp)).mono ?_
  rintro r w6 ⟨rfl, hp6, hf6⟩
  have HP6 := Lib.hid hp6; have HF6 := Lib.hid (HF5.out.trans hf6); have HL6 := Lib.hid (HL5.out.step hf6)
  clear hp6 hf6
  go_wp2_with fail
  go_end0
  exact ⟨rfl, by simpa only [List.append_assoc, List.map_cons, List.map_nil, It.text, List.nil_append, List.append_nil] using HP6.out, HF6.out⟩
end Go.Proofs.YtgmaeflfiooigaaGreatDoor

namespace Go.Proofs.YtgmaeflfiooigaaGreatDoor
open Go.RowKit
set_option maxHeartbeats 4000000
set_option maxRecDepth 100000

theorem pst_4 (m : Nat) (ih : PInOf m) (nm : Bs) (args : List Ex) (thn els : List St) (hx : stOk (m + 1) (.mk 4 nm args thn els) = true) (b : Nat) (bs : Bs) (t : Nat) (s st se : Value) (w : World) (hb : 3 < b) (ht : TabOk w) (hp : PrtAt w b bs t)
    (hs : ExsAt (· < b) w args s) (hst : StsAt (· < b) w thn st) (hse : StsAt (· < b) w els se) (htm : t + (m + 1) ≤ 1000) (hf : Fits (bs.length + (stText t (.mk 4 nm args thn els)).length)) :
    Calls Tryz.prog 140 #[.pointer (some ⟨b, 0, none⟩), stV (.mk 4 nm args thn els) s st se] w (Puts w b bs t (stText t (.mk 4 nm args thn els))) := by
  obtain ⟨hlen, hrng, hwl, hot, hoe⟩ := stOk_parts hx
  clear hrng
  replace hlen : args.length = 1 := by simp only [fArgs, Int.reduceEq, if_true, if_false, reduceIte, or_true, true_or, or_false, false_or, or_self] at hlen; omega
  rw [stText_eq, stShape_4] at hf ⊢
  obtain ⟨sa, sc, rfl⟩ := hs.shape
  obtain ⟨ta, tc, rfl⟩ := hst.shape
  obtain ⟨ua, uc, rfl⟩ := hse.shape
  obtain ⟨eb, off, av, rfl, hebD, hebl, z0, z1, z2, z3, z4, hea, hna⟩ := hs.at0 (by omega)
  obtain ⟨aa, ac, rfl⟩ := hea.shape
  have HWA := Lib.hid (hwl _ (exAt_mem (l := args) (i := 0) (by omega)))
  have hl0 : (0 : Int) < (args.length : Int) := by omega
  have hl0n : 0 < args.length := by omega
  generalize exAt args 0 = xa at *
  show Calls _ _ #[.pointer (some ⟨b, 0, none⟩), .agg #[.int .i64 4, .string (strOf nm), .slice (some ⟨eb, off, none⟩) args.length sc, .slice ta thn.length tc, .slice ua els.length uc]] _ _
  have IH := Lib.hid ih; have HT := Lib.hid ht; have HP := Lib.hid hp; have HF := Lib.hid hf; have HST := Lib.hid hst; have HSE := Lib.hid hse; have HOT := Lib.hid hot; have HOE := Lib.hid hoe
  have HP1 := Lib.hid (hp.alloc (.cells #[.int .i64 4, .string (strOf nm), .slice (some ⟨eb, off, none⟩) args.length sc, .slice ta thn.length tc, .slice ua els.length uc] 49))
  have HF1 := Lib.hid (PFr.alloc hp (.cells #[.int .i64 4, .string (strOf nm), .slice (some ⟨eb, off, none⟩) args.length sc, .slice ta thn.length tc, .slice ua els.length uc] 49))
  have HL1 := Lib.hid (Loc.new hp [.int .i64 4, .string (strOf nm), .slice (some ⟨eb, off, none⟩) args.length sc, .slice ta thn.length tc, .slice ua els.length uc] 49)
  have HEA := Lib.hid hea; have HNA := Lib.hid hna
  clear ih ht hp hf hst hse hx hwl hot hoe hlen hs hea hna
  go_enter Tryz.func140, Tryz.ntmps140
  go_wp2_with fail
  refine (line_ln [.s [119, 104, 105, 108, 101, 32, 40], .e xa (.slice aa xa.args.length ac), .s [41, 32, 123]] _ _ b _ t _ (by simp) hb (HT.out.fr HF1.out HP.out hb) HP1.out (.s (.e (HEA.out.keep (HF1.out.keeps HP.out)) HNA.out HWA.out (.s (AllOk.nil)))) (by omega) HF.out.left (by simp)).mono ?_
  rintro r w2 ⟨rfl, hp2, hf2⟩
  have HP2 := Lib.hid hp2; have HF2 := Lib.hid (HF1.out.trans hf2); have HL2 := Lib.hid (HL1.out.step hf2)
  clear hp2 hf2
  clear z0 z1 z2 z3 z4
  have c3 := HL2.out.cell 3 (by simp)
  simp only [List.getElem_cons_zero, List.getElem_cons_succ] at c3
  go_wp2_with fail
  refine (IH.out thn HOT.out b _ t _ _ hb (HT.out.fr HF2.out HP.out hb) HP2.out (HST.out.keep (HF2.out.keeps HP.out)) (by omega) HF.out.right.left).mono ?_
  rintro r w3 ⟨rfl, hp3, hf3⟩
  have HP3 := Lib.hid hp3; have HF3 := Lib.hid (HF2.out.trans hf3); have HL3 := Lib.hid (HL2.out.step hf3)
  clear hp3 hf3 c3
  go_wp2_with fail
  refine (line_ln [.s [125]] _ _ b _ t _ (by simp) hb (HT.out.fr HF3.out HP.out hb) HP3.out (.s (AllOk.nil)) (by omega) HF.out.right.right (by simp)).mono ?_
  rintro r w4 ⟨rfl, hp4, hf4⟩
  have HP4 := Lib.hid hp4; have HF4 := Lib.hid (HF3.out.trans hf4); have HL4 := Lib.hid (HL3.out.step hf4)
  clear hp4 hf4
  go_wp2_with fail
  go_end0
  exact ⟨rfl, by simpa only [List.append_assoc, List.map_cons, List.map_nil, It.text, List.nil_append, List.append_nil] using HP4.out, HF4.out⟩
end Go.Proofs.YtgmaeflfiooigaaGreatDoor

namespace Go.Proofs.YtgmaeflfiooigaaGreatDoor
open Go.RowKit
set_option maxHeartbeats 4000000
set_option maxRecDepth 100000

theorem StsAt.cellAt {D : Nat → Prop} {w : World} {l : List St} {a : Option Addr} {n cap : Nat} (h : StsAt D w l (.slice a n cap)) (i : Nat) (hl : i < l.length) : ∃ b off s t e, a = some ⟨b, off, none⟩ ∧ D b ∧ b < w.heap.size ∧
    w.cell? ⟨b, off + i * 5, none⟩ = some (.int .i64 (stAt l i).kind) ∧ w.cell? ⟨b, off + i * 5 + 1, none⟩ = some (.string (strOf (stAt l i).name)) ∧ w.cell? ⟨b, off + i * 5 + 2, none⟩ = some s ∧
    w.cell? ⟨b, off + i * 5 + 3, none⟩ = some t ∧ w.cell? ⟨b, off + i * 5 + 4, none⟩ = some e ∧ ExsAt D w (stAt l i).args s ∧ StsAt D w (stAt l i).thn t ∧ StsAt D w (stAt l i).els e := by
  cases h with
  | mk _ _ _ b off sa st se hcap hfit ha h0 h1 h2 h3 h4 ea et ee =>
    rcases ha with ha | ⟨ha, hD⟩
    · omega
    · exact ⟨b, off, sa i, st i, se i, ha, hD, World.block_lt_of_cell? _ _ (h0 i hl), h0 i hl, h1 i hl, h2 i hl, h3 i hl, h4 i hl, ea i hl, et i hl, ee i hl⟩
theorem StsAt.fits {D : Nat → Prop} {w : World} {l : List St} {v : Value} (h : StsAt D w l v) : Fits l.length := by
  cases h with
  | mk _ _ _ b off sa st se hcap hfit => exact hfit

theorem pst_step (m : Nat) (ih : PInOf m) : PStOf (m + 1) := by
  intro x hx b bs t s st se w hb ht hp hs hst hse htm hf
  obtain ⟨k, nm, args, thn, els⟩ := x
  have hk := (stOk_parts hx).2.1
  have hk' : k = 1 ∨ k = 2 ∨ k = 3 ∨ k = 4 ∨ k = 5 ∨ k = 6 ∨ k = 7 ∨ k = 8 ∨ k = 9 ∨ k = 10 := by omega
  rcases hk' with rfl | rfl | rfl | rfl | rfl | rfl | rfl | rfl | rfl | rfl
  · exact pst_1 m ih nm args thn els hx b bs t s st se w hb ht hp hs hst hse htm hf
  · exact pst_2 m ih nm args thn els hx b bs t s st se w hb ht hp hs hst hse htm hf
  · cases els with
    | nil => exact pst_3a m ih nm args thn hx b bs t s st se w hb ht hp hs hst hse htm hf
    | cons e0 el => exact pst_3b m ih nm args thn e0 el hx b bs t s st se w hb ht hp hs hst hse htm hf
  · exact pst_4 m ih nm args thn els hx b bs t s st se w hb ht hp hs hst hse htm hf
  · exact pst_5 m ih nm args thn els hx b bs t s st se w hb ht hp hs hst hse htm hf
  · exact pst_6 m ih nm args thn els hx b bs t s st se w hb ht hp hs hst hse htm hf
  · exact pst_7 m ih nm args thn els hx b bs t s st se w hb ht hp hs hst hse htm hf
  · exact pst_8 m ih nm args thn els hx b bs t s st se w hb ht hp hs hst hse htm hf
  · exact pst_9 m ih nm args thn els hx b bs t s st se w hb ht hp hs hst hse htm hf
  · exact pst_10 m ih nm args thn els hx b bs t s st se w hb ht hp hs hst hse htm hf

/-- Another number of tabs. -/
theorem PrtAt.frozen {w : World} {b : Nat} {bs : Bs} {t : Int} (h : PrtAt w b bs t) : w.frozen? ⟨b, 2, none⟩ = false := by
  obtain ⟨p, v, hb, _⟩ := h
  exact Lib.frozen_of_heap hb 2
theorem PrtAt.set {w : World} {b : Nat} {bs : Bs} {t : Int} (h : PrtAt w b bs t) (u : Int) : PrtAt (w.setCell ⟨b, 2, none⟩ (.int .i64 u)) b bs u ∧ PFr b w (w.setCell ⟨b, 2, none⟩ (.int .i64 u)) := by
  obtain ⟨p, v, hb, hq, hown⟩ := h
  have hb' : (w.setCell ⟨b, 2, none⟩ (.int .i64 u)).heap[b]? = some (.cells #[p, v, .int .i64 u] 83 (0, 0)) := by
    simp [World.setCell, Array.getElem?_modify, hb]
  refine ⟨⟨p, v, hb', hq, ?_⟩, ⟨rfl, rfl, rfl, by simp [World.setCell], fun k _ hk _ => Below.heap_setCell _ _ _ _ hk, .inl (by simp [own, hb, hb'])⟩⟩
  refine hown.kept (row := some b) ⟨rfl, rfl, rfl, by simp [World.setCell], fun k _ hk => Below.heap_setCell _ _ _ _ (fun e => hk (by simp [e]))⟩ (Or.inr ?_)
  intro e; have := hown.lt b e; omega

theorem pin_step (m : Nat) (ih : PStOf m) : PInOf m := by
  intro l hl b bs t v w hb ht hp hs htm hf
  obtain ⟨sa, sc, rfl⟩ := hs.shape
  have hl63 := hs.fits.lt
  have c2 := hp.tab
  have fz := hp.frozen
  have hset := hp.set (t + 1)
  have IH := Lib.hid ih; have HT := Lib.hid ht; have HP := Lib.hid hp; have HS := Lib.hid hs; have HF := Lib.hid hf; have HO := Lib.hid hl
  have HP1 : Hid (PrtAt (w.setCell ⟨b, 2, none⟩ (.int .i64 (t + 1))) b bs ((t + 1 : Nat) : Int)) := by have q := hset.1; show PrtAt _ _ _ _; rwa [show ((t + 1 : Nat) : Int) = (t : Int) + 1 from by omega]
  have HF1 := Lib.hid hset.2
  clear ih ht hp hs hf hl hset
  have ht0 : (0 : Int) ≤ (t : Int) := by omega
  have ht1 : (t : Int) ≤ 1000 := by omega
  go_enter Tryz.func78, Tryz.ntmps78
  go_wp2_with fail
  go_loopw [5, 15] (fun _ s15 wr => ∃ k : Nat, k ≤ l.length ∧ s15 = .int .i64 k ∧ PrtAt wr b (bs ++ stsText (t + 1) (l.take k)) ((t + 1 : Nat) : Int) ∧ PFr b w wr) (fun _ s15 _ => l.length - (intOf s15).toNat)
  case atStart => exact ⟨0, Nat.zero_le _, rfl, by simpa [stsText] using HP1.out, HF1.out⟩
  case round =>
    obtain ⟨k, hk, rfl, hpk, hfr⟩ := hrel
    have HPK := Lib.hid hpk; have HFR := Lib.hid hfr
    have hbl := hpk.lt
    have c2 := hpk.tab
    have fz := hpk.frozen
    have hset := hpk.set t
    clear hpk hfr
    by_cases hlt : k < l.length
    · clear hset c2 fz
      obtain ⟨eb, off, es, et, ee, rfl, hD, hebl, z0, z1, z2, z3, z4, hes, het, hee⟩ := (HS.out.keep (HFR.out.keeps HP.out)).cellAt k hlt
      obtain ⟨a1, a2, rfl⟩ := hes.shape
      obtain ⟨t1, t2, rfl⟩ := het.shape
      obtain ⟨u1, u2, rfl⟩ := hee.shape
      have hok : stOk m (stAt l k) = true := List.all_eq_true.1 HO.out _ (stAt_mem hlt)
      have hnext := Lib.hid (stsText_take (t + 1) l k hlt)
      have hfit : Hid (Fits ((bs ++ stsText (t + 1) (l.take k)).length + (stText (t + 1) (stAt l k)).length)) := by
        refine HF.out.mono ?_
        have e := stsText_take_le (t + 1) l (k + 1)
        rw [hnext.out, List.length_append] at e; rw [List.length_append]; omega
      have HES := Lib.hid hes; have HET := Lib.hid het; have HEE := Lib.hid hee; have HOK := Lib.hid hok
      clear hes het hee hok hD
      generalize stAt l k = x at *
      have HP2 := Lib.hid (HPK.out.alloc (.cells #[.int .i64 x.kind, .string (strOf x.name), .slice a1 x.args.length a2, .slice t1 x.thn.length t2, .slice u1 x.els.length u2] 49))
      have HF2 := Lib.hid (HFR.out.trans (PFr.alloc HPK.out (.cells #[.int .i64 x.kind, .string (strOf x.name), .slice a1 x.args.length a2, .slice t1 x.thn.length t2, .slice u1 x.els.length u2] 49)))
      have HK2 := Lib.hid ((PFr.alloc HPK.out (.cells #[.int .i64 x.kind, .string (strOf x.name), .slice a1 x.args.length a2, .slice t1 x.thn.length t2, .slice u1 x.els.length u2] 49)).keeps HPK.out)
      go_wp2_with fail
      refine (IH.out x HOK.out b _ (t + 1) (.slice a1 x.args.length a2) (.slice t1 x.thn.length t2) (.slice u1 x.els.length u2) _ hb (HT.out.fr HF2.out HP.out hb) HP2.out (HES.out.keep HK2.out) (HET.out.keep HK2.out) (HEE.out.keep HK2.out) (by omega) hfit.out).mono ?_
      rintro r w3 ⟨rfl, hp3, hf3⟩
      have HP3 := Lib.hid hp3; have HF3 := Lib.hid (HF2.out.trans hf3)
      clear hp3 hf3 z0 z1 z2 z3 z4
      go_wp2_with fail
      go_roundw
      case rel => exact ⟨k + 1, by omega, by go_num, by rw [hnext.out, ← List.append_assoc]; exact HP3.out, HF3.out⟩
      case measure => simp [intOf]; omega
    · have HSET := Lib.hid hset; clear hset
      have ec : ((t + 1 : Nat) : Int) - 1 = t := by omega
      have e : l.take k = l := List.take_of_length_le (by omega)
      rw [e] at HSET
      have EC := Lib.hid ec
      clear e ec
      go_wp2_with fail
      go_end0
      refine ⟨rfl, ?_, ?_⟩
      · first | exact HSET.out.1 | (have q := HSET.out.1; simpa [EC.out] using q)
      · first | exact HFR.out.trans HSET.out.2 | (have q := HFR.out.trans HSET.out.2; simpa [EC.out] using q)
theorem pst_all : ∀ m, PStOf m ∧ PInOf m
  | 0 => have a : PStOf 0 := fun x hx => by simp [stOk] at hx
    ⟨a, pin_step 0 a⟩
  | m + 1 => have a := pst_step m (pst_all m).2; ⟨a, pin_step (m + 1) a⟩
end Go.Proofs.YtgmaeflfiooigaaGreatDoor
