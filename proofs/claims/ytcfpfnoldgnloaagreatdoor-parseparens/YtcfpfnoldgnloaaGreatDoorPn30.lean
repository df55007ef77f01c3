/-
  put: texts, one behind the other, into the printer. Conditions: the text takes at most 2^47 bytes.
  part, list and expr: an expression's text. Conditions: the expression may be; its text takes at most 2^47 bytes; the library's table of powers is there.
  list of expressions: texts with commas between. Conditions as part.
  expr: an expression's text, a kind each. Conditions: the expression may be; its text takes at most 2^47 bytes; the library's table of powers is there.
  expr: an expression's text, a kind each. Conditions: the expression may be; its text takes at most 2^47 bytes; the library's table of powers is there.
  expr: an expression's text, a kind each. Conditions: the expression may be; its text takes at most 2^47 bytes; the library's table of powers is there.
  expr: an expression's text, a kind each. Conditions: the expression may be; its text takes at most 2^47 bytes; the library's table of powers is there.
  expr: an expression's text, a kind each. Conditions: the expression may be; its text takes at most 2^47 bytes; the library's table of powers is there.
  expr: an expression's text, a kind each. Conditions: the expression may be; its text takes at most 2^47 bytes; the library's table of powers is there.
  expr: an expression's text, a kind each. Conditions: the expression may be; its text takes at most 2^47 bytes; the library's table of powers is there.
-/
import Derived.Test.YtcfpfnoldgnloaaGreatDoorPn29
import Derived.Test.YtcfpfnoldgnloaaGreatDoorPn21
import Derived.Test.YtcfpfnoldgnloaaGreatDoorPn20
import Derived.Test.YtcfpfnoldgnloaaGreatDoorPn01
set_option linter.unusedVariables false
set_option linter.unusedSimpArgs false
namespace Go.Proofs.YtcfpfnoldgnloaaGreatDoor
open Go.RowKit
set_option maxHeartbeats 2000000
set_option maxRecDepth 100000

theorem PrtAt.alloc {w : World} {b : Nat} {bs : Bs} {t : Int} (h : PrtAt w b bs t) (o : Obj) : PrtAt (w.alloc o) b bs t := h.old ((Below.refl _ _).alloc (Nat.le_refl _) _)
theorem PFr.alloc {w : World} {b : Nat} {bs : Bs} {t : Int} (h : PrtAt w b bs t) (o : Obj) : PFr b w (w.alloc o) := PFr.of_below ((Below.refl _ _).alloc (Nat.le_refl _) _) h.lt

theorem put_any (ws : List Bs) (X cap b : Nat) (bs : Bs) (t : Int) (w : World) (hp : PrtAt w b bs t) (hl : Loc w b X (ws.map fun s => .string (strOf s))) (hf : Fits (bs.length + ws.flatten.length)) (hn : ws.length ≤ 1000) :
    Calls Tryz.prog 72 #[.pointer (some ⟨b, 0, none⟩), .slice (some ⟨X, 0, none⟩) ws.length cap] w (Puts w b bs t ws.flatten) := by
  have HP := Lib.hid hp; have HL := Lib.hid hl; have HF := Lib.hid hf
  clear hp hl hf
  go_enter Tryz.func72, Tryz.ntmps72
  go_wp2_with fail
  go_loopw [5, 8] (fun _ s8 wr => ∃ k : Nat, k ≤ ws.length ∧ s8 = .int .i64 k ∧ PrtAt wr b (bs ++ (ws.take k).flatten) t ∧ PFr b w wr) (fun _ s8 _ => ws.length - (intOf s8).toNat)
  case atStart => exact ⟨0, Nat.zero_le _, rfl, by simpa using HP.out, PFr.refl _ _⟩
  case round =>
    obtain ⟨k, hk, rfl, hp, hfr⟩ := hrel
    have HPK := Lib.hid hp; have HFR := Lib.hid hfr
    have hbl := hp.lt
    have HLK := Lib.hid (HL.out.step hfr)
    clear hp hfr
    by_cases hlt : k < ws.length
    · have c := HLK.out.cell k (by simpa using hlt)
      have ec : (ws.map fun s => Value.string (strOf s))[k]'(by simpa using hlt) = .string (strOf (ws.getD k [])) := by simp [List.getElem?_eq_getElem hlt]
      rw [ec] at c
      have hsp : Hid ((ws.take (k + 1)).flatten = (ws.take k).flatten ++ ws.getD k []) := by
        show _ = _
        rw [List.take_succ_eq_append_getElem hlt]
        simp only [List.flatten_append, List.flatten_cons, List.flatten_nil, List.append_nil, List.getD_eq_getElem?_getD, List.getElem?_eq_getElem hlt, Option.getD_some]
      have hfit : Hid (Fits ((bs ++ (ws.take k).flatten).length + (ws.getD k []).length)) := by
        refine HF.out.mono ?_
        have e : ws.flatten = (ws.take (k + 1)).flatten ++ (ws.drop (k + 1)).flatten := by rw [← List.flatten_append, List.take_append_drop]
        rw [e, hsp.out]; simp; omega
      clear ec
      generalize ws.getD k [] = s at c hsp hfit
      go_wp2_with fail
      refine (writeString_any s b _ t _ HPK.out hfit.out).mono ?_
      rintro r w3 ⟨rfl, hp3, hf3⟩
      have HP3 := Lib.hid hp3; have HF3 := Lib.hid hf3
      clear hp3 hf3
      go_wp2_with fail
      go_roundw
      case rel => exact ⟨k + 1, by omega, by go_num, by rw [hsp.out, ← List.append_assoc]; exact HP3.out, HFR.out.trans HF3.out⟩
      case measure => simp [intOf]; omega
    · go_wp2_with fail
      go_end0
      exact ⟨rfl, by have e : ws.take k = ws := List.take_of_length_le (by omega); have q := HPK.out; rwa [e] at q, HFR.out⟩

/-- One, two, three texts in a slice that the call has just built. -/
theorem put1 (s : Bs) (T : TypeId) (X b : Nat) (bs : Bs) (t : Int) (w : World) (hX : X = w.heap.size) (hp : PrtAt w b bs t) (hf : Fits (bs.length + s.length)) :
    Calls Tryz.prog 72 #[.pointer (some ⟨b, 0, none⟩), .slice (some ⟨X, 0, none⟩) 1 1] (w.alloc (.cells #[.string (strOf s)] T)) (Puts w b bs t s) := by
  subst hX
  refine (put_any [s] w.heap.size 1 b bs t _ (hp.alloc _) (Loc.new hp [.string (strOf s)] T) (by simpa using hf) (by simp)).mono ?_
  rintro r w' ⟨rfl, h2, h3⟩
  exact ⟨rfl, by simpa using h2, (PFr.alloc hp _).trans h3⟩
theorem put2 (s1 s2 : Bs) (T : TypeId) (X b : Nat) (bs : Bs) (t : Int) (w : World) (hX : X = w.heap.size) (hp : PrtAt w b bs t) (hf : Fits (bs.length + (s1 ++ s2).length)) :
    Calls Tryz.prog 72 #[.pointer (some ⟨b, 0, none⟩), .slice (some ⟨X, 0, none⟩) 2 2] (w.alloc (.cells #[.string (strOf s1), .string (strOf s2)] T)) (Puts w b bs t (s1 ++ s2)) := by
  subst hX
  refine (put_any [s1, s2] w.heap.size 2 b bs t _ (hp.alloc _) (Loc.new hp [.string (strOf s1), .string (strOf s2)] T) (by simpa using hf) (by simp)).mono ?_
  rintro r w' ⟨rfl, h2, h3⟩
  exact ⟨rfl, by simpa using h2, (PFr.alloc hp _).trans h3⟩
theorem put3 (s1 s2 s3 : Bs) (T : TypeId) (X b : Nat) (bs : Bs) (t : Int) (w : World) (hX : X = w.heap.size) (hp : PrtAt w b bs t) (hf : Fits (bs.length + (s1 ++ (s2 ++ s3)).length)) :
    Calls Tryz.prog 72 #[.pointer (some ⟨b, 0, none⟩), .slice (some ⟨X, 0, none⟩) 3 3] (w.alloc (.cells #[.string (strOf s1), .string (strOf s2), .string (strOf s3)] T)) (Puts w b bs t (s1 ++ (s2 ++ s3))) := by
  subst hX
  refine (put_any [s1, s2, s3] w.heap.size 3 b bs t _ (hp.alloc _) (Loc.new hp [.string (strOf s1), .string (strOf s2), .string (strOf s3)] T) (by simpa using hf) (by simp)).mono ?_
  rintro r w' ⟨rfl, h2, h3⟩
  exact ⟨rfl, by simpa using h2, (PFr.alloc hp _).trans h3⟩
end Go.Proofs.YtcfpfnoldgnloaaGreatDoor

namespace Go.Proofs.YtcfpfnoldgnloaaGreatDoor
open Go.RowKit
set_option maxHeartbeats 2000000
set_option maxRecDepth 100000

def TabOk (w : World) : Prop := Lib.TabIs Tryz.prog w "internal/strconv.uint64pow10" .u64 Lib.pow10Tab
theorem TabOk.keep {w w' : World} (h : TabOk w) (hb : w'.heap[3]? = w.heap[3]?) : TabOk w' := by
  have hg : Tryz.prog.globalNamed "internal/strconv.uint64pow10" = some 3 := by kernel_rfl
  unfold TabOk Lib.TabIs World.var? at *
  simp only [hg, Option.bind_eq_bind, Option.bind_some] at *
  rw [hb]; exact h
theorem itoa_any (n : Int) (h : I64 n) (w : World) (ht : TabOk w) :
    Calls Tryz.prog 35 #[.int .i64 n] w fun e w' => e = .returned (.string (strOf (Lib.itoa n))) ∧ Below w.heap.size w w' := by
  refine (Tryz.strconv_Itoa n h.1 h.2 w ht).mono ?_
  rintro e w' ⟨rfl, k, os, rfl⟩
  exact ⟨rfl, rfl, rfl, rfl, by simp, fun i hi => by simp [Sort.grow, World.drewN, Array.getElem?_append_left hi]⟩

/-- The contract of expr. -/
def ExprOf (e : Ex) : Prop := ∀ (b : Nat) (bs : Bs) (t : Int) (s : Value) (w : World), 3 < b → TabOk w → PrtAt w b bs t → ExsAt (· < b) w e.args s → I64 e.n → wellOk e = true → Fits (bs.length + (exText e).length) →
  Calls Tryz.prog 32 #[.pointer (some ⟨b, 0, none⟩), exV e s] w (Puts w b bs t (exText e))
theorem TabOk.fr {w w' : World} {b : Nat} {bs : Bs} {t : Int} (h : TabOk w) (hf : PFr b w w') (hp : PrtAt w b bs t) (hb : 3 < b) : TabOk w' := h.keep ((hf.below hp).block _ hb)

theorem part_any (e : Ex) (ih : ExprOf e) (level : Int) (b : Nat) (bs : Bs) (t : Int) (s : Value) (w : World) (hb : 3 < b) (ht : TabOk w) (hp : PrtAt w b bs t) (hs : ExsAt (· < b) w e.args s) (hn : I64 e.n) (hw : wellOk e = true) (hf : Fits (bs.length + (partText e level).length)) :
    Calls Tryz.prog 73 #[.pointer (some ⟨b, 0, none⟩), exV e s, .int .i64 level] w (Puts w b bs t (partText e level)) := by
  have IH := Lib.hid ih; have HT := Lib.hid ht; have HP := Lib.hid hp; have HN := Lib.hid hn; have HW := Lib.hid hw; have HF := Lib.hid hf
  obtain ⟨sa, sc, rfl⟩ := hs.shape
  have HS := Lib.hid hs
  clear ih ht hs hn hw hf
  have hlt := hp.lt
  have hp1 := Lib.hid (hp.alloc (.cells #[.int .i64 e.kind, .int .i64 e.op, .int .i64 e.n, .string (strOf e.name), .slice sa e.args.length sc] 27))
  have hf1 := Lib.hid (PFr.alloc hp (.cells #[.int .i64 e.kind, .int .i64 e.op, .int .i64 e.n, .string (strOf e.name), .slice sa e.args.length sc] 27))
  have hl1 := Lib.hid (Loc.new hp [.int .i64 e.kind, .int .i64 e.op, .int .i64 e.n, .string (strOf e.name), .slice sa e.args.length sc] 27)
  clear hp
  by_cases h4 : e.kind = 4
  · have k4 : (e.kind == 4) = true := by simpa using h4
    by_cases hl : levelOf e.op < level
    · have E : Hid (partText e level = [40] ++ (exText e ++ [41])) := by show _ = _; simp [partText, wrapPart, h4, hl]
      rw [E.out] at HF ⊢
      clear h4
      go_enter Tryz.func73, Tryz.ntmps73
      go_wp2_with fail
      refine (level_any e.op _).mono ?_
      rintro r w2 ⟨rfl, hb2⟩
      have hf2 := PFr.of_below hb2 hp1.out.lt
      have HP2 := Lib.hid (hp1.out.old hb2); have HF2 := Lib.hid (hf1.out.trans hf2); have HL2 := Lib.hid (hl1.out.step hf2)
      clear hb2 hf2 hp1 hf1 hl1
      go_wp2_with fail
      refine (put1 [40] _ _ b bs t w2 rfl HP2.out (HF.out.mono (by simp))).mono ?_
      rintro r w3 ⟨rfl, hp3, hf3⟩
      have HP3 := Lib.hid hp3; have HF3 := Lib.hid (HF2.out.trans hf3); have HL3 := Lib.hid (HL2.out.step hf3)
      clear hp3 hf3 HP2 HF2 HL2
      have c0 := HL3.out.cell 0 (by simp); have c1 := HL3.out.cell 1 (by simp); have c2 := HL3.out.cell 2 (by simp); have c3 := HL3.out.cell 3 (by simp); have c4 := HL3.out.cell 4 (by simp)
      simp only [List.getElem_cons_zero, List.getElem_cons_succ] at c0 c1 c2 c3 c4
      go_wp2_with fail
      refine (IH.out b (bs ++ [40]) t _ w3 hb (HT.out.fr HF3.out HP.out hb) HP3.out (HS.out.keep (HF3.out.keeps HP.out)) HN.out HW.out (HF.out.mono (by simp; omega))).mono ?_
      rintro r w4 ⟨rfl, hp4, hf4⟩
      have HP4 := Lib.hid hp4; have HF4 := Lib.hid (HF3.out.trans hf4)
      clear hp4 hf4 c0 c1 c2 c3 c4
      go_wp2_with fail
      refine (put1 [41] _ _ b _ t w4 rfl HP4.out (HF.out.mono (by simp; omega))).mono ?_
      rintro r w5 ⟨rfl, hp5, hf5⟩
      go_wp2_with fail
      go_end0
      exact ⟨rfl, by simpa using hp5, HF4.out.trans hf5⟩
    · have hl' : level ≤ levelOf e.op := by omega
      have E : Hid (partText e level = exText e) := by show _ = _; simp [partText, wrapPart, hl]
      rw [E.out] at HF ⊢
      clear h4
      go_enter Tryz.func73, Tryz.ntmps73
      go_wp2_with fail
      refine (level_any e.op _).mono ?_
      rintro r w2 ⟨rfl, hb2⟩
      have hf2 := PFr.of_below hb2 hp1.out.lt
      have HP2 := Lib.hid (hp1.out.old hb2); have HF2 := Lib.hid (hf1.out.trans hf2); have HL2 := Lib.hid (hl1.out.step hf2)
      clear hb2 hf2 hp1 hf1 hl1
      have c0 := HL2.out.cell 0 (by simp); have c1 := HL2.out.cell 1 (by simp); have c2 := HL2.out.cell 2 (by simp); have c3 := HL2.out.cell 3 (by simp); have c4 := HL2.out.cell 4 (by simp)
      simp only [List.getElem_cons_zero, List.getElem_cons_succ] at c0 c1 c2 c3 c4
      go_wp2_with fail
      refine (IH.out b bs t _ w2 hb (HT.out.fr HF2.out HP.out hb) HP2.out (HS.out.keep (HF2.out.keeps HP.out)) HN.out HW.out HF.out).mono ?_
      rintro r w4 ⟨rfl, hp4, hf4⟩
      have HP4 := Lib.hid hp4; have HF4 := Lib.hid (HF2.out.trans hf4)
      clear hp4 hf4 c0 c1 c2 c3 c4
      go_wp2_with fail
      go_end0
      exact ⟨rfl, HP4.out, HF4.out⟩
  · have k4 : (e.kind == 4) = false := by simpa using h4
    have E : Hid (partText e level = exText e) := by show _ = _; simp [partText, wrapPart, h4]
    rw [E.out] at HF ⊢
    clear h4
    go_enter Tryz.func73, Tryz.ntmps73
    go_wp2_with fail
    refine (IH.out b bs t _ _ hb (HT.out.fr hf1.out HP.out hb) hp1.out (HS.out.keep (hf1.out.keeps HP.out)) HN.out HW.out HF.out).mono ?_
    rintro r w4 ⟨rfl, hp4, hf4⟩
    have HP4 := Lib.hid hp4; have HF4 := Lib.hid (hf1.out.trans hf4)
    clear hp4 hf4
    go_wp2_with fail
    go_end0
    exact ⟨rfl, HP4.out, HF4.out⟩
end Go.Proofs.YtcfpfnoldgnloaaGreatDoor

namespace Go.Proofs.YtcfpfnoldgnloaaGreatDoor
open Go.RowKit
set_option maxHeartbeats 2000000
set_option maxRecDepth 100000

theorem sepText_le (a c : List Bs) : (sepText a).length ≤ (sepText (a ++ c)).length := by
  cases a with
  | nil => simp [sepText]
  | cons x l => simp [sepText]
theorem sepText_take_le (ts : List Bs) (k : Nat) : (sepText (ts.take k)).length ≤ (sepText ts).length := by
  have := sepText_le (ts.take k) (ts.drop k)
  rwa [List.take_append_drop] at this
theorem map_take_succ (l : List Ex) (k : Nat) (h : k < l.length) : (l.take (k + 1)).map exText = (l.take k).map exText ++ [exText (exAt l k)] := by
  rw [List.take_succ_eq_append_getElem h, List.map_append, List.map_cons, List.map_nil, exAt_get h]

theorem list_any (l : List Ex) (ih : ∀ x, x ∈ l → ExprOf x) (b : Nat) (bs : Bs) (t : Int) (s : Value) (w : World) (hb : 3 < b) (ht : TabOk w) (hp : PrtAt w b bs t) (hs : ExsAt (· < b) w l s) (hw : ∀ x, x ∈ l → wellOk x = true) (hf : Fits (bs.length + (sepText (l.map exText)).length)) :
    Calls Tryz.prog 75 #[.pointer (some ⟨b, 0, none⟩), s, .func (.func 32) #[.pointer (some ⟨b, 0, none⟩)] #[]] w (Puts w b bs t (sepText (l.map exText))) := by
  have IH := Lib.hid ih; have HT := Lib.hid ht; have HP := Lib.hid hp; have HW := Lib.hid hw; have HF := Lib.hid hf
  obtain ⟨sa, sc, rfl⟩ := hs.shape
  have hl63 := hs.fits.lt
  have HS := Lib.hid hs
  clear ih ht hs hw hf hp
  go_enter Tryz.func75, Tryz.ntmps75
  go_wp2_with fail
  go_loopw [6, 7, 10] (fun _ _ s10 wr => ∃ k : Nat, k ≤ l.length ∧ s10 = .int .i64 k ∧ PrtAt wr b (bs ++ sepText ((l.take k).map exText)) t ∧ PFr b w wr) (fun _ _ s10 _ => l.length - (intOf s10).toNat)
  case atStart => exact ⟨0, Nat.zero_le _, rfl, by simpa [sepText] using HP.out, PFr.refl _ _⟩
  case round =>
    obtain ⟨k, hk, rfl, hpk, hfr⟩ := hrel
    have HPK := Lib.hid hpk; have HFR := Lib.hid hfr
    have hbl := hpk.lt
    clear hpk hfr
    by_cases hlt : k < l.length
    · obtain ⟨eb, off, es, rfl, hD, c0, c1, c2, c3, c4, hes, hn⟩ := (HS.out.keep (HFR.out.keeps HP.out)).cellAt k hlt
      obtain ⟨ea, ec, rfl⟩ := hes.shape
      have HES := Lib.hid hes; have HN := Lib.hid hn
      have IHX := Lib.hid (IH.out _ (exAt_mem hlt)); have HWX := Lib.hid (HW.out _ (exAt_mem hlt))
      have hmap := Lib.hid (map_take_succ l k hlt)
      have hle := Lib.hid (sepText_take_le (l.map exText) (k + 1))
      rw [← List.map_take, hmap.out, sepText_snoc] at hle
      clear hes hn hD
      generalize exAt l k = e at c0 c1 c2 c3 c4 HES HN IHX HWX hmap hle
      have hp1 := Lib.hid (HPK.out.alloc (.cells #[.int .i64 e.kind, .int .i64 e.op, .int .i64 e.n, .string (strOf e.name), .slice ea e.args.length ec] 27))
      have hf1 := Lib.hid (HFR.out.trans (PFr.alloc HPK.out (.cells #[.int .i64 e.kind, .int .i64 e.op, .int .i64 e.n, .string (strOf e.name), .slice ea e.args.length ec] 27)))
      have hl1 := Lib.hid (Loc.new HPK.out [.int .i64 e.kind, .int .i64 e.op, .int .i64 e.n, .string (strOf e.name), .slice ea e.args.length ec] 27)
      have hebl : eb < wr.heap.size := World.block_lt_of_cell? _ _ c0
      by_cases hk0 : k = 0
      · have hk0' : (k : Int) ≤ 0 := by omega
        have hnil : (l.take k).map exText = [] := by rw [hk0]; simp
        rw [if_pos hnil] at hle
        have HK0 := Lib.hid hk0; have HNIL := Lib.hid hnil
        have hle' : Hid (Fits ((bs ++ sepText ((l.take k).map exText)).length + (exText e).length)) := HF.out.mono (by have := hle.out; rw [HNIL.out]; simp [sepText]; exact this)
        have hnext : Hid (sepText ((l.take (k + 1)).map exText) = sepText ((l.take k).map exText) ++ exText e) := by show _ = _; rw [hmap.out, HNIL.out]; simp [sepText]
        clear hk0 hnil
        go_wp2_with fail
        refine (IHX.out b _ t _ _ hb (HT.out.fr hf1.out HP.out hb) hp1.out (HES.out.keep ((PFr.alloc HPK.out _).keeps HPK.out)) HN.out HWX.out hle'.out).mono ?_
        rintro r w3 ⟨rfl, hp3, hf3⟩
        have HP3 := Lib.hid hp3; have HF3 := Lib.hid (hf1.out.trans hf3)
        clear hp3 hf3 c0 c1 c2 c3 c4
        go_wp2_with fail
        go_roundw
        case rel => exact ⟨k + 1, by omega, by go_num, by have q := HP3.out; rw [hnext.out]; simpa using q, HF3.out⟩
        case measure => simp [intOf]; omega
      · have hk1 : (0 : Int) < k := by omega
        have hne : Hid ((l.take k).map exText ≠ []) := by
          intro h; rw [List.map_eq_nil_iff, List.take_eq_nil_iff] at h; rcases h with h | h
          · exact hk0 h
          · rw [h] at hlt; simp at hlt
        have hle2 : Hid (Fits ((bs ++ sepText ((l.take k).map exText)).length + ([44, 32] : Bs).length + (exText e).length)) := HF.out.mono (by have := hle.out; rw [if_neg hne.out] at this; simp at this; simp; omega)
        have hnext : Hid (sepText ((l.take (k + 1)).map exText) = sepText ((l.take k).map exText) ++ [44, 32] ++ exText e) := by show _ = _; rw [hmap.out, sepText_snoc, if_neg hne.out]
        clear hk0
        go_wp2_with fail
        refine (put1 [44, 32] _ _ b _ t _ (by simp) hp1.out (hle2.out.mono (by omega))).mono ?_
        rintro r w2 ⟨rfl, hp2, hf2⟩
        have HP2 := Lib.hid hp2; have HF2 := Lib.hid (hf1.out.trans hf2); have HL2 := Lib.hid (hl1.out.step hf2)
        have HES2 := Lib.hid (HES.out.keep (((PFr.alloc HPK.out _).trans hf2).keeps HPK.out))
        clear hp2 hf2 c0 c1 c2 c3 c4
        have c0 := HL2.out.cell 0 (by simp); have c1 := HL2.out.cell 1 (by simp); have c2 := HL2.out.cell 2 (by simp); have c3 := HL2.out.cell 3 (by simp); have c4 := HL2.out.cell 4 (by simp)
        simp only [List.getElem_cons_zero, List.getElem_cons_succ] at c0 c1 c2 c3 c4
        go_wp2_with fail
        refine (IHX.out b _ t _ _ hb (HT.out.fr HF2.out HP.out hb) HP2.out HES2.out HN.out HWX.out (hle2.out.mono (by simp; omega))).mono ?_
        rintro r w3 ⟨rfl, hp3, hf3⟩
        have HP3 := Lib.hid hp3; have HF3 := Lib.hid (HF2.out.trans hf3)
        clear hp3 hf3 c0 c1 c2 c3 c4
        go_wp2_with fail
        go_roundw
        case rel => exact ⟨k + 1, by omega, by go_num, by have q := HP3.out; rw [hnext.out]; simpa using q, HF3.out⟩
        case measure => simp [intOf]; omega
    · go_wp2_with fail
      go_end0
      exact ⟨rfl, by have e : l.take k = l := List.take_of_length_le (by omega); have q := HPK.out; rwa [e] at q, HFR.out⟩
end Go.Proofs.YtcfpfnoldgnloaaGreatDoor

namespace Go.Proofs.YtcfpfnoldgnloaaGreatDoor
open Go.RowKit
set_option maxHeartbeats 4000000
set_option maxRecDepth 100000

theorem wellOk_parts {e : Ex} (h : wellOk e = true) : wellHere e = true ∧ ∀ x, x ∈ e.args → wellOk x = true := by
  rw [wellOk_eq, Bool.and_eq_true, List.all_eq_true] at h; exact h
theorem levelOf_range (o : Int) : 0 ≤ levelOf o ∧ levelOf o ≤ 8 := by
  unfold levelOf; repeat' split
  all_goals omega
theorem kind_of_well {e : Ex} (h : wellHere e = true) : e.kind = 1 ∨ e.kind = 2 ∨ e.kind = 3 ∨ e.kind = 4 ∨ e.kind = 5 ∨ e.kind = 6 ∨ e.kind = 7 := by
  have hk : onlyOk e = true := by unfold wellHere at h; simp only [Bool.and_eq_true] at h; exact h.1.1.1.1
  unfold onlyOk at hk
  by_cases h1 : e.kind = 1; · simp [h1]
  by_cases h2 : e.kind = 2; · simp [h2]
  by_cases h3 : e.kind = 3; · simp [h3]
  by_cases h4 : e.kind = 4; · simp [h4]
  by_cases h5 : e.kind = 5; · simp [h5]
  by_cases h6 : e.kind = 6; · simp [h6]
  simp [h1, h2, h3, h4, h5, h6] at hk; simp [hk]
end Go.Proofs.YtcfpfnoldgnloaaGreatDoor

namespace Go.Proofs.YtcfpfnoldgnloaaGreatDoor
open Go.RowKit
set_option maxHeartbeats 4000000
set_option maxRecDepth 100000


theorem expr_1 (o n : Int) (nm : Bs) (args : List Ex) (ih : ∀ x, x ∈ args → ExprOf x) : ExprOf (.mk 1 o n nm args) := by
  intro b bs t s w hb ht hp hs hn hw hf
  have hs : ExsAt (· < b) w args s := hs
  have hn : I64 n := hn
  have hwh := (wellOk_parts hw).1
  have hwa : ∀ x, x ∈ args → wellOk x = true := (wellOk_parts hw).2
  obtain ⟨sa, sc, rfl⟩ := hs.shape
  have E : Hid (exText (.mk 1 o n nm args) = Lib.itoa n) := by exact exText_1 o n nm args
  rw [E.out] at hf ⊢
  show Calls _ _ #[.pointer (some ⟨b, 0, none⟩), .agg #[.int .i64 1, .int .i64 o, .int .i64 n, .string (strOf nm), .slice sa args.length sc]] _ _
  have IH := Lib.hid ih; have HT := Lib.hid ht; have HP := Lib.hid hp; have HN := Lib.hid hn; have HF := Lib.hid hf; have HS := Lib.hid hs; have HWA := Lib.hid hwa
  have hp1 := Lib.hid (hp.alloc (.cells #[.int .i64 1, .int .i64 o, .int .i64 n, .string (strOf nm), .slice sa args.length sc] 27))
  have hf1 := Lib.hid (PFr.alloc hp (.cells #[.int .i64 1, .int .i64 o, .int .i64 n, .string (strOf nm), .slice sa args.length sc] 27))
  have hl1 := Lib.hid (Loc.new hp [.int .i64 1, .int .i64 o, .int .i64 n, .string (strOf nm), .slice sa args.length sc] 27)
  clear ih ht hp hs hw hf hn hwh hwa
  go_enter Tryz.func32, Tryz.ntmps32
  go_wp2_with fail
  refine (sign_any o _).mono ?_
  rintro r w2 ⟨rfl, hb2⟩
  have hf2 := PFr.of_below hb2 hp1.out.lt
  have HP2 := Lib.hid (hp1.out.old hb2); have HF2 := Lib.hid (hf1.out.trans hf2); have HL2 := Lib.hid (hl1.out.step hf2)
  clear hb2 hf2 hp1 hf1 hl1
  have c0 := HL2.out.cell 0 (by simp); have c1 := HL2.out.cell 1 (by simp); have c2 := HL2.out.cell 2 (by simp); have c3 := HL2.out.cell 3 (by simp); have c4 := HL2.out.cell 4 (by simp)
  simp only [List.getElem_cons_zero, List.getElem_cons_succ] at c0 c1 c2 c3 c4
  go_wp2_with fail
  refine (itoa_any n HN.out w2 (HT.out.fr HF2.out HP.out hb)).mono ?_
  rintro r w3 ⟨rfl, hb3⟩
  have hf3 := PFr.of_below hb3 HP2.out.lt
  have HP3 := Lib.hid (HP2.out.old hb3); have HF3 := Lib.hid (HF2.out.trans hf3); have HL3 := Lib.hid (HL2.out.step hf3)
  clear hb3 hf3
  go_wp2_with fail
  refine (put1 (Lib.itoa n) _ _ b _ t w3 rfl HP3.out (HF.out.mono (by simp; try omega))).mono ?_
  rintro r w4 ⟨rfl, hp4, hf4⟩
  have HP4 := Lib.hid hp4; have HF4 := Lib.hid (HF3.out.trans hf4); have HL4 := Lib.hid (HL3.out.step hf4)
  clear hp4 hf4 c0 c1 c2 c3 c4
  go_wp2_with fail
  go_end0
  exact ⟨rfl, by simpa using HP4.out, HF4.out⟩

theorem expr_2 (o n : Int) (nm : Bs) (args : List Ex) (ih : ∀ x, x ∈ args → ExprOf x) : ExprOf (.mk 2 o n nm args) := by
  intro b bs t s w hb ht hp hs hn hw hf
  have hs : ExsAt (· < b) w args s := hs
  have hn : I64 n := hn
  have hwh := (wellOk_parts hw).1
  have hwa : ∀ x, x ∈ args → wellOk x = true := (wellOk_parts hw).2
  obtain ⟨sa, sc, rfl⟩ := hs.shape
  have E : Hid (exText (.mk 2 o n nm args) = nm) := by exact exText_2 o n nm args
  rw [E.out] at hf ⊢
  show Calls _ _ #[.pointer (some ⟨b, 0, none⟩), .agg #[.int .i64 2, .int .i64 o, .int .i64 n, .string (strOf nm), .slice sa args.length sc]] _ _
  have IH := Lib.hid ih; have HT := Lib.hid ht; have HP := Lib.hid hp; have HN := Lib.hid hn; have HF := Lib.hid hf; have HS := Lib.hid hs; have HWA := Lib.hid hwa
  have hp1 := Lib.hid (hp.alloc (.cells #[.int .i64 2, .int .i64 o, .int .i64 n, .string (strOf nm), .slice sa args.length sc] 27))
  have hf1 := Lib.hid (PFr.alloc hp (.cells #[.int .i64 2, .int .i64 o, .int .i64 n, .string (strOf nm), .slice sa args.length sc] 27))
  have hl1 := Lib.hid (Loc.new hp [.int .i64 2, .int .i64 o, .int .i64 n, .string (strOf nm), .slice sa args.length sc] 27)
  clear ih ht hp hs hw hf hn hwh hwa
  go_enter Tryz.func32, Tryz.ntmps32
  go_wp2_with fail
  refine (sign_any o _).mono ?_
  rintro r w2 ⟨rfl, hb2⟩
  have hf2 := PFr.of_below hb2 hp1.out.lt
  have HP2 := Lib.hid (hp1.out.old hb2); have HF2 := Lib.hid (hf1.out.trans hf2); have HL2 := Lib.hid (hl1.out.step hf2)
  clear hb2 hf2 hp1 hf1 hl1
  have c0 := HL2.out.cell 0 (by simp); have c1 := HL2.out.cell 1 (by simp); have c2 := HL2.out.cell 2 (by simp); have c3 := HL2.out.cell 3 (by simp); have c4 := HL2.out.cell 4 (by simp)
  simp only [List.getElem_cons_zero, List.getElem_cons_succ] at c0 c1 c2 c3 c4
  go_wp2_with fail
  refine (put1 nm _ _ b _ t w2 rfl HP2.out (HF.out.mono (by simp; try omega))).mono ?_
  rintro r w3 ⟨rfl, hp3, hf3⟩
  have HP3 := Lib.hid hp3; have HF3 := Lib.hid (HF2.out.trans hf3); have HL3 := Lib.hid (HL2.out.step hf3)
  clear hp3 hf3 c0 c1 c2 c3 c4
  go_wp2_with fail
  go_end0
  exact ⟨rfl, by simpa using HP3.out, HF3.out⟩

theorem expr_7 (o n : Int) (nm : Bs) (args : List Ex) (ih : ∀ x, x ∈ args → ExprOf x) : ExprOf (.mk 7 o n nm args) := by
  intro b bs t s w hb ht hp hs hn hw hf
  have hs : ExsAt (· < b) w args s := hs
  have hn : I64 n := hn
  have hwh := (wellOk_parts hw).1
  have hwa : ∀ x, x ∈ args → wellOk x = true := (wellOk_parts hw).2
  obtain ⟨sa, sc, rfl⟩ := hs.shape
  have E : Hid (exText (.mk 7 o n nm args) = [114, 101, 97, 100, 40, 41]) := by exact exText_7 o n nm args
  rw [E.out] at hf ⊢
  show Calls _ _ #[.pointer (some ⟨b, 0, none⟩), .agg #[.int .i64 7, .int .i64 o, .int .i64 n, .string (strOf nm), .slice sa args.length sc]] _ _
  have IH := Lib.hid ih; have HT := Lib.hid ht; have HP := Lib.hid hp; have HN := Lib.hid hn; have HF := Lib.hid hf; have HS := Lib.hid hs; have HWA := Lib.hid hwa
  have hp1 := Lib.hid (hp.alloc (.cells #[.int .i64 7, .int .i64 o, .int .i64 n, .string (strOf nm), .slice sa args.length sc] 27))
  have hf1 := Lib.hid (PFr.alloc hp (.cells #[.int .i64 7, .int .i64 o, .int .i64 n, .string (strOf nm), .slice sa args.length sc] 27))
  have hl1 := Lib.hid (Loc.new hp [.int .i64 7, .int .i64 o, .int .i64 n, .string (strOf nm), .slice sa args.length sc] 27)
  clear ih ht hp hs hw hf hn hwh hwa
  go_enter Tryz.func32, Tryz.ntmps32
  go_wp2_with fail
  refine (sign_any o _).mono ?_
  rintro r w2 ⟨rfl, hb2⟩
  have hf2 := PFr.of_below hb2 hp1.out.lt
  have HP2 := Lib.hid (hp1.out.old hb2); have HF2 := Lib.hid (hf1.out.trans hf2); have HL2 := Lib.hid (hl1.out.step hf2)
  clear hb2 hf2 hp1 hf1 hl1
  have c0 := HL2.out.cell 0 (by simp); have c1 := HL2.out.cell 1 (by simp); have c2 := HL2.out.cell 2 (by simp); have c3 := HL2.out.cell 3 (by simp); have c4 := HL2.out.cell 4 (by simp)
  simp only [List.getElem_cons_zero, List.getElem_cons_succ] at c0 c1 c2 c3 c4
  go_wp2_with fail
  refine (put1 [114, 101, 97, 100, 40, 41] _ _ b _ t w2 rfl HP2.out (HF.out.mono (by simp; try omega))).mono ?_
  rintro r w3 ⟨rfl, hp3, hf3⟩
  have HP3 := Lib.hid hp3; have HF3 := Lib.hid (HF2.out.trans hf3); have HL3 := Lib.hid (HL2.out.step hf3)
  clear hp3 hf3 c0 c1 c2 c3 c4
  go_wp2_with fail
  go_end0
  exact ⟨rfl, by simpa using HP3.out, HF3.out⟩
end Go.Proofs.YtcfpfnoldgnloaaGreatDoor

namespace Go.Proofs.YtcfpfnoldgnloaaGreatDoor
open Go.RowKit
set_option maxHeartbeats 4000000
set_option maxRecDepth 100000


theorem expr_3 (o n : Int) (nm : Bs) (args : List Ex) (ih : ∀ x, x ∈ args → ExprOf x) : ExprOf (.mk 3 o n nm args) := by
  intro b bs t s w hb ht hp hs hn hw hf
  have hs : ExsAt (· < b) w args s := hs
  have hn : I64 n := hn
  have hwh := (wellOk_parts hw).1
  have hwa : ∀ x, x ∈ args → wellOk x = true := (wellOk_parts hw).2
  obtain ⟨sa, sc, rfl⟩ := hs.shape
  have hlen : args.length = 1 := by have q := hwh; simp [wellHere, onlyArgs, Ex.kind, Ex.args] at q; omega
  have hl0 : 0 < args.length := by omega
  obtain ⟨eb, off, _, rfl, _⟩ := hs.cellAt 0 (by omega)
  clear hlen
  have E : Hid (exText (.mk 3 o n nm args) = signOf o ++ partText (exAt args 0) 9) := by exact exText_3 o n nm args hl0
  rw [E.out] at hf ⊢
  show Calls _ _ #[.pointer (some ⟨b, 0, none⟩), .agg #[.int .i64 3, .int .i64 o, .int .i64 n, .string (strOf nm), .slice (some ⟨eb, off, none⟩) args.length sc]] _ _
  have IH := Lib.hid ih; have HT := Lib.hid ht; have HP := Lib.hid hp; have HN := Lib.hid hn; have HF := Lib.hid hf; have HS := Lib.hid hs; have HWA := Lib.hid hwa
  have hp1 := Lib.hid (hp.alloc (.cells #[.int .i64 3, .int .i64 o, .int .i64 n, .string (strOf nm), .slice (some ⟨eb, off, none⟩) args.length sc] 27))
  have hf1 := Lib.hid (PFr.alloc hp (.cells #[.int .i64 3, .int .i64 o, .int .i64 n, .string (strOf nm), .slice (some ⟨eb, off, none⟩) args.length sc] 27))
  have hl1 := Lib.hid (Loc.new hp [.int .i64 3, .int .i64 o, .int .i64 n, .string (strOf nm), .slice (some ⟨eb, off, none⟩) args.length sc] 27)
  clear ih ht hp hs hw hf hn hwh hwa
  go_enter Tryz.func32, Tryz.ntmps32
  go_wp2_with fail
  refine (sign_any o _).mono ?_
  rintro r w2 ⟨rfl, hb2⟩
  have hf2 := PFr.of_below hb2 hp1.out.lt
  have HP2 := Lib.hid (hp1.out.old hb2); have HF2 := Lib.hid (hf1.out.trans hf2); have HL2 := Lib.hid (hl1.out.step hf2)
  clear hb2 hf2 hp1 hf1 hl1
  have c0 := HL2.out.cell 0 (by simp); have c1 := HL2.out.cell 1 (by simp); have c2 := HL2.out.cell 2 (by simp); have c3 := HL2.out.cell 3 (by simp); have c4 := HL2.out.cell 4 (by simp)
  simp only [List.getElem_cons_zero, List.getElem_cons_succ] at c0 c1 c2 c3 c4
  go_wp2_with fail
  refine (put1 (signOf o) _ _ b _ t w2 rfl HP2.out (HF.out.mono (by simp; try omega))).mono ?_
  rintro r w3 ⟨rfl, hp3, hf3⟩
  have HP3 := Lib.hid hp3; have HF3 := Lib.hid (HF2.out.trans hf3); have HL3 := Lib.hid (HL2.out.step hf3)
  clear hp3 hf3 c0 c1 c2 c3 c4
  have c0 := HL3.out.cell 0 (by simp); have c1 := HL3.out.cell 1 (by simp); have c2 := HL3.out.cell 2 (by simp); have c3 := HL3.out.cell 3 (by simp); have c4 := HL3.out.cell 4 (by simp)
  simp only [List.getElem_cons_zero, List.getElem_cons_succ] at c0 c1 c2 c3 c4
  obtain ⟨eb', off', esa, heb, hDa, y0, y1, y2, y3, y4, hesa, hna⟩ := (HS.out.keep (HF3.out.keeps HP.out)).cellAt 0 (by omega)
  obtain ⟨eaa, eca, rfl⟩ := hesa.shape
  obtain ⟨rfl, rfl⟩ : eb = eb' ∧ off = off' := by cases heb; exact ⟨rfl, rfl⟩
  have HESa := Lib.hid hesa; have HNa := Lib.hid hna
  have IHXa := Lib.hid (IH.out _ (exAt_mem (i := 0) (by omega))); have HWXa := Lib.hid (HWA.out _ (exAt_mem (i := 0) (by omega)))
  clear heb hesa hna hDa
  generalize hxa : exAt args 0 = xa at y0 y1 y2 y3 y4 HESa HNa IHXa HWXa
  have HXa := Lib.hid hxa; clear hxa
  have za0 : w3.cell? ⟨eb, off, none⟩ = some (.int .i64 xa.kind) := by simpa using y0
  have za1 : w3.cell? ⟨eb, off + 1, none⟩ = some (.int .i64 xa.op) := by simpa using y1
  have za2 : w3.cell? ⟨eb, off + 2, none⟩ = some (.int .i64 xa.n) := by simpa using y2
  have za3 : w3.cell? ⟨eb, off + 3, none⟩ = some (.string (strOf xa.name)) := by simpa using y3
  have za4 : w3.cell? ⟨eb, off + 4, none⟩ = some (.slice eaa xa.args.length eca) := by simpa using y4
  clear y0 y1 y2 y3 y4
  go_wp2_with fail
  refine (part_any xa IHXa.out 9 b _ t _ w3 hb (HT.out.fr HF3.out HP.out hb) HP3.out HESa.out HNa.out HWXa.out (by have q := HF.out; rw [HXa.out] at q; exact q.mono (by simp; try omega))).mono ?_
  rintro r w4 ⟨rfl, hp4, hf4⟩
  have HP4 := Lib.hid hp4; have HF4 := Lib.hid (HF3.out.trans hf4); have HL4 := Lib.hid (HL3.out.step hf4)
  clear hp4 hf4 c0 c1 c2 c3 c4 za0 za1 za2 za3 za4
  go_wp2_with fail
  go_end0
  exact ⟨rfl, by rw [HXa.out]; simpa using HP4.out, HF4.out⟩
end Go.Proofs.YtcfpfnoldgnloaaGreatDoor

namespace Go.Proofs.YtcfpfnoldgnloaaGreatDoor
open Go.RowKit
set_option maxHeartbeats 4000000
set_option maxRecDepth 100000


theorem expr_4 (o n : Int) (nm : Bs) (args : List Ex) (ih : ∀ x, x ∈ args → ExprOf x) : ExprOf (.mk 4 o n nm args) := by
  intro b bs t s w hb ht hp hs hn hw hf
  have hs : ExsAt (· < b) w args s := hs
  have hn : I64 n := hn
  have hwh := (wellOk_parts hw).1
  have hwa : ∀ x, x ∈ args → wellOk x = true := (wellOk_parts hw).2
  obtain ⟨sa, sc, rfl⟩ := hs.shape
  have hlen : args.length = 2 := by have q := hwh; simp [wellHere, onlyArgs, Ex.kind, Ex.args] at q; omega
  have hl0 : 0 < args.length := by omega
  have hl1' : 1 < args.length := by omega
  obtain ⟨eb, off, _, rfl, _⟩ := hs.cellAt 0 (by omega)
  clear hlen
  have E : Hid (exText (.mk 4 o n nm args) = partText (exAt args 0) (levelOf o) ++ ([32] ++ (signOf o ++ [32])) ++ partText (exAt args 1) (levelOf o + 1)) := by exact exText_4 o n nm args hl1'
  rw [E.out] at hf ⊢
  show Calls _ _ #[.pointer (some ⟨b, 0, none⟩), .agg #[.int .i64 4, .int .i64 o, .int .i64 n, .string (strOf nm), .slice (some ⟨eb, off, none⟩) args.length sc]] _ _
  have IH := Lib.hid ih; have HT := Lib.hid ht; have HP := Lib.hid hp; have HN := Lib.hid hn; have HF := Lib.hid hf; have HS := Lib.hid hs; have HWA := Lib.hid hwa
  have hp1 := Lib.hid (hp.alloc (.cells #[.int .i64 4, .int .i64 o, .int .i64 n, .string (strOf nm), .slice (some ⟨eb, off, none⟩) args.length sc] 27))
  have hf1 := Lib.hid (PFr.alloc hp (.cells #[.int .i64 4, .int .i64 o, .int .i64 n, .string (strOf nm), .slice (some ⟨eb, off, none⟩) args.length sc] 27))
  have hl1 := Lib.hid (Loc.new hp [.int .i64 4, .int .i64 o, .int .i64 n, .string (strOf nm), .slice (some ⟨eb, off, none⟩) args.length sc] 27)
  clear ih ht hp hs hw hf hn hwh hwa
  go_enter Tryz.func32, Tryz.ntmps32
  go_wp2_with fail
  refine (sign_any o _).mono ?_
  rintro r w2 ⟨rfl, hb2⟩
  have hf2 := PFr.of_below hb2 hp1.out.lt
  have HP2 := Lib.hid (hp1.out.old hb2); have HF2 := Lib.hid (hf1.out.trans hf2); have HL2 := Lib.hid (hl1.out.step hf2)
  clear hb2 hf2 hp1 hf1 hl1
  have c0 := HL2.out.cell 0 (by simp); have c1 := HL2.out.cell 1 (by simp); have c2 := HL2.out.cell 2 (by simp); have c3 := HL2.out.cell 3 (by simp); have c4 := HL2.out.cell 4 (by simp)
  simp only [List.getElem_cons_zero, List.getElem_cons_succ] at c0 c1 c2 c3 c4
  have lb := levelOf_range o
  go_wp2_with fail
  refine (level_any o _).mono ?_
  rintro r w3 ⟨rfl, hb3⟩
  have hf3 := PFr.of_below hb3 HP2.out.lt
  have HP3 := Lib.hid (HP2.out.old hb3); have HF3 := Lib.hid (HF2.out.trans hf3); have HL3 := Lib.hid (HL2.out.step hf3)
  clear hb3 hf3 c0 c1 c2 c3 c4
  have c0 := HL3.out.cell 0 (by simp); have c1 := HL3.out.cell 1 (by simp); have c2 := HL3.out.cell 2 (by simp); have c3 := HL3.out.cell 3 (by simp); have c4 := HL3.out.cell 4 (by simp)
  simp only [List.getElem_cons_zero, List.getElem_cons_succ] at c0 c1 c2 c3 c4
  obtain ⟨eb', off', esa, heb, hDa, y0, y1, y2, y3, y4, hesa, hna⟩ := (HS.out.keep (HF3.out.keeps HP.out)).cellAt 0 (by omega)
  obtain ⟨eaa, eca, rfl⟩ := hesa.shape
  obtain ⟨rfl, rfl⟩ : eb = eb' ∧ off = off' := by cases heb; exact ⟨rfl, rfl⟩
  have HESa := Lib.hid hesa; have HNa := Lib.hid hna
  have IHXa := Lib.hid (IH.out _ (exAt_mem (i := 0) (by omega))); have HWXa := Lib.hid (HWA.out _ (exAt_mem (i := 0) (by omega)))
  clear heb hesa hna hDa
  generalize hxa : exAt args 0 = xa at y0 y1 y2 y3 y4 HESa HNa IHXa HWXa
  have HXa := Lib.hid hxa; clear hxa
  have za0 : w3.cell? ⟨eb, off, none⟩ = some (.int .i64 xa.kind) := by simpa using y0
  have za1 : w3.cell? ⟨eb, off + 1, none⟩ = some (.int .i64 xa.op) := by simpa using y1
  have za2 : w3.cell? ⟨eb, off + 2, none⟩ = some (.int .i64 xa.n) := by simpa using y2
  have za3 : w3.cell? ⟨eb, off + 3, none⟩ = some (.string (strOf xa.name)) := by simpa using y3
  have za4 : w3.cell? ⟨eb, off + 4, none⟩ = some (.slice eaa xa.args.length eca) := by simpa using y4
  clear y0 y1 y2 y3 y4
  go_wp2_with fail
  refine (part_any xa IHXa.out (levelOf o) b _ t _ w3 hb (HT.out.fr HF3.out HP.out hb) HP3.out HESa.out HNa.out HWXa.out (by have q := HF.out; rw [HXa.out] at q; exact q.mono (by simp; try omega))).mono ?_
  rintro r w4 ⟨rfl, hp4, hf4⟩
  have HP4 := Lib.hid hp4; have HF4 := Lib.hid (HF3.out.trans hf4); have HL4 := Lib.hid (HL3.out.step hf4)
  clear hp4 hf4 c0 c1 c2 c3 c4 za0 za1 za2 za3 za4
  go_wp2_with fail
  refine (put3 [32] (signOf o) [32] _ _ b _ t w4 rfl HP4.out (by have q := HF.out; rw [HXa.out] at q; exact q.mono (by simp; try omega))).mono ?_
  rintro r w5 ⟨rfl, hp5, hf5⟩
  have HP5 := Lib.hid hp5; have HF5 := Lib.hid (HF4.out.trans hf5); have HL5 := Lib.hid (HL4.out.step hf5)
  clear hp5 hf5
  have c0 := HL5.out.cell 0 (by simp); have c1 := HL5.out.cell 1 (by simp); have c2 := HL5.out.cell 2 (by simp); have c3 := HL5.out.cell 3 (by simp); have c4 := HL5.out.cell 4 (by simp)
  simp only [List.getElem_cons_zero, List.getElem_cons_succ] at c0 c1 c2 c3 c4
  obtain ⟨eb', off', esc, heb, hDc, y0, y1, y2, y3, y4, hesc, hnc⟩ := (HS.out.keep (HF5.out.keeps HP.out)).cellAt 1 (by omega)
  obtain ⟨eac, ecc, rfl⟩ := hesc.shape
  obtain ⟨rfl, rfl⟩ : eb = eb' ∧ off = off' := by cases heb; exact ⟨rfl, rfl⟩
  have HESc := Lib.hid hesc; have HNc := Lib.hid hnc
  have IHXc := Lib.hid (IH.out _ (exAt_mem (i := 1) (by omega))); have HWXc := Lib.hid (HWA.out _ (exAt_mem (i := 1) (by omega)))
  clear heb hesc hnc hDc
  generalize hxc : exAt args 1 = xc at y0 y1 y2 y3 y4 HESc HNc IHXc HWXc
  have HXc := Lib.hid hxc; clear hxc
  have zc0 : w5.cell? ⟨eb, off + 5, none⟩ = some (.int .i64 xc.kind) := by simpa using y0
  have zc1 : w5.cell? ⟨eb, off + 5 + 1, none⟩ = some (.int .i64 xc.op) := by simpa using y1
  have zc2 : w5.cell? ⟨eb, off + 5 + 2, none⟩ = some (.int .i64 xc.n) := by simpa using y2
  have zc3 : w5.cell? ⟨eb, off + 5 + 3, none⟩ = some (.string (strOf xc.name)) := by simpa using y3
  have zc4 : w5.cell? ⟨eb, off + 5 + 4, none⟩ = some (.slice eac xc.args.length ecc) := by simpa using y4
  clear y0 y1 y2 y3 y4
  go_wp2_with fail
  refine (part_any xc IHXc.out (levelOf o + 1) b _ t _ w5 hb (HT.out.fr HF5.out HP.out hb) HP5.out HESc.out HNc.out HWXc.out (by have q := HF.out; rw [HXa.out, HXc.out] at q; exact q.mono (by simp; try omega))).mono ?_
  rintro r w6 ⟨rfl, hp6, hf6⟩
  have HP6 := Lib.hid hp6; have HF6 := Lib.hid (HF5.out.trans hf6); have HL6 := Lib.hid (HL5.out.step hf6)
  clear hp6 hf6 c0 c1 c2 c3 c4 zc0 zc1 zc2 zc3 zc4
  go_wp2_with fail
  go_end0
  exact ⟨rfl, by rw [HXa.out, HXc.out]; simpa using HP6.out, HF6.out⟩
end Go.Proofs.YtcfpfnoldgnloaaGreatDoor

namespace Go.Proofs.YtcfpfnoldgnloaaGreatDoor
open Go.RowKit
set_option maxHeartbeats 4000000
set_option maxRecDepth 100000


theorem expr_5 (o n : Int) (nm : Bs) (args : List Ex) (ih : ∀ x, x ∈ args → ExprOf x) : ExprOf (.mk 5 o n nm args) := by
  intro b bs t s w hb ht hp hs hn hw hf
  have hs : ExsAt (· < b) w args s := hs
  have hn : I64 n := hn
  have hwh := (wellOk_parts hw).1
  have hwa : ∀ x, x ∈ args → wellOk x = true := (wellOk_parts hw).2
  obtain ⟨sa, sc, rfl⟩ := hs.shape
  have E : Hid (exText (.mk 5 o n nm args) = nm ++ [40] ++ sepText (args.map exText) ++ [41]) := by exact exText_5 o n nm args
  rw [E.out] at hf ⊢
  show Calls _ _ #[.pointer (some ⟨b, 0, none⟩), .agg #[.int .i64 5, .int .i64 o, .int .i64 n, .string (strOf nm), .slice sa args.length sc]] _ _
  have IH := Lib.hid ih; have HT := Lib.hid ht; have HP := Lib.hid hp; have HN := Lib.hid hn; have HF := Lib.hid hf; have HS := Lib.hid hs; have HWA := Lib.hid hwa
  have hp1 := Lib.hid (hp.alloc (.cells #[.int .i64 5, .int .i64 o, .int .i64 n, .string (strOf nm), .slice sa args.length sc] 27))
  have hf1 := Lib.hid (PFr.alloc hp (.cells #[.int .i64 5, .int .i64 o, .int .i64 n, .string (strOf nm), .slice sa args.length sc] 27))
  have hl1 := Lib.hid (Loc.new hp [.int .i64 5, .int .i64 o, .int .i64 n, .string (strOf nm), .slice sa args.length sc] 27)
  clear ih ht hp hs hw hf hn hwh hwa
  go_enter Tryz.func32, Tryz.ntmps32
  go_wp2_with fail
  refine (sign_any o _).mono ?_
  rintro r w2 ⟨rfl, hb2⟩
  have hf2 := PFr.of_below hb2 hp1.out.lt
  have HP2 := Lib.hid (hp1.out.old hb2); have HF2 := Lib.hid (hf1.out.trans hf2); have HL2 := Lib.hid (hl1.out.step hf2)
  clear hb2 hf2 hp1 hf1 hl1
  have c0 := HL2.out.cell 0 (by simp); have c1 := HL2.out.cell 1 (by simp); have c2 := HL2.out.cell 2 (by simp); have c3 := HL2.out.cell 3 (by simp); have c4 := HL2.out.cell 4 (by simp)
  simp only [List.getElem_cons_zero, List.getElem_cons_succ] at c0 c1 c2 c3 c4
  go_wp2_with fail
  refine (put2 nm [40] _ _ b _ t w2 rfl HP2.out (HF.out.mono (by simp; try omega))).mono ?_
  rintro r w3 ⟨rfl, hp3, hf3⟩
  have HP3 := Lib.hid hp3; have HF3 := Lib.hid (HF2.out.trans hf3); have HL3 := Lib.hid (HL2.out.step hf3)
  clear hp3 hf3 c0 c1 c2 c3 c4
  have c0 := HL3.out.cell 0 (by simp); have c1 := HL3.out.cell 1 (by simp); have c2 := HL3.out.cell 2 (by simp); have c3 := HL3.out.cell 3 (by simp); have c4 := HL3.out.cell 4 (by simp)
  simp only [List.getElem_cons_zero, List.getElem_cons_succ] at c0 c1 c2 c3 c4
  go_wp2_with fail
  refine (list_any args IH.out b _ t _ w3 hb (HT.out.fr HF3.out HP.out hb) HP3.out (HS.out.keep (HF3.out.keeps HP.out)) HWA.out (HF.out.mono (by simp; try omega))).mono ?_
  rintro r w4 ⟨rfl, hp4, hf4⟩
  have HP4 := Lib.hid hp4; have HF4 := Lib.hid (HF3.out.trans hf4); have HL4 := Lib.hid (HL3.out.step hf4)
  clear hp4 hf4 c0 c1 c2 c3 c4
  go_wp2_with fail
  refine (put1 [41] _ _ b _ t w4 rfl HP4.out (HF.out.mono (by simp; try omega))).mono ?_
  rintro r w5 ⟨rfl, hp5, hf5⟩
  have HP5 := Lib.hid hp5; have HF5 := Lib.hid (HF4.out.trans hf5); have HL5 := Lib.hid (HL4.out.step hf5)
  clear hp5 hf5
  go_wp2_with fail
  go_end0
  exact ⟨rfl, by simpa using HP5.out, HF5.out⟩
end Go.Proofs.YtcfpfnoldgnloaaGreatDoor

namespace Go.Proofs.YtcfpfnoldgnloaaGreatDoor
open Go.RowKit
set_option maxHeartbeats 4000000
set_option maxRecDepth 100000


theorem expr_6 (o n : Int) (nm : Bs) (args : List Ex) (ih : ∀ x, x ∈ args → ExprOf x) : ExprOf (.mk 6 o n nm args) := by
  intro b bs t s w hb ht hp hs hn hw hf
  have hs : ExsAt (· < b) w args s := hs
  have hn : I64 n := hn
  have hwh := (wellOk_parts hw).1
  have hwa : ∀ x, x ∈ args → wellOk x = true := (wellOk_parts hw).2
  obtain ⟨sa, sc, rfl⟩ := hs.shape
  have hlen : args.length = 1 := by have q := hwh; simp [wellHere, onlyArgs, Ex.kind, Ex.args] at q; omega
  have hl0 : 0 < args.length := by omega
  obtain ⟨eb, off, _, rfl, _⟩ := hs.cellAt 0 (by omega)
  clear hlen
  have E : Hid (exText (.mk 6 o n nm args) = nm ++ [91] ++ exText (exAt args 0) ++ [93]) := by exact exText_6 o n nm args hl0
  rw [E.out] at hf ⊢
  show Calls _ _ #[.pointer (some ⟨b, 0, none⟩), .agg #[.int .i64 6, .int .i64 o, .int .i64 n, .string (strOf nm), .slice (some ⟨eb, off, none⟩) args.length sc]] _ _
  have IH := Lib.hid ih; have HT := Lib.hid ht; have HP := Lib.hid hp; have HN := Lib.hid hn; have HF := Lib.hid hf; have HS := Lib.hid hs; have HWA := Lib.hid hwa
  have hp1 := Lib.hid (hp.alloc (.cells #[.int .i64 6, .int .i64 o, .int .i64 n, .string (strOf nm), .slice (some ⟨eb, off, none⟩) args.length sc] 27))
  have hf1 := Lib.hid (PFr.alloc hp (.cells #[.int .i64 6, .int .i64 o, .int .i64 n, .string (strOf nm), .slice (some ⟨eb, off, none⟩) args.length sc] 27))
  have hl1 := Lib.hid (Loc.new hp [.int .i64 6, .int .i64 o, .int .i64 n, .string (strOf nm), .slice (some ⟨eb, off, none⟩) args.length sc] 27)
  clear ih ht hp hs hw hf hn hwh hwa
  go_enter Tryz.func32, Tryz.ntmps32
  go_wp2_with fail
  refine (sign_any o _).mono ?_
  rintro r w2 ⟨rfl, hb2⟩
  have hf2 := PFr.of_below hb2 hp1.out.lt
  have HP2 := Lib.hid (hp1.out.old hb2); have HF2 := Lib.hid (hf1.out.trans hf2); have HL2 := Lib.hid (hl1.out.step hf2)
  clear hb2 hf2 hp1 hf1 hl1
  have c0 := HL2.out.cell 0 (by simp); have c1 := HL2.out.cell 1 (by simp); have c2 := HL2.out.cell 2 (by simp); have c3 := HL2.out.cell 3 (by simp); have c4 := HL2.out.cell 4 (by simp)
  simp only [List.getElem_cons_zero, List.getElem_cons_succ] at c0 c1 c2 c3 c4
  go_wp2_with fail
  refine (put2 nm [91] _ _ b _ t w2 rfl HP2.out (HF.out.mono (by simp; try omega))).mono ?_
  rintro r w3 ⟨rfl, hp3, hf3⟩
  have HP3 := Lib.hid hp3; have HF3 := Lib.hid (HF2.out.trans hf3); have HL3 := Lib.hid (HL2.out.step hf3)
  clear hp3 hf3 c0 c1 c2 c3 c4
  have c0 := HL3.out.cell 0 (by simp); have c1 := HL3.out.cell 1 (by simp); have c2 := HL3.out.cell 2 (by simp); have c3 := HL3.out.cell 3 (by simp); have c4 := HL3.out.cell 4 (by simp)
  simp only [List.getElem_cons_zero, List.getElem_cons_succ] at c0 c1 c2 c3 c4
  obtain ⟨eb', off', esa, heb, hDa, y0, y1, y2, y3, y4, hesa, hna⟩ := (HS.out.keep (HF3.out.keeps HP.out)).cellAt 0 (by omega)
  obtain ⟨eaa, eca, rfl⟩ := hesa.shape
  obtain ⟨rfl, rfl⟩ : eb = eb' ∧ off = off' := by cases heb; exact ⟨rfl, rfl⟩
  have HESa := Lib.hid hesa; have HNa := Lib.hid hna
  have IHXa := Lib.hid (IH.out _ (exAt_mem (i := 0) (by omega))); have HWXa := Lib.hid (HWA.out _ (exAt_mem (i := 0) (by omega)))
  clear heb hesa hna hDa
  generalize hxa : exAt args 0 = xa at y0 y1 y2 y3 y4 HESa HNa IHXa HWXa
  have HXa := Lib.hid hxa; clear hxa
  have za0 : w3.cell? ⟨eb, off, none⟩ = some (.int .i64 xa.kind) := by simpa using y0
  have za1 : w3.cell? ⟨eb, off + 1, none⟩ = some (.int .i64 xa.op) := by simpa using y1
  have za2 : w3.cell? ⟨eb, off + 2, none⟩ = some (.int .i64 xa.n) := by simpa using y2
  have za3 : w3.cell? ⟨eb, off + 3, none⟩ = some (.string (strOf xa.name)) := by simpa using y3
  have za4 : w3.cell? ⟨eb, off + 4, none⟩ = some (.slice eaa xa.args.length eca) := by simpa using y4
  clear y0 y1 y2 y3 y4
  go_wp2_with fail
  refine (IHXa.out b _ t _ w3 hb (HT.out.fr HF3.out HP.out hb) HP3.out HESa.out HNa.out HWXa.out (by have q := HF.out; rw [HXa.out] at q; exact q.mono (by simp; try omega))).mono ?_
  rintro r w4 ⟨rfl, hp4, hf4⟩
  have HP4 := Lib.hid hp4; have HF4 := Lib.hid (HF3.out.trans hf4); have HL4 := Lib.hid (HL3.out.step hf4)
  clear hp4 hf4 c0 c1 c2 c3 c4 za0 za1 za2 za3 za4
  go_wp2_with fail
  refine (put1 [93] _ _ b _ t w4 rfl HP4.out (by have q := HF.out; rw [HXa.out] at q; exact q.mono (by simp; try omega))).mono ?_
  rintro r w5 ⟨rfl, hp5, hf5⟩
  have HP5 := Lib.hid hp5; have HF5 := Lib.hid (HF4.out.trans hf5); have HL5 := Lib.hid (HL4.out.step hf5)
  clear hp5 hf5
  go_wp2_with fail
  go_end0
  exact ⟨rfl, by rw [HXa.out]; simpa using HP5.out, HF5.out⟩
end Go.Proofs.YtcfpfnoldgnloaaGreatDoor

namespace Go.Proofs.YtcfpfnoldgnloaaGreatDoor
open Go.RowKit
set_option maxHeartbeats 4000000
set_option maxRecDepth 100000


theorem expr_step (e : Ex) (ih : ∀ x, x ∈ e.args → ExprOf x) : ExprOf e := by
  intro b bs t s w hb ht hp hs hn hw hf
  have hk := kind_of_well (wellOk_parts hw).1
  obtain ⟨k, o, n, nm, args⟩ := e
  simp only [Ex.kind] at hk
  rcases hk with rfl | rfl | rfl | rfl | rfl | rfl | rfl
  · exact expr_1 o n nm args ih b bs t s w hb ht hp hs hn hw hf
  · exact expr_2 o n nm args ih b bs t s w hb ht hp hs hn hw hf
  · exact expr_3 o n nm args ih b bs t s w hb ht hp hs hn hw hf
  · exact expr_4 o n nm args ih b bs t s w hb ht hp hs hn hw hf
  · exact expr_5 o n nm args ih b bs t s w hb ht hp hs hn hw hf
  · exact expr_6 o n nm args ih b bs t s w hb ht hp hs hn hw hf
  · exact expr_7 o n nm args ih b bs t s w hb ht hp hs hn hw hf
theorem expr_any : ∀ (n : Nat) (e : Ex), SizeOf.sizeOf e ≤ n → ExprOf e
  | 0, e, h => by cases e; simp at h
  | n + 1, e, h => expr_step e fun x hx => expr_any n x (by have := Ex.size_lt hx; omega)
end Go.Proofs.YtcfpfnoldgnloaaGreatDoor
