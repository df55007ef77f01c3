/-
  list of texts, function, String: a function's lines. Conditions: names and statements may be; the text takes at most 2^47 bytes; the library's table of powers is there.
  function: a function's lines. Conditions: names and statements may be; the text takes at most 2^47 bytes; the library's table of powers is there.
  String and PrintExpr: the text that the printer holds; an expression's text. Conditions: the text takes at most 2^47 bytes; the library's table of powers is there.
  Print: a program's text. Conditions: the text takes at most 2^47 bytes; the library's table of powers is there.
-/
import Derived.Test.YtgmaeflfiooigaaGreatDoorTreeE
import Derived.Shelf.RegionOpenPlain
import Derived.Laws.IdiomCopy
import Derived.Laws.BitsLemmas
set_option linter.unusedVariables false
set_option linter.unusedSimpArgs false
namespace Go.Proofs.YtgmaeflfiooigaaGreatDoor
open Go.RowKit
set_option maxHeartbeats 4000000
set_option maxRecDepth 100000

def intP (p : Bs) : Bs := [105, 110, 116, 32] ++ p
theorem strsAt_at {D : Nat → Prop} {w : World} {l : List Bs} {a : Option Addr} {n cap : Nat} (h : StrsAt D w l (.slice a n cap)) (i : Nat) (hl : i < l.length) : ∃ b off, a = some ⟨b, off, none⟩ ∧ D b ∧ b < w.heap.size ∧ w.cell? ⟨b, off + i, none⟩ = some (.string (strOf (l.getD i []))) := by
  obtain ⟨a', cap', b, off, hv, h1, h2, h3, h4⟩ := h
  cases hv
  rcases h3 with h3 | ⟨h3, hD⟩
  · omega
  · exact ⟨b, off, h3, hD, World.block_lt_of_cell? _ _ (h4 i hl), h4 i hl⟩
theorem StrsAt.shape {D : Nat → Prop} {w : World} {l : List Bs} {v : Value} (h : StrsAt D w l v) : ∃ a cap, v = .slice a l.length cap := by
  obtain ⟨a', cap', b, off, hv, _⟩ := h; exact ⟨_, _, hv⟩
theorem StrsAt.fits {D : Nat → Prop} {w : World} {l : List Bs} {v : Value} (h : StrsAt D w l v) : Fits l.length := by
  obtain ⟨a', cap', b, off, hv, h1, h2, _⟩ := h; exact h2
theorem map_takeS (f : Bs → Bs) (l : List Bs) (k : Nat) (h : k < l.length) : (l.take (k + 1)).map f = (l.take k).map f ++ [f (l.getD k [])] := by
  rw [List.take_succ_eq_append_getElem h, List.map_append, List.map_cons, List.map_nil]; simp [List.getElem?_eq_getElem h]

/-- function$1: a parameter. -/
theorem param_fn (p : Bs) (X b : Nat) (bs : Bs) (t : Int) (w : World) (hc : w.cell? ⟨X, 0, none⟩ = some (.pointer (some ⟨b, 0, none⟩))) (hp : PrtAt w b bs t) (hf : Fits (bs.length + (intP p).length)) :
    Calls Tryz.prog 77 #[.string (strOf p), .pointer (some ⟨X, 0, none⟩)] w (Puts w b bs t (intP p)) := by
  have HP := Lib.hid hp; have HF := Lib.hid hf
  clear hp hf
  go_enter Tryz.func77, Tryz.ntmps77
  go_wp2_with fail
  refine (put2 [105, 110, 116, 32] p _ _ b bs t _ (by simp) HP.out HF.out).mono ?_
  rintro r w1 ⟨rfl, hp1, hf1⟩
  have HP1 := Lib.hid hp1; have HF1 := Lib.hid hf1
  clear hp1 hf1
  go_wp2_with fail
  go_end0
  exact ⟨rfl, HP1.out, HF1.out⟩

theorem listS_any (l : List Bs) (X b : Nat) (bs : Bs) (t : Int) (s : Value) (w : World) (hX : Loc w b X [.pointer (some ⟨b, 0, none⟩)]) (hp : PrtAt w b bs t) (hs : StrsAt (· < b) w l s) (hf : Fits (bs.length + (sepText (l.map intP)).length)) :
    Calls Tryz.prog 76 #[.pointer (some ⟨b, 0, none⟩), s, .func (.func 77) #[] #[.pointer (some ⟨X, 0, none⟩)]] w (Puts w b bs t (sepText (l.map intP))) := by
  have HX := Lib.hid hX; have HP := Lib.hid hp; have HF := Lib.hid hf
  obtain ⟨sa, sc, rfl⟩ := hs.shape
  have hl63 := hs.fits.lt
  have HS := Lib.hid hs
  clear hX hs hf hp
  go_enter Tryz.func76, Tryz.ntmps76
  go_wp2_with fail
  go_loopw [6, 7, 10] (fun _ _ s10 wr => ∃ k : Nat, k ≤ l.length ∧ s10 = .int .i64 k ∧ PrtAt wr b (bs ++ sepText ((l.take k).map intP)) t ∧ PFr b w wr) (fun _ _ s10 _ => l.length - (intOf s10).toNat)
  case atStart => exact ⟨0, Nat.zero_le _, rfl, by simpa [sepText] using HP.out, PFr.refl _ _⟩
  case round =>
    obtain ⟨k, hk, rfl, hpk, hfr⟩ := hrel
    have HPK := Lib.hid hpk; have HFR := Lib.hid hfr
    have hbl := hpk.lt
    have HXK := Lib.hid (HX.out.step hfr)
    clear hpk hfr
    by_cases hlt : k < l.length
    · obtain ⟨eb, off, rfl, hD, hebl, c⟩ := strsAt_at (StrsAt.keep (HFR.out.keeps HP.out) HS.out) k hlt
      have hmap := Lib.hid (map_takeS intP l k hlt)
      have hle := Lib.hid (sepText_take_le (l.map intP) (k + 1))
      rw [← List.map_take, hmap.out, sepText_snoc] at hle
      clear hD
      generalize l.getD k [] = e at c hmap hle
      have cX := HXK.out.cell 0 (by simp)
      simp only [List.getElem_cons_zero] at cX
      by_cases hk0 : k = 0
      · have hk0' : (k : Int) ≤ 0 := by omega
        have hnil : (l.take k).map intP = [] := by rw [hk0]; simp
        rw [if_pos hnil] at hle
        have HNIL := Lib.hid hnil
        have hle' : Hid (Fits ((bs ++ sepText ((l.take k).map intP)).length + (intP e).length)) := HF.out.mono (by have := hle.out; rw [HNIL.out]; simp [sepText]; exact this)
        have hnext : Hid (sepText ((l.take (k + 1)).map intP) = sepText ((l.take k).map intP) ++ intP e) := by show _ = _; rw [hmap.out, HNIL.out]; simp [sepText]
        clear hk0 hnil
        have CX := Lib.hid cX; clear cX
        go_wp2_with fail
        refine (param_fn e X b _ t _ CX.out HPK.out hle'.out).mono ?_
        rintro r w3 ⟨rfl, hp3, hf3⟩
        have HP3 := Lib.hid hp3; have HF3 := Lib.hid (HFR.out.trans hf3)
        clear hp3 hf3 c
        go_wp2_with fail
        go_roundw
        case rel => exact ⟨k + 1, by omega, by go_num, by have q := HP3.out; rw [hnext.out]; simpa using q, HF3.out⟩
        case measure => simp [intOf]; omega
      · have hk1 : (0 : Int) < k := by omega
        have hne : Hid ((l.take k).map intP ≠ []) := by
          intro h; rw [List.map_eq_nil_iff, List.take_eq_nil_iff] at h; rcases h with h | h
          · exact hk0 h
          · rw [h] at hlt; simp at hlt
        have hle2 : Hid (Fits ((bs ++ sepText ((l.take k).map intP)).length + ([44, 32] : Bs).length + (intP e).length)) := HF.out.mono (by have := hle.out; rw [if_neg hne.out] at this; simp at this; simp; omega)
        have hnext : Hid (sepText ((l.take (k + 1)).map intP) = sepText ((l.take k).map intP) ++ [44, 32] ++ intP e) := by show _ = _; rw [hmap.out, sepText_snoc, if_neg hne.out]
        clear hk0 cX
        go_wp2_with fail
        refine (put1 [44, 32] _ _ b _ t _ rfl HPK.out (hle2.out.mono (by omega))).mono ?_
        rintro r w2 ⟨rfl, hp2, hf2⟩
        have HP2 := Lib.hid hp2; have HF2 := Lib.hid (HFR.out.trans hf2); have HX2 := Lib.hid (HXK.out.step hf2)
        clear hp2 hf2 c
        have cX := HX2.out.cell 0 (by simp)
        simp only [List.getElem_cons_zero] at cX
        have CX := Lib.hid cX; clear cX
        go_wp2_with fail
        refine (param_fn e X b _ t _ CX.out HP2.out (hle2.out.mono (by simp; omega))).mono ?_
        rintro r w3 ⟨rfl, hp3, hf3⟩
        have HP3 := Lib.hid hp3; have HF3 := Lib.hid (HF2.out.trans hf3)
        clear hp3 hf3
        go_wp2_with fail
        go_roundw
        case rel => exact ⟨k + 1, by omega, by go_num, by have q := HP3.out; rw [hnext.out]; simpa using q, HF3.out⟩
        case measure => simp [intOf]; omega
    · go_wp2_with fail
      go_end0
      exact ⟨rfl, by have e : l.take k = l := List.take_of_length_le (by omega); have q := HPK.out; rwa [e] at q, HFR.out⟩
end Go.Proofs.YtgmaeflfiooigaaGreatDoor

namespace Go.Proofs.YtgmaeflfiooigaaGreatDoor
open Go.RowKit
set_option maxHeartbeats 4000000
set_option maxRecDepth 100000

def locText (l : List Bs) : Bs := l.flatMap fun x => ln 1 [[105, 110, 116, 32], x, [59]]
def fuText (f : Fu) : Bs := [105, 110, 116, 32] ++ (f.name ++ [40]) ++ (sepText (f.params.map intP) ++ ([41, 32, 123, 10] ++ (locText f.locals ++ (stsText 1 f.body ++ ln 0 [[125]]))))
theorem locText_take (l : List Bs) (k : Nat) (h : k < l.length) : locText (l.take (k + 1)) = locText (l.take k) ++ ln 1 [[105, 110, 116, 32], l.getD k [], [59]] := by
  unfold locText; rw [List.take_succ_eq_append_getElem h, List.flatMap_append]; simp [List.getElem?_eq_getElem h]
theorem locText_take_le (l : List Bs) (k : Nat) : (locText (l.take k)).length ≤ (locText l).length := by
  have e : locText l = locText (l.take k) ++ locText (l.drop k) := by unfold locText; rw [← List.flatMap_append, List.take_append_drop]
  rw [e]; simp
abbrev fuV (f : Fu) (p l bd : Value) : Value := .agg #[.string (strOf f.name), p, l, bd]
/-- A row that is known of a block stays where blocks are kept. -/
theorem Loc.alloc {w : World} {b X : Nat} {cs : List Value} {bs : Bs} {t : Int} (h : Loc w b X cs) (hp : PrtAt w b bs t) (o : Obj) : Loc (w.alloc o) b X cs := h.step (PFr.alloc hp o)

theorem function_any (f : Fu) (b : Nat) (bs : Bs) (pv lv bv : Value) (w : World) (hb : 3 < b) (ht : TabOk w) (hp : PrtAt w b bs 0) (hps : StrsAt (· < b) w f.params pv) (hls : StrsAt (· < b) w f.locals lv) (hbs : StsAt (· < b) w f.body bv)
    (hok : f.body.all (stOk 40) = true) (hf : Fits (bs.length + (fuText f).length)) :
    Calls Tryz.prog 40 #[.pointer (some ⟨b, 0, none⟩), fuV f pv lv bv] w (Puts w b bs 0 (fuText f)) := by
  obtain ⟨nm, ps, ls, bd⟩ := f
  obtain ⟨pa, pc, rfl⟩ := hps.shape
  obtain ⟨la, lc, rfl⟩ := hls.shape
  obtain ⟨ba, bc, rfl⟩ := hbs.shape
  have hl63 := hls.fits.lt
  unfold fuText at hf ⊢
  unfold fuV
  dsimp only at *
  have q1 := hp.alloc (.cells #[.pointer (some ⟨b, 0, none⟩)] 77)
  have r1 := PFr.alloc hp (.cells #[.pointer (some ⟨b, 0, none⟩)] 77)
  have l1 := Loc.new hp [.pointer (some ⟨b, 0, none⟩)] 77
  have HP1 := Lib.hid (q1.alloc (.cells #[.string (strOf nm), .slice pa ps.length pc, .slice la ls.length lc, .slice ba bd.length bc] 52))
  have HF1 := Lib.hid (r1.trans (PFr.alloc q1 (.cells #[.string (strOf nm), .slice pa ps.length pc, .slice la ls.length lc, .slice ba bd.length bc] 52)))
  have HA1 := Lib.hid (l1.alloc q1 (.cells #[.string (strOf nm), .slice pa ps.length pc, .slice la ls.length lc, .slice ba bd.length bc] 52))
  have HB1 := Lib.hid (Loc.new q1 [.string (strOf nm), .slice pa ps.length pc, .slice la ls.length lc, .slice ba bd.length bc] 52)
  have hz : (w.alloc (.cells #[.pointer (some ⟨b, 0, none⟩)] 77)).heap.size = w.heap.size + 1 := by simp
  rw [hz] at HB1
  have HT := Lib.hid ht; have HP := Lib.hid hp; have HPS := Lib.hid hps; have HLS := Lib.hid hls; have HBS := Lib.hid hbs; have HO := Lib.hid hok; have HF := Lib.hid hf
  clear ht hp hps hls hbs hok hf q1 r1 l1 hz
  go_enter Tryz.func40, Tryz.ntmps40
  go_wp2_with fail
  have hW0 : w.heap.size + 1 + 1 = ((w.alloc (.cells #[.pointer (some ⟨b, 0, none⟩)] 77)).alloc (.cells #[.string (strOf nm), .slice pa ps.length pc, .slice la ls.length lc, .slice ba bd.length bc] 52)).heap.size := by simp
  generalize hX1 : w.heap.size + 1 = X1 at *
  clear hX1
  generalize w.heap.size = X0 at *
  generalize (w.alloc (.cells #[.pointer (some ⟨b, 0, none⟩)] 77)).alloc (.cells #[.string (strOf nm), .slice pa ps.length pc, .slice la ls.length lc, .slice ba bd.length bc] 52) = W1 at *
  refine (put3 [105, 110, 116, 32] nm [40] _ _ b bs 0 W1 hW0 HP1.out HF.out.left).mono ?_
  clear hW0
  rintro r w2 ⟨rfl, hp2, hf2⟩
  have HP2 := Lib.hid hp2; have HF2 := Lib.hid (HF1.out.trans hf2); have HA2 := Lib.hid (HA1.out.step hf2); have HB2 := Lib.hid (HB1.out.step hf2)
  clear hp2 hf2
  have cA := HA2.out.cell 0 (by simp)
  have c1 := HB2.out.cell 1 (by simp)
  simp only [List.getElem_cons_zero, List.getElem_cons_succ] at cA c1
  go_wp2_with fail
  refine (listS_any ps X0 b _ 0 _ _ HA2.out HP2.out (StrsAt.keep (HF2.out.keeps HP.out) HPS.out) HF.out.right.left).mono ?_
  rintro r w3 ⟨rfl, hp3, hf3⟩
  have HP3 := Lib.hid hp3; have HF3 := Lib.hid (HF2.out.trans hf3); have HA3 := Lib.hid (HA2.out.step hf3); have HB3 := Lib.hid (HB2.out.step hf3)
  clear hp3 hf3 cA c1
  have cA := HA3.out.cell 0 (by simp)
  have c1 := HB3.out.cell 1 (by simp)
  simp only [List.getElem_cons_zero, List.getElem_cons_succ] at cA c1
  go_wp2_with fail
  refine (put1 [41, 32, 123, 10] _ _ b _ 0 w3 rfl HP3.out HF.out.right.right.left).mono ?_
  rintro r w4 ⟨rfl, hp4, hf4⟩
  have HP4 := Lib.hid hp4; have HF4 := Lib.hid (HF3.out.trans hf4); have HA4 := Lib.hid (HA3.out.step hf4); have HB4 := Lib.hid (HB3.out.step hf4)
  clear hp4 hf4 cA c1
  have cA := HA4.out.cell 0 (by simp)
  have c2 := HB4.out.cell 2 (by simp)
  simp only [List.getElem_cons_zero, List.getElem_cons_succ] at cA c2
  have cT := HP4.out.tab
  have fz := HP4.out.frozen
  have hset := HP4.out.set 1
  have HP5 := Lib.hid hset.1; have HF5 := Lib.hid (HF4.out.trans hset.2); have HA5 := Lib.hid (HA4.out.step hset.2); have HB5 := Lib.hid (HB4.out.step hset.2)
  clear hset
  have c2' := HB5.out.cell 2 (by simp)
  simp only [List.getElem_cons_zero, List.getElem_cons_succ] at c2'
  go_wp2_with fail
  go_loopw [5, 25] (fun _ s25 wr => ∃ k : Nat, k ≤ ls.length ∧ s25 = .int .i64 k ∧ PrtAt wr b ((bs ++ ([105, 110, 116, 32] ++ (nm ++ [40])) ++ sepText (ps.map intP) ++ [41, 32, 123, 10]) ++ locText (ls.take k)) 1 ∧ PFr b w wr ∧ Loc wr b X0 [.pointer (some ⟨b, 0, none⟩)] ∧ Loc wr b X1 [.string (strOf nm), .slice pa ps.length pc, .slice la ls.length lc, .slice ba bd.length bc]) (fun _ s25 _ => ls.length - (intOf s25).toNat)
  case atStart => exact ⟨0, Nat.zero_le _, rfl, by simpa [locText] using HP5.out, HF5.out, HA5.out, HB5.out⟩
  case round =>
    clear cT fz cA c2 c2'
    obtain ⟨k, hk, rfl, hpk, hfr, hA, hB⟩ := hrel
    have HPK := Lib.hid hpk; have HFK := Lib.hid hfr; have HAK := Lib.hid hA; have HBK := Lib.hid hB
    clear hpk hfr hA hB
    by_cases hlt : k < ls.length
    · obtain ⟨eb, off, rfl, hD, hebl, c⟩ := strsAt_at (StrsAt.keep (HFK.out.keeps HP.out) HLS.out) k hlt
      have hnext := Lib.hid (locText_take ls k hlt)
      have hfit : Hid (Fits (((bs ++ ([105, 110, 116, 32] ++ (nm ++ [40])) ++ sepText (ps.map intP) ++ [41, 32, 123, 10]) ++ locText (ls.take k)).length + (ln 1 [[105, 110, 116, 32], ls.getD k [], [59]]).length)) := by
        refine HF.out.right.right.right.left.mono ?_
        have e := locText_take_le ls (k + 1)
        rw [hnext.out, List.length_append] at e; simp only [List.length_append] at e ⊢; omega
      clear hD
      generalize ls.getD k [] = x at *
      have cA := HAK.out.cell 0 (by simp)
      simp only [List.getElem_cons_zero, List.getElem_cons_succ] at cA
      go_wp2_with fail
      refine (line_ln [.s [105, 110, 116, 32], .s x, .s [59]] _ _ b _ 1 _ (by simp) hb (HT.out.fr HFK.out HP.out hb) HPK.out (.s (.s (.s .nil))) (by omega) hfit.out (by simp)).mono ?_
      rintro r w7 ⟨rfl, hp7, hf7⟩
      have HP7 := Lib.hid hp7; have HF7 := Lib.hid (HFK.out.trans hf7); have HA7 := Lib.hid (HAK.out.step hf7); have HB7 := Lib.hid (HBK.out.step hf7)
      clear hp7 hf7 c cA
      go_wp2_with fail
      go_roundw
      case rel => exact ⟨k + 1, by omega, by go_num, by rw [hnext.out, ← List.append_assoc]; exact HP7.out, HF7.out, HA7.out, HB7.out⟩
      case measure => simp [intOf]; omega
    · have e : ls.take k = ls := List.take_of_length_le (by omega)
      rw [e] at HPK
      clear e
      have cA := HAK.out.cell 0 (by simp)
      have c3 := HBK.out.cell 3 (by simp)
      simp only [List.getElem_cons_zero, List.getElem_cons_succ] at cA c3
      have cT := HPK.out.tab
      have fz := HPK.out.frozen
      have hset := HPK.out.set 0
      have HP8 := Lib.hid hset.1; have HF8 := Lib.hid (HFK.out.trans hset.2); have HA8 := Lib.hid (HAK.out.step hset.2); have HB8 := Lib.hid (HBK.out.step hset.2)
      clear hset
      go_wp2_with fail
      refine ((pst_all 40).2 bd HO.out b _ 0 _ _ hb (HT.out.fr HF8.out HP.out hb) HP8.out (HBS.out.keep (HF8.out.keeps HP.out)) (by omega) HF.out.right.right.right.right.left).mono ?_
      rintro r w9 ⟨rfl, hp9, hf9⟩
      have HP9 := Lib.hid hp9; have HF9 := Lib.hid (HF8.out.trans hf9); have HA9 := Lib.hid (HA8.out.step hf9); have HB9 := Lib.hid (HB8.out.step hf9)
      clear hp9 hf9 cA c3 cT fz
      have cA := HA9.out.cell 0 (by simp)
      simp only [List.getElem_cons_zero, List.getElem_cons_succ] at cA
      go_wp2_with fail
      refine (line_ln [.s [125]] _ _ b _ 0 _ (by simp) hb (HT.out.fr HF9.out HP.out hb) HP9.out (.s .nil) (by omega) HF.out.right.right.right.right.right (by simp)).mono ?_
      rintro r w10 ⟨rfl, hp10, hf10⟩
      have HP10 := Lib.hid hp10; have HF10 := Lib.hid (HF9.out.trans hf10); have HA10 := Lib.hid (HA9.out.step hf10); have HB10 := Lib.hid (HB9.out.step hf10)
      clear hp10 hf10
      go_wp2_with fail
      go_end0
      exact ⟨rfl, by simpa [It.text] using HP10.out, HF10.out⟩
end Go.Proofs.YtgmaeflfiooigaaGreatDoor

namespace Go.Proofs.YtgmaeflfiooigaaGreatDoor
open Go.RowKit
set_option maxHeartbeats 4000000
set_option maxRecDepth 100000

theorem cellsByte : Tryz.prog.cellsOf 5 = 1 := by kernel_rfl
/-- String. -/
theorem string_any (b : Nat) (bs : Bs) (t : Int) (w : World) (hp : PrtAt w b bs t) (h0 : bs ≠ []) :
    Calls Tryz.prog 41 #[.pointer (some ⟨b, 0, none⟩)] w fun e w' => e = .returned (.string (strOf bs)) ∧ Below b w w' := by
  obtain ⟨p, v, hbk, hq, hown⟩ := hp
  have hl0 : bs.length ≠ 0 := by simpa using h0
  obtain ⟨g, cap, cur, rfl, hbg, hg, hnc, hcm, hcs, htake⟩ : ∃ g cap cur, v = .slice (some ⟨g, 0, none⟩) bs.length cap ∧ b + 1 ≤ g ∧ w.heap[g]? = some (.cells cur 5 (0, 0)) ∧ bs.length ≤ cap ∧ cap ≤ maxLen ∧ cur.size = cap * 1 ∧ cur.toList.take (bs.length * 1) = Lib.byteCells bs := by
    rcases hown.2 with ⟨_, hz⟩ | ⟨g, cap, cur, hv, r⟩
    · exact absurd hz hl0
    · exact ⟨g, cap, cur, hv, r⟩
  have c1 : w.drew.cell? ⟨b, 1, none⟩ = some (.slice (some ⟨g, 0, none⟩) bs.length cap) := by
    have : w.drew.heap[b]? = some (.cells #[p, .slice (some ⟨g, 0, none⟩) bs.length cap, .int .i64 t] 83 (0, 0)) := hbk
    rw [Lib.cell_of_heap this]; rfl
  have hSD : (Builtin.unsafeSliceData_ #[79] 120 #[.slice (some ⟨g, 0, none⟩) bs.length cap]).run Tryz.prog w.drew = .ok (.pointer (some ⟨g, 0, none⟩)) w.drew :=
    Lib.run_unsafeSliceData_row _ _ _ _ _ _ (by omega)
  have hUS : (Builtin.unsafeString_ #[120, 3] 9 #[.pointer (some ⟨g, 0, none⟩), .int .i64 bs.length]).run Tryz.prog w.drew = .ok (.string (strOf bs)) (w.drew.freeze ⟨g, 0, none⟩ bs.length) := by
    refine Lib.run_unsafeString_row w.drew 120 3 9 5 Tryz.underlying120 cellsByte g cur.size (by have hg' : w.drew.heap[g]? = some (.cells cur 5 (0, 0)) := hg; simp [World.shape?, hg']) bs h0 (by omega) (by unfold maxLen at hcm; omega) ?_
    intro j x hx
    have := hown.cells (g := g) rfl j (.int .u8 x.toNat) (by simp [Lib.byteCells, hx])
    exact this
  have HG : Hid (b ≤ g) := by show _ ≤ _; omega
  clear hbk hown hg hcs htake hcm hnc h0 hl0 hbg hq
  have mixed : Tryz.prog.follows .mixedOrders = true := by kernel_rfl
  go_enter Tryz.func41, Tryz.ntmps41
  go_wp2
  go_region_o
  all_goals (go_wp2; go_ret; exact ⟨rfl, Lib.below_freeze (Below.drew (Below.refl b w)) (p := ⟨g, 0, none⟩) HG.out _⟩)

/-- A new printer. -/
theorem PrtAt.new (w : World) : PrtAt (w.alloc (.cells #[.pointer none, .slice none 0 0, .int .i64 0] 83)) w.heap.size [] 0 := by
  refine ⟨.pointer none, .slice none 0 0, Array.getElem?_push_size, .inl rfl, rfl, .inl ⟨rfl, rfl⟩⟩
theorem itoa_ne (n : Int) : Lib.itoa n ≠ [] := by
  unfold Lib.itoa
  split
  · simp
  · intro h
    have h1 := Lib.decDigits_length n.toNat
    rw [h] at h1
    have := Lib.nDigits_pos n.toNat
    simp at h1; omega
theorem exText_ne {e : Ex} (h : wellOk e = true) : exText e ≠ [] := by
  have hk := kind_of_well (wellOk_parts h).1
  have hw := (wellOk_parts h).1
  obtain ⟨k, o, n, nm, args⟩ := e
  simp only [Ex.kind] at hk
  rcases hk with rfl | rfl | rfl | rfl | rfl | rfl | rfl
  · rw [exText_1]; exact itoa_ne n
  · rw [exText_2]; intro h; subst h; simp [wellHere, onlyOk, Ex.kind, Ex.name, isName] at hw
  · have hl : 0 < args.length := by simp [wellHere, onlyArgs, Ex.kind, Ex.args] at hw; omega
    rw [exText_3 o n nm args hl]
    have h0 : onlyOk (.mk 3 o n nm args) = true := by unfold wellHere at hw; simp only [Bool.and_eq_true] at hw; exact hw.1.1.1.1
    have h1 : decide (o = 17 ∨ o = 18 ∨ o = 19) = true := h0
    have h2 : o = 17 ∨ o = 18 ∨ o = 19 := of_decide_eq_true h1
    rcases h2 with rfl | rfl | rfl <;> simp [signOf]
  · have hl : 1 < args.length := by simp [wellHere, onlyArgs, Ex.kind, Ex.args] at hw; omega
    rw [exText_4 o n nm args hl]; simp
  · rw [exText_5]; simp
  · have hl : 0 < args.length := by simp [wellHere, onlyArgs, Ex.kind, Ex.args] at hw; omega
    rw [exText_6 o n nm args hl]; simp
  · rw [exText_7]; simp

theorem printExpr_good (e : Ex) (s : Value) (w : World) (hb : 3 < w.heap.size) (ht : TabOk w) (hs : ExsAt (· < w.heap.size) w e.args s) (hn : I64 e.n) (hr : rightEx e = true) (hf : Fits (exText e).length) :
    Calls Tryz.prog 23 #[exV e s] w fun r w' => r = .returned (.tuple #[.string (strOf (exText e)), .int .i64 0]) ∧ Below w.heap.size w w' := by
  obtain ⟨sa, sc, rfl⟩ := hs.shape
  have hw : wellOk e = true := by unfold rightEx at hr; exact ((Bool.and_eq_true _ _).mp hr).2
  have hb1 : Below w.heap.size w (w.alloc (.cells #[.int .i64 e.kind, .int .i64 e.op, .int .i64 e.n, .string (strOf e.name), .slice sa e.args.length sc] 31)) := (Below.refl _ _).alloc (Nat.le_refl _) _
  have HB1 := Lib.hid hb1; have HT := Lib.hid ht; have HS := Lib.hid hs; have HN := Lib.hid hn; have HR := Lib.hid hr; have HF := Lib.hid hf; have HW := Lib.hid hw; have HG := Lib.hid hb
  clear hb1 ht hs hn hr hf hw hb
  go_enter Tryz.func23, Tryz.ntmps23
  go_wp2_with fail
  refine (rightExpr_any e (· < w.heap.size) _ _ (HS.out.old HB1.out)).mono ?_
  rintro r w1 ⟨rfl, hb1⟩
  rw [HR.out]
  have hz : w.heap.size < w1.heap.size := by have := hb1.size; simp at this; omega
  have HB2 := Lib.hid (HB1.out.trans (hb1.mono (by simp)))
  have c0 : w1.cell? ⟨w.heap.size, 0, none⟩ = some (.int .i64 e.kind) := below_keeps hb1 (by simp)
  have c1 : w1.cell? ⟨w.heap.size, 1, none⟩ = some (.int .i64 e.op) := below_keeps hb1 (by simp)
  have c2 : w1.cell? ⟨w.heap.size, 2, none⟩ = some (.int .i64 e.n) := below_keeps hb1 (by simp)
  have c3 : w1.cell? ⟨w.heap.size, 3, none⟩ = some (.string (strOf e.name)) := below_keeps hb1 (by simp)
  have c4 : w1.cell? ⟨w.heap.size, 4, none⟩ = some (.slice sa e.args.length sc) := below_keeps hb1 (by simp)
  clear hb1
  go_wp2_with fail
  have HB3 : Hid (Below w.heap.size w (w1.alloc (.cells #[.pointer none, .slice none 0 0, .int .i64 0] 83))) := HB2.out.alloc (by omega) _
  have HK : Hid (ExsAt (· < w1.heap.size) (w1.alloc (.cells #[.pointer none, .slice none 0 0, .int .i64 0] 83)) e.args (.slice sa e.args.length sc)) := (HS.out.old HB3.out).mono (fun b h => Nat.lt_trans h hz)
  refine (expr_any _ e (Nat.le_refl _) w1.heap.size [] 0 _ _ (Nat.lt_trans HG.out hz) (HT.out.keep (HB3.out.block _ HG.out)) (PrtAt.new w1) HK.out HN.out HW.out (by simpa using HF.out)).mono ?_
  rintro r w2 ⟨rfl, hp2, hf2⟩
  have HP2 := Lib.hid hp2
  have HB4 := Lib.hid (HB3.out.trans ((hf2.below (PrtAt.new w1)).mono (Nat.le_of_lt hz)))
  clear hp2 hf2 c0 c1 c2 c3 c4
  go_wp2_with fail
  refine (string_any _ _ _ _ HP2.out (by simpa using exText_ne HW.out)).mono ?_
  rintro r w3 ⟨rfl, hb3⟩
  have HB5 := Lib.hid (HB4.out.trans (hb3.mono (Nat.le_of_lt hz)))
  clear hb3
  go_wp2_with fail
  go_ret2
  exact ⟨by simp, HB5.out⟩
theorem printExpr_bad (e : Ex) (D : Nat → Prop) (s : Value) (w : World) (hs : ExsAt D w e.args s) (hr : rightEx e = false) :
    Calls Tryz.prog 23 #[exV e s] w fun r w' => r = .returned (.tuple #[.string (strOf []), .int .i64 1]) ∧ Below w.heap.size w w' := by
  obtain ⟨sa, sc, rfl⟩ := hs.shape
  have hb1 : Below w.heap.size w (w.alloc (.cells #[.int .i64 e.kind, .int .i64 e.op, .int .i64 e.n, .string (strOf e.name), .slice sa e.args.length sc] 31)) := (Below.refl _ _).alloc (Nat.le_refl _) _
  have HB1 := Lib.hid hb1; have HS := Lib.hid hs; have HR := Lib.hid hr
  clear hb1 hs hr
  go_enter Tryz.func23, Tryz.ntmps23
  go_wp2_with fail
  refine (rightExpr_any e D _ _ (HS.out.old HB1.out)).mono ?_
  rintro r w1 ⟨rfl, hb1⟩
  rw [HR.out]
  have HB2 := Lib.hid (HB1.out.trans (hb1.mono (by simp)))
  clear hb1
  go_wp2_with fail
  go_ret2
  exact ⟨rfl, HB2.out⟩
end Go.Proofs.YtgmaeflfiooigaaGreatDoor

namespace Go.Proofs.YtgmaeflfiooigaaGreatDoor
open Go.RowKit
set_option maxHeartbeats 4000000
set_option maxRecDepth 100000

def arText (a : Ar) : Bs := ln 0 [[105, 110, 116, 32], a.name, [91], Lib.itoa a.size, [93, 59]]
def arsText (l : List Ar) : Bs := l.flatMap arText
def fusText (l : List Fu) : Bs := l.flatMap fuText
def prText (p : Pr) : Bs := arsText p.arrays ++ fusText p.funcs
theorem arsText_take (l : List Ar) (k : Nat) (h : k < l.length) : arsText (l.take (k + 1)) = arsText (l.take k) ++ arText (arAt l k) := by
  unfold arsText; rw [List.take_succ_eq_append_getElem h, List.flatMap_append]; simp [arAt, List.getElem?_eq_getElem h]
theorem arsText_take_le (l : List Ar) (k : Nat) : (arsText (l.take k)).length ≤ (arsText l).length := by
  have e : arsText l = arsText (l.take k) ++ arsText (l.drop k) := by unfold arsText; rw [← List.flatMap_append, List.take_append_drop]
  rw [e]; simp
theorem fusText_take (l : List Fu) (k : Nat) (h : k < l.length) : fusText (l.take (k + 1)) = fusText (l.take k) ++ fuText (fuAt l k) := by
  unfold fusText; rw [List.take_succ_eq_append_getElem h, List.flatMap_append]; simp [fuAt, List.getElem?_eq_getElem h]
theorem fusText_take_le (l : List Fu) (k : Nat) : (fusText (l.take k)).length ≤ (fusText l).length := by
  have e : fusText l = fusText (l.take k) ++ fusText (l.drop k) := by unfold fusText; rw [← List.flatMap_append, List.take_append_drop]
  rw [e]; simp
theorem ArsAt.mono {D D' : Nat → Prop} {w : World} (hD : ∀ b, D b → D' b) {l : List Ar} {v : Value} (h : ArsAt D w l v) : ArsAt D' w l v := by
  obtain ⟨a, cap, b, off, hv, h1, h2, h3, h4⟩ := h
  exact ⟨a, cap, b, off, hv, h1, h2, h3.imp id fun h => ⟨h.1, hD _ h.2⟩, h4⟩
theorem FusAt.mono {D D' : Nat → Prop} {w : World} (hD : ∀ b, D b → D' b) {l : List Fu} {v : Value} (h : FusAt D w l v) : FusAt D' w l v := by
  obtain ⟨a, cap, b, off, pv, lv, bv, hv, h1, h2, h3, h4⟩ := h
  exact ⟨a, cap, b, off, pv, lv, bv, hv, h1, h2, h3.imp id fun h => ⟨h.1, hD _ h.2⟩, fun i hi => ⟨(h4 i hi).1, (h4 i hi).2.1.mono hD, (h4 i hi).2.2.1.mono hD, (h4 i hi).2.2.2.mono hD⟩⟩
theorem ArsAt.shape {D : Nat → Prop} {w : World} {l : List Ar} {v : Value} (h : ArsAt D w l v) : ∃ a cap, v = .slice a l.length cap := by
  obtain ⟨a, cap, b, off, hv, _⟩ := h; exact ⟨a, cap, hv⟩
theorem FusAt.shape {D : Nat → Prop} {w : World} {l : List Fu} {v : Value} (h : FusAt D w l v) : ∃ a cap, v = .slice a l.length cap := by
  obtain ⟨a, cap, b, off, pv, lv, bv, hv, _⟩ := h; exact ⟨a, cap, hv⟩
theorem ArsAt.fits {D : Nat → Prop} {w : World} {l : List Ar} {v : Value} (h : ArsAt D w l v) : Fits l.length := by
  obtain ⟨a, cap, b, off, hv, h1, h2, _⟩ := h; exact h2
theorem FusAt.fits {D : Nat → Prop} {w : World} {l : List Fu} {v : Value} (h : FusAt D w l v) : Fits l.length := by
  obtain ⟨a, cap, b, off, pv, lv, bv, hv, h1, h2, _⟩ := h; exact h2
theorem ArsAt.cellAt {D : Nat → Prop} {w : World} {l : List Ar} {a : Option Addr} {n cap : Nat} (h : ArsAt D w l (.slice a n cap)) (i : Nat) (hl : i < l.length) : ∃ b off, a = some ⟨b, off, none⟩ ∧ D b ∧ b < w.heap.size ∧
    w.cell? ⟨b, off + i * 2, none⟩ = some (.string (strOf (arAt l i).name)) ∧ w.cell? ⟨b, off + i * 2 + 1, none⟩ = some (.int .i64 (arAt l i).size) := by
  obtain ⟨a', cap', b, off, hv, h1, h2, h3, h4⟩ := h
  cases hv
  rcases h3 with h3 | ⟨h3, hD⟩
  · omega
  · exact ⟨b, off, h3, hD, World.block_lt_of_cell? _ _ (h4 i hl).1, (h4 i hl).1, (h4 i hl).2⟩
theorem FusAt.cellAt {D : Nat → Prop} {w : World} {l : List Fu} {a : Option Addr} {n cap : Nat} (h : FusAt D w l (.slice a n cap)) (i : Nat) (hl : i < l.length) : ∃ b off p v s, a = some ⟨b, off, none⟩ ∧ D b ∧ b < w.heap.size ∧
    w.cell? ⟨b, off + i * 4, none⟩ = some (.string (strOf (fuAt l i).name)) ∧ w.cell? ⟨b, off + i * 4 + 1, none⟩ = some p ∧ w.cell? ⟨b, off + i * 4 + 2, none⟩ = some v ∧ w.cell? ⟨b, off + i * 4 + 3, none⟩ = some s ∧
    StrsAt D w (fuAt l i).params p ∧ StrsAt D w (fuAt l i).locals v ∧ StsAt D w (fuAt l i).body s := by
  obtain ⟨a', cap', b, off, pv, lv, bv, hv, h1, h2, h3, h4⟩ := h
  cases hv
  rcases h3 with h3 | ⟨h3, hD⟩
  · omega
  · obtain ⟨⟨c0, c1, c2, c3⟩, e1, e2, e3⟩ := h4 i hl
    exact ⟨b, off, pv i, lv i, bv i, h3, hD, World.block_lt_of_cell? _ _ c0, c0, c1, c2, c3, e1, e2, e3⟩

theorem print_bad (p : Pr) (D : Nat → Prop) (sa sf : Value) (w : World) (ha : ArsAt D w p.arrays sa) (hf : FusAt D w p.funcs sf) (hr : rightPr p = false) :
    Calls Tryz.prog 14 #[.agg #[sa, sf]] w fun r w' => r = .returned (.tuple #[.string (strOf []), .int .i64 1]) ∧ Below w.heap.size w w' := by
  obtain ⟨a1, a2, rfl⟩ := ha.shape
  obtain ⟨f1, f2, rfl⟩ := hf.shape
  have hb1 : Below w.heap.size w (w.alloc (.cells #[.slice a1 p.arrays.length a2, .slice f1 p.funcs.length f2] 27)) := (Below.refl _ _).alloc (Nat.le_refl _) _
  have HB1 := Lib.hid hb1; have HA := Lib.hid ha; have HF := Lib.hid hf; have HR := Lib.hid hr
  clear hb1 ha hf hr
  go_enter Tryz.func14, Tryz.ntmps14
  go_wp2_with fail
  refine (right_any p D _ _ _ (ArsAt.old HB1.out HA.out) (FusAt.old HB1.out HF.out)).mono ?_
  rintro r w1 ⟨rfl, hb1⟩
  rw [HR.out]
  have HB2 := Lib.hid (HB1.out.trans (hb1.mono (by simp)))
  clear hb1
  go_wp2_with fail
  go_ret2
  exact ⟨rfl, HB2.out⟩

theorem print_good (p : Pr) (sa sf : Value) (w : World) (hb : 3 < w.heap.size) (ht : TabOk w) (ha : ArsAt (· < w.heap.size) w p.arrays sa) (hf : FusAt (· < w.heap.size) w p.funcs sf) (hr : rightPr p = true) (hne : prText p ≠ []) (hfit : Fits (prText p).length) :
    Calls Tryz.prog 14 #[.agg #[sa, sf]] w fun r w' => r = .returned (.tuple #[.string (strOf (prText p)), .int .i64 0]) ∧ Below w.heap.size w w' := by
  obtain ⟨a1, a2, rfl⟩ := ha.shape
  obtain ⟨f1, f2, rfl⟩ := hf.shape
  have la := ha.fits.lt
  have lf := hf.fits.lt
  have hb1 : Below w.heap.size w (w.alloc (.cells #[.slice a1 p.arrays.length a2, .slice f1 p.funcs.length f2] 27)) := (Below.refl _ _).alloc (Nat.le_refl _) _
  have hr' : (∀ a, a ∈ p.arrays → rightAr a = true) ∧ ∀ f, f ∈ p.funcs → rightFu f = true := by unfold rightPr at hr; rw [Bool.and_eq_true, List.all_eq_true, List.all_eq_true] at hr; exact hr
  have HB1 := Lib.hid hb1; have HA := Lib.hid ha; have HF := Lib.hid hf; have HR := Lib.hid hr; have HRA := Lib.hid hr'.1; have HRF := Lib.hid hr'.2; have HT := Lib.hid ht; have HG := Lib.hid hb; have HNE := Lib.hid hne; have HFIT := Lib.hid hfit
  clear hb1 ha hf hr hr' ht hb hne hfit
  go_enter Tryz.func14, Tryz.ntmps14
  go_wp2_with fail
  refine (right_any p (· < w.heap.size) _ _ _ (ArsAt.old HB1.out HA.out) (FusAt.old HB1.out HF.out)).mono ?_
  rintro r w1 ⟨rfl, hb1⟩
  rw [HR.out]
  have hz : w.heap.size < w1.heap.size := by have := hb1.size; simp at this; omega
  have c0 : w1.cell? ⟨w.heap.size, 0, none⟩ = some (.slice a1 p.arrays.length a2) := below_keeps hb1 (by simp)
  have c1 : w1.cell? ⟨w.heap.size, 1, none⟩ = some (.slice f1 p.funcs.length f2) := below_keeps hb1 (by simp)
  have HB2 := Lib.hid (HB1.out.trans (hb1.mono (by simp)))
  clear hb1
  -- the printer
  have hb3 : Below w1.heap.size w1 (w1.alloc (.cells #[.pointer none, .slice none 0 0, .int .i64 0] 83)) := (Below.refl _ _).alloc (Nat.le_refl _) _
  have HB3 : Hid (Below w.heap.size w (w1.alloc (.cells #[.pointer none, .slice none 0 0, .int .i64 0] 83))) := HB2.out.alloc (by omega) _
  have HP3 := Lib.hid (PrtAt.new w1)
  have C0 : Hid ((w1.alloc (.cells #[.pointer none, .slice none 0 0, .int .i64 0] 83)).cell? ⟨w.heap.size, 0, none⟩ = some (.slice a1 p.arrays.length a2)) := below_keeps hb3 c0
  have C1 : Hid ((w1.alloc (.cells #[.pointer none, .slice none 0 0, .int .i64 0] 83)).cell? ⟨w.heap.size, 1, none⟩ = some (.slice f1 p.funcs.length f2)) := below_keeps hb3 c1
  have HT3 : Hid (TabOk (w1.alloc (.cells #[.pointer none, .slice none 0 0, .int .i64 0] 83))) := HT.out.keep (HB3.out.block _ HG.out)
  have HA3 : Hid (ArsAt (· < w1.heap.size) (w1.alloc (.cells #[.pointer none, .slice none 0 0, .int .i64 0] 83)) p.arrays (.slice a1 p.arrays.length a2)) := (ArsAt.old HB3.out HA.out).mono (fun b h => Nat.lt_trans h hz)
  have HF3 : Hid (FusAt (· < w1.heap.size) (w1.alloc (.cells #[.pointer none, .slice none 0 0, .int .i64 0] 83)) p.funcs (.slice f1 p.funcs.length f2)) := (FusAt.old HB3.out HF.out).mono (fun b h => Nat.lt_trans h hz)
  have HGb : Hid (3 < w1.heap.size) := Nat.lt_trans HG.out hz
  clear hb3 HA HF HT
  go_wp2_with fail
  generalize w1.alloc (.cells #[.pointer none, .slice none 0 0, .int .i64 0] 83) = W3 at *
  generalize w1.heap.size = b at *
  go_loopw [6, 17] (fun _ s17 wr => ∃ k : Nat, k ≤ p.arrays.length ∧ s17 = .int .i64 k ∧ PrtAt wr b (arsText (p.arrays.take k)) 0 ∧ PFr b W3 wr) (fun _ s17 _ => p.arrays.length - (intOf s17).toNat)
  case atStart => exact ⟨0, Nat.zero_le _, rfl, by simpa [arsText] using HP3.out, PFr.refl _ _⟩
  case round =>
    obtain ⟨k, hk, rfl, hpk, hfr⟩ := hrel
    have HPK := Lib.hid hpk; have HFK := Lib.hid hfr
    have hbl := hpk.lt
    clear hpk hfr c0 c1
    by_cases hlt : k < p.arrays.length
    · obtain ⟨eb, off, rfl, hD, hebl, z0, z1⟩ := ArsAt.cellAt (ArsAt.keep (HFK.out.keeps HP3.out) HA3.out) k hlt
      have hnext := Lib.hid (arsText_take p.arrays k hlt)
      have hra := HRA.out _ (arAt_mem hlt)
      have hfit : Hid (Fits ((arsText (p.arrays.take k)).length + (arText (arAt p.arrays k)).length)) := by
        refine HFIT.out.mono ?_
        have e := arsText_take_le p.arrays (k + 1)
        rw [hnext.out, List.length_append] at e; unfold prText; rw [List.length_append]; omega
      clear hD
      generalize arAt p.arrays k = x at *
      have hsz : Hid (I64 x.size) := by
        unfold rightAr at hra; rw [Bool.and_eq_true] at hra
        have := of_decide_eq_true hra.2
        show _ ∧ _; omega
      clear hra
      have HPb := Lib.hid (HPK.out.alloc (.cells #[.string (strOf x.name), .int .i64 x.size] 73))
      have HFb := Lib.hid (HFK.out.trans (PFr.alloc HPK.out (.cells #[.string (strOf x.name), .int .i64 x.size] 73)))
      have HLb := Lib.hid (Loc.new HPK.out [.string (strOf x.name), .int .i64 x.size] 73)
      have hbl' : b < (wr.alloc (.cells #[.string (strOf x.name), .int .i64 x.size] 73)).heap.size := HPb.out.lt
      go_wp2_with fail
      generalize wr.alloc (.cells #[.string (strOf x.name), .int .i64 x.size] 73) = W' at *
      generalize wr.heap.size = X at *
      clear z0 z1
      have c0 := HLb.out.cell 0 (by simp)
      have c1 := HLb.out.cell 1 (by simp)
      simp only [List.getElem_cons_zero, List.getElem_cons_succ] at c0 c1
      have hXl : X < W'.heap.size := World.block_lt_of_cell? _ _ c0
      have hdr : Below W'.heap.size W' W'.drew := (Below.refl _ _).drew
      have HPd := Lib.hid (HPb.out.old hdr); have HFd := Lib.hid (HFb.out.trans (PFr.of_below hdr hbl')); have HLd := Lib.hid (HLb.out.step (PFr.of_below hdr hbl'))
      have HTd := Lib.hid (HT3.out.fr HFd.out HP3.out HGb.out)
      clear hdr
      go_region_held3 (fun w' => w'.cell? ⟨X, 0, none⟩ = some (.string (strOf x.name)) ∧ w'.cell? ⟨X, 1, none⟩ = some (.int .i64 x.size)) (first | (simp [*, World.cell?_alloc_lt]; done) | go_keep) (first
        | (go_at_call 39; refine (itoa_any x.size hsz.out _ HTd.out).mono ?_; rintro r w4 ⟨he, hb4⟩; subst he; have HP4 := Lib.hid (HPd.out.old hb4); have HF4 := Lib.hid (HFd.out.trans (PFr.of_below hb4 HPd.out.lt)); have HL4 := Lib.hid (HLd.out.step (PFr.of_below hb4 HPd.out.lt)); have g0 : w4.cell? ⟨X, 0, none⟩ = some (.string (strOf x.name)) := HL4.out.cell 0 (by simp); have g1 : w4.cell? ⟨X, 1, none⟩ = some (.int .i64 x.size) := HL4.out.cell 1 (by simp); have h4l : X < w4.heap.size := World.block_lt_of_cell? _ _ g0; clear hb4)
        | (go_at_call 38; refine (line_ln [.s [105, 110, 116, 32], .s x.name, .s [91], .s (Lib.itoa x.size), .s [93, 59]] _ _ b _ 0 w4 (by simp) HGb.out (HT3.out.fr HF4.out HP3.out HGb.out) HP4.out (.s (.s (.s (.s (.s .nil))))) (by omega) hfit.out (by simp)).mono ?_; rintro r w5 ⟨he, hp5, hf5⟩; subst he; have HP5 := Lib.hid hp5; have HF5 := Lib.hid (HF4.out.trans hf5); have HL5 := Lib.hid (HL4.out.step hf5); have k0 : w5.cell? ⟨X, 0, none⟩ = some (.string (strOf x.name)) := HL5.out.cell 0 (by simp); have k1 : w5.cell? ⟨X, 1, none⟩ = some (.int .i64 x.size) := HL5.out.cell 1 (by simp); clear hp5 hf5))
      go_wp2_with fail
      go_roundw
      case rel => exact ⟨k + 1, by omega, by go_num, by rw [hnext.out]; exact HP5.out, HF5.out⟩
      case measure => simp [intOf]; omega
    · have e : p.arrays.take k = p.arrays := List.take_of_length_le (by omega)
      rw [e] at HPK
      clear e
      have hK := HFK.out.keeps HP3.out
      have c1 := hK _ _ _ hz C1.out
      clear hK
      go_wp2_with fail
      clear c1
      go_loopw [8, 38] (fun _ s38 wx => ∃ k : Nat, k ≤ p.funcs.length ∧ s38 = .int .i64 k ∧ PrtAt wx b (arsText p.arrays ++ fusText (p.funcs.take k)) 0 ∧ PFr b W3 wx) (fun _ s38 _ => p.funcs.length - (intOf s38).toNat)
      case atStart => exact ⟨0, Nat.zero_le _, rfl, by simpa [fusText] using HPK.out, HFK.out⟩
      case round =>
        obtain ⟨j, hj, rfl, hpj, hfj⟩ := hrel
        have HPJ := Lib.hid hpj; have HFJ := Lib.hid hfj
        have hbj := hpj.lt
        clear hpj hfj HPK HFK hbl
        by_cases hlj : j < p.funcs.length
        · obtain ⟨eb, off, pv, vv, sv, rfl, hD, hebl, z0, z1, z2, z3, hps, hvs, hss⟩ := FusAt.cellAt (FusAt.keep (HFJ.out.keeps HP3.out) HF3.out) j hlj
          obtain ⟨p1, p2, rfl⟩ := hps.shape
          obtain ⟨v1, v2, rfl⟩ := hvs.shape
          obtain ⟨s1, s2, rfl⟩ := hss.shape
          have hnext := Lib.hid (fusText_take p.funcs j hlj)
          have hra := HRF.out _ (fuAt_mem hlj)
          have hfit : Hid (Fits ((arsText p.arrays ++ fusText (p.funcs.take j)).length + (fuText (fuAt p.funcs j)).length)) := by
            refine HFIT.out.mono ?_
            have e := fusText_take_le p.funcs (j + 1)
            rw [hnext.out, List.length_append] at e; unfold prText; rw [List.length_append, List.length_append]; omega
          have HPS := Lib.hid hps; have HVS := Lib.hid hvs; have HSS := Lib.hid hss
          clear hD hps hvs hss
          generalize fuAt p.funcs j = x at *
          have hok : Hid (x.body.all (stOk 40) = true) := by
            unfold rightFu at hra; rw [Bool.and_eq_true] at hra
            exact hra.2
          clear hra
          have HPb := Lib.hid (HPJ.out.alloc (.cells #[.string (strOf x.name), .slice p1 x.params.length p2, .slice v1 x.locals.length v2, .slice s1 x.body.length s2] 52))
          have HFb := Lib.hid (HFJ.out.trans (PFr.alloc HPJ.out (.cells #[.string (strOf x.name), .slice p1 x.params.length p2, .slice v1 x.locals.length v2, .slice s1 x.body.length s2] 52)))
          have HKb := Lib.hid ((PFr.alloc HPJ.out (.cells #[.string (strOf x.name), .slice p1 x.params.length p2, .slice v1 x.locals.length v2, .slice s1 x.body.length s2] 52)).keeps HPJ.out)
          go_wp2_with fail
          refine (function_any x b _ (.slice p1 x.params.length p2) (.slice v1 x.locals.length v2) (.slice s1 x.body.length s2) _ HGb.out (HT3.out.fr HFb.out HP3.out HGb.out) HPb.out (StrsAt.keep HKb.out HPS.out) (StrsAt.keep HKb.out HVS.out) (HSS.out.keep HKb.out) hok.out hfit.out).mono ?_
          rintro r w5 ⟨rfl, hp5, hf5⟩
          have HP5 := Lib.hid hp5; have HF5 := Lib.hid (HFb.out.trans hf5)
          clear hp5 hf5 z0 z1 z2 z3
          go_wp2_with fail
          go_roundw
          case rel => exact ⟨j + 1, by omega, by go_num, by rw [hnext.out, ← List.append_assoc]; exact HP5.out, HF5.out⟩
          case measure => simp [intOf]; omega
        · have e : p.funcs.take j = p.funcs := List.take_of_length_le (by omega)
          rw [e] at HPJ
          clear e
          go_wp2_with fail
          refine (string_any b _ _ _ HPJ.out HNE.out).mono ?_
          rintro r w6 ⟨rfl, hb6⟩
          have HB6 := Lib.hid (HB3.out.trans (((HFJ.out.below HP3.out).trans hb6).mono (Nat.le_of_lt hz)))
          clear hb6
          go_wp2_with fail
          go_ret2
          exact ⟨rfl, HB6.out⟩
end Go.Proofs.YtgmaeflfiooigaaGreatDoor
