/-
  Scan: a text as tokens, each with blanks and comments behind it. Conditions: the tokens may be; behind them stands nothing, or what is none; the library's tables lie in memory.
-/
import Derived.Test.YtcfpfnoldgnloaaGreatDoorScanE
import Derived.Test.YtcfpfnoldgnloaaGreatDoorScanF
import Derived.Deep.AppendLies
import Derived.IntWalk
set_option linter.unusedVariables false
set_option linter.unusedSimpArgs false
namespace Go.Proofs.YtcfpfnoldgnloaaGreatDoor
open Go.RowKit
set_option maxHeartbeats 4000000
set_option maxRecDepth 100000

/-- A token stands ahead of a text. -/
structure TokAt (x : Bs) (k n : Int) (rest : Bs) : Prop where
  ends : EndsAt blankR (x ++ rest)
  nocomm : Lib.hasPrefix (x ++ rest) [47, 47] = false
  ne : x ≠ []
  call : ∀ w, (x ++ rest).length ≤ 1000000 → ZLib w → Calls Tryz.prog 41 #[.string (strOf (x ++ rest))] w fun e w' => e = .returned (.tuple #[tokV k x n 0, .bool true]) ∧ Below w.heap.size w w'
theorem PcOk.ne {x : Bs} {k n : Int} (h : PcOk x k n) : x ≠ [] := by
  cases h with
  | name x hx hk c t hc hl ha => rw [hc]; exact List.cons_ne_nil _ _
  | word x hk c t hc hl ha => rw [hc]; exact List.cons_ne_nil _ _
  | num u hu hi c t hc hd => rw [hc]; exact List.cons_ne_nil _ _
  | quote q y => exact List.cons_ne_nil _ _
  | sign x hs c t hc h7 hn => rw [hc]; exact List.cons_ne_nil _ _
theorem PcOk.at {x : Bs} {k n : Int} (h : PcOk x k n) (b : UInt8) (r : Bs) (hb : isBlank b = true) : TokAt x k n (b :: r) :=
  ⟨h.ends _, h.noComment b hb r, h.ne, fun w hz hl => token_any h b r hb hz w hl⟩
def ItsOk (z : Bs) : List It → Prop
  | [] => True
  | i :: l => TokAt i.x i.k i.n (i.gap ++ (itText l ++ z)) ∧ GapOk i.b i.l ∧ ItsOk z l
theorem ItsOk.of (z : Bs) : ∀ (l : List It), (∀ i, i ∈ l → ItOk i) → ItsOk z l
  | [], _ => trivial
  | i :: l, h => by
    have hi := h i List.mem_cons_self
    obtain ⟨c, t, e, hc⟩ := hi.blank (itText l ++ z)
    refine ⟨?_, hi.gap, ItsOk.of z l (fun j hj => h j (List.mem_cons_of_mem _ hj))⟩
    rw [e]; exact hi.tok.at c t hc
/-- The last line. -/
def endL (line : Nat) : List It → Nat
  | [] => line
  | i :: l => endL (line + feeds i.gap) l
/-- What stands behind the last token: nothing, or what is none. -/
structure TailOk (ok : Bool) (z : Bs) : Prop where
  ends : EndsAt blankR z
  nocomm : Lib.hasPrefix z [47, 47] = false
  nil : ok = true → z = []
  bad : ok = false → z ≠ [] ∧ ∀ w, ZLib w → Calls Tryz.prog 41 #[.string (strOf z)] w fun e w' => e = .returned (.tuple #[tokV 0 [] 0 0, .bool false]) ∧ Below w.heap.size w w'
theorem ItsOk.front {ok : Bool} {z : Bs} (hz : TailOk ok z) {l : List It} (h : ItsOk z l) : EndsAt blankR (itText l ++ z) ∧ Lib.hasPrefix (itText l ++ z) [47, 47] = false := by
  cases l with
  | nil => exact ⟨hz.ends, hz.nocomm⟩
  | cons i l =>
    have e : itText (i :: l) ++ z = i.x ++ (i.gap ++ (itText l ++ z)) := by rw [itText_cons]; simp
    rw [e]; exact ⟨h.1.ends, h.1.nocomm⟩
def ScanPost (ok : Bool) (w : World) (L : List Tk) (line : Nat) (e : Ending) (w' : World) : Prop :=
  Below w.heap.size w w' ∧ (if ok = true then ∃ v, e = .returned (.tuple #[v, .int .i64 0, .int .i64 0]) ∧ TksOwn w' w.heap.size (L ++ [⟨5, [], 0, line⟩]) v else e = .returned (.tuple #[.slice none 0 0, .int .i64 20, .int .i64 line]))
theorem feeds_le (l : Bs) : feeds l ≤ l.length := List.count_le_length
theorem scan_any (ok : Bool) (z : Bs) (hz : TailOk ok z) (b0 : Bs) (l0 : List (Bs × Bs)) (hg : GapOk b0 l0) (li0 : List It) (hi : ItsOk z li0) (hlen : (gapText b0 l0 ++ (itText li0 ++ z)).length ≤ 20000) (w : World) (hl : ZLib w) :
    Calls Tryz.prog 20 #[.string (strOf (gapText b0 l0 ++ (itText li0 ++ z)))] w (ScanPost ok w (toks (1 + feeds (gapText b0 l0)) li0) (endL (1 + feeds (gapText b0 l0)) li0)) := by
  obtain ⟨ALL, hall⟩ : ∃ A, toks (1 + feeds (gapText b0 l0)) li0 = A := ⟨_, rfl⟩
  obtain ⟨END, hend⟩ : ∃ A, endL (1 + feeds (gapText b0 l0)) li0 = A := ⟨_, rfl⟩
  rw [hall, hend]
  obtain ⟨q, hq⟩ : ∃ q, gapText b0 l0 ++ (itText li0 ++ z) = q := ⟨_, rfl⟩
  rw [hq] at hlen ⊢
  have HQ := Lib.hid hq; have HZ := Lib.hid hz; have HG := Lib.hid hg; have HI := Lib.hid hi; have HL := Lib.hid hl; have HALL := Lib.hid hall; have HEND := Lib.hid hend
  have hlenI : (q.length : Int) ≤ 20000 := by omega
  obtain ⟨i0, hi0, hz0, hz1, hz2⟩ := info_parts infoTk
  have HI0 := Lib.hid hi0; have HZ0 := Lib.hid hz0; have HZ1 := Lib.hid hz1; have HZ2 := Lib.hid hz2
  clear hi0 hz0 hz1 hz2 hq hz hg hi hl hall hend
  go_enter Tryz.func20, Tryz.ntmps20
  go_wp2_with fail
  go_loopw [0, 2, 5] (fun s0 s2 s5 wr => ∃ (b1 : Bs) (l1 : List (Bs × Bs)) (n : Nat) (li : List It) (done : List Tk) (q1 : Bs), s0 = .string (strOf q1) ∧ s5 = .int .i64 n ∧ q1 = gapText b1 l1 ++ (itText li ++ z) ∧ TksOwn wr w.heap.size done s2 ∧ GapOk b1 l1 ∧ ItsOk z li ∧ done ++ toks (n + feeds (gapText b1 l1)) li = ALL ∧ endL (n + feeds (gapText b1 l1)) li = END ∧ done.length + q1.length ≤ 20000 ∧ n + q1.length ≤ 20001 ∧ Below w.heap.size w wr) (fun s0 _ _ _ => match s0 with | .string s => s.size | _ => 0)
  case atStart => exact ⟨b0, l0, 1, li0, [], q, rfl, rfl, HQ.out.symm, TksOwn.zero _ _, HG.out, HI.out, HALL.out, HEND.out, by simpa using hlen, by omega, Below.refl _ _⟩
  case round =>
    obtain ⟨b1, l1, n, li, done, q1, rfl, rfl, hq1, hown, hg1, hi1, hall, hend, hdl, hnl, hb⟩ := hrel
    obtain ⟨oa, oc, rfl⟩ := zrow_slice hown
    have HL1 := Lib.hid (HL.out.old hb)
    have HB := Lib.hid hb
    obtain ⟨f1, f2⟩ := hi1.front HZ.out
    have HSK : Hid (∀ w1, ZLib w1 → Calls Tryz.prog 40 #[.string (strOf q1)] w1 fun e w' => e = .returned (.tuple #[.string (strOf (itText li ++ z)), .int .i64 (feeds (gapText b1 l1)), .bool true]) ∧ Below w1.heap.size w1 w') := by
      intro w1 h1
      rw [hq1]
      exact skip_any b1 l1 (itText li ++ z) hg1 f1 f2 (by rw [← hq1]; omega) w1 h1
    have hfe : feeds (gapText b1 l1) + (itText li ++ z).length ≤ q1.length := by
      have := feeds_le (gapText b1 l1)
      have e := congrArg List.length hq1
      rw [List.length_append] at e; omega
    have HOWN := Lib.hid hown
    have HOB : Hid (∀ k, (Value.slice oa done.length oc).ownBlock = some k → w.heap.size ≤ k ∧ k < wr.heap.size) := fun k e => hown.ge e
    clear f1 f2 hq1 hown hg1 hb
    obtain ⟨F, hF⟩ : ∃ F, feeds (gapText b1 l1) = F := ⟨_, rfl⟩
    rw [hF] at HSK hfe hall hend
    clear hF
    have nI : (n : Int) + (F : Int) ≤ 1000000 := by omega
    have nJ : (0 : Int) ≤ (n : Int) + (F : Int) := by omega
    have hN : (n : Int) + (F : Int) = ((n + F : Nat) : Int) := by omega
    have HN := Lib.hid hN
    clear hN
    cases li with
    | nil =>
      have er : itText [] ++ z = z := by simp [itText]
      rw [er] at HSK hfe
      clear er
      have hall' : done = ALL := by rw [← hall]; simp [toks]
      have hend' : n + F = END := hend
      have HA := Lib.hid hall'; have HE := Lib.hid hend'
      have hbad := HZ.out.bad; have hnil := HZ.out.nil
      clear hall hend hall' hend' hi1
      cases ok with
      | true =>
        have hz0 := hnil rfl
        subst hz0
        clear hbad hnil
        go_wp2_with fail
        refine (HSK.out _ HL1.out).mono ?_
        rintro e w1 ⟨rfl, hb1⟩
        have HB1 := Lib.hid (HB.out.trans (hb1.mono HB.out.size))
        have HOWN1 := Lib.hid (zrow_old HOWN.out hb1)
        have hsz1 := hb1.size
        have hbA : Below w1.heap.size w1 (w1.alloc (.cells #[.int .i64 5, .string ⟨#[]⟩, .int .i64 0, .int .i64 ((n : Int) + (F : Int))] 50)) := (Below.refl _ _).alloc (Nat.le_refl _) _
        have HOWN2 := Lib.hid (zrow_old HOWN1.out hbA)
        have HB2 := Lib.hid (HB1.out.trans (hbA.mono HB1.out.size))
        have HNEW := Lib.hid (OwnAt.new w1 [.int .i64 5, .string ⟨#[]⟩, .int .i64 0, .int .i64 ((n : Int) + (F : Int))] 50)
        clear hb1 hbA
        go_wp2_with (at_builtin; (refine wpList_append_lies (P := Tryz.prog) _ rfl _ _ 46 rfl w.heap.size 50 i0 _ 4 40 Tryz.underlying46 HI0.out HZ0.out HZ1.out HZ2.out rfl (by decide) (.slice oa done.length oc) done.length (done.flatMap tkCells) rfl HOWN2.out ⟨w1.heap.size, 0, none⟩ 1 1 (tkCells ⟨5, [], 0, (n : Int) + (F : Int)⟩) rfl rfl HNEW.out.news (tkCells_one _) (by decide) (by unfold maxLen; omega) (by omega) (by have := HB2.out.size; exact this) _ rfl ?_; intro g cap w11 hown hgrow hat hlt11; have HB11 := Lib.hid (zbelow_grow HB2.out hgrow (fun k e => (HOB.out k e).1) HB2.out.size); have HS := Lib.hid (TksOwn.snoc ⟨5, [], 0, (n : Int) + (F : Int)⟩ hown); clear hown hgrow hat))
        go_ret3
        refine ⟨HB11.out, ?_⟩
        rw [if_pos rfl]
        refine ⟨_, rfl, ?_⟩
        have hs := HS.out
        rw [HN.out, HE.out] at hs
        rw [HA.out] at hs
        rw [← HA.out] at hs ⊢
        exact hs
      | false =>
        obtain ⟨hz0, hbc⟩ := hbad rfl
        have hze : z.isEmpty = false := by simpa using hz0
        have HBC := Lib.hid hbc
        clear hbad hnil hz0 hbc
        go_wp2_with fail
        refine (HSK.out _ HL1.out).mono ?_
        rintro e w1 ⟨rfl, hb1⟩
        have HB1 := Lib.hid (HB.out.trans (hb1.mono HB.out.size))
        have HL2 := Lib.hid (HL1.out.old hb1)
        have HO := Lib.hid (OwnAt.new w1 [.int .i64 0, .string ⟨#[]⟩, .int .i64 0, .int .i64 0] 50)
        have hbA : Below w1.heap.size w1 (w1.alloc (.cells #[.int .i64 0, .string ⟨#[]⟩, .int .i64 0, .int .i64 0] 50)) := (Below.refl _ _).alloc (Nat.le_refl _) _
        have HL3 := Lib.hid (HL2.out.old hbA)
        have HB2 := Lib.hid (HB1.out.trans (hbA.mono HB1.out.size))
        have hge : w.heap.size ≤ w1.heap.size := HB1.out.size
        clear hb1 hbA
        go_wp2_with fail
        refine (HBC.out _ HL3.out).mono ?_
        rintro e w3 ⟨rfl, hb3⟩
        unfold tokV
        have HO3 := Lib.hid (HO.out.old hb3)
        have HB3 := Lib.hid (HB2.out.trans (hb3.mono HB2.out.size))
        clear hb3
        have q0 := HO3.out.at 0 _ rfl
        have f0 := HO3.out.fz 0
        have q1 := HO3.out.at 1 _ rfl
        have f1 := HO3.out.fz 1
        have q2 := HO3.out.at 2 _ rfl
        have f2 := HO3.out.fz 2
        have q3 := HO3.out.at 3 _ rfl
        have f3 := HO3.out.fz 3
        have ql := HO3.out.lt
        go_wp2_with fail
        go_ret3
        refine ⟨zbelow_set (zbelow_set (zbelow_set (zbelow_set HB3.out hge _ _) hge _ _) hge _ _) hge _ _, ?_⟩
        rw [if_neg (by decide), HN.out, HE.out]
        rfl
    | cons i l =>
      obtain ⟨htk, hgi, hil⟩ := hi1
      have hr : itText (i :: l) ++ z = i.x ++ (i.gap ++ (itText l ++ z)) := by rw [itText_cons]; simp
      rw [hr] at HSK hfe
      clear hr
      have hall' : (done ++ [⟨i.k, i.x, i.n, ((n + F : Nat) : Int)⟩]) ++ toks (n + F + feeds (gapText i.b i.l)) l = ALL := by rw [← hall]; simp [toks, It.gap]
      have hend' : endL (n + F + feeds (gapText i.b i.l)) l = END := hend
      have HA := Lib.hid hall'; have HE := Lib.hid hend'; have HGI := Lib.hid hgi; have HIL := Lib.hid hil
      have hxne := htk.ne
      have hzl : (i.x ++ (i.gap ++ (itText l ++ z))).length ≤ 1000000 := by omega
      have HTK : Hid (∀ w1, ZLib w1 → Calls Tryz.prog 41 #[.string (strOf (i.x ++ (i.gap ++ (itText l ++ z))))] w1 fun e w' => e = .returned (.tuple #[tokV i.k i.x i.n 0, .bool true]) ∧ Below w1.heap.size w1 w') := fun w1 h1 => htk.call w1 hzl h1
      clear hall hend hall' hend' hgi hil htk hzl
      have hxp : 0 < i.x.length := List.length_pos_iff.2 hxne
      obtain ⟨q', hq'⟩ : ∃ q', i.gap ++ (itText l ++ z) = q' := ⟨_, rfl⟩
      have HQ' := Lib.hid hq'
      rw [hq'] at HSK hfe HTK
      clear hq' hxne
      have HXD := Lib.hid (ext_drop i.x q')
      have hrl : (i.x ++ q').length = i.x.length + q'.length := List.length_append
      have hre : (i.x ++ q').isEmpty = false := by
        cases hx : i.x with
        | nil => rw [hx] at hxp; simp at hxp
        | cons c t => rfl
      obtain ⟨r, hr⟩ : ∃ r, i.x ++ q' = r := ⟨_, rfl⟩
      rw [hr] at HSK hfe HTK HXD hrl hre
      clear hr
      obtain ⟨xx, hxx⟩ : ∃ xx, i.x = xx := ⟨_, rfl⟩
      rw [hxx] at HXD hrl hxp HTK HA
      obtain ⟨kk, hkk⟩ : ∃ kk, i.k = kk := ⟨_, rfl⟩
      obtain ⟨nn, hnn⟩ : ∃ nn, i.n = nn := ⟨_, rfl⟩
      rw [hkk, hnn] at HTK HA
      clear hxx hkk hnn
      have hx1 : (xx.length : Int) ≤ (r.length : Int) := by omega
      have hx2 : xx.length ≤ r.length := by omega
      go_wp2_with fail
      refine (HSK.out _ HL1.out).mono ?_
      rintro e w1 ⟨rfl, hb1⟩
      have HB1 := Lib.hid (HB.out.trans (hb1.mono HB.out.size))
      have HL2 := Lib.hid (HL1.out.old hb1)
      have HOWN1 := Lib.hid (zrow_old HOWN.out hb1)
      have hsz1 := hb1.size
      have HO := Lib.hid (OwnAt.new w1 [.int .i64 0, .string ⟨#[]⟩, .int .i64 0, .int .i64 0] 50)
      have hbA : Below w1.heap.size w1 (w1.alloc (.cells #[.int .i64 0, .string ⟨#[]⟩, .int .i64 0, .int .i64 0] 50)) := (Below.refl _ _).alloc (Nat.le_refl _) _
      have HL3 := Lib.hid (HL2.out.old hbA)
      have HB2 := Lib.hid (HB1.out.trans (hbA.mono HB1.out.size))
      have HOWN2 := Lib.hid (zrow_old HOWN1.out hbA)
      have hge : w.heap.size ≤ w1.heap.size := HB1.out.size
      clear hb1 hbA
      go_wp2_with fail
      refine (HTK.out _ HL3.out).mono ?_
      rintro e w3 ⟨rfl, hb3⟩
      unfold tokV
      have HO3 := Lib.hid (HO.out.old hb3)
      have HB3 := Lib.hid (HB2.out.trans (hb3.mono HB2.out.size))
      have HOWN3 := Lib.hid (zrow_old HOWN2.out hb3)
      clear hb3
      have q0 := HO3.out.at 0 _ rfl
      have f0 := HO3.out.fz 0
      have q1 := HO3.out.at 1 _ rfl
      have f1 := HO3.out.fz 1
      have q2 := HO3.out.at 2 _ rfl
      have f2 := HO3.out.fz 2
      have q3 := HO3.out.at 3 _ rfl
      have f3 := HO3.out.fz 3
      have ql := HO3.out.lt
      go_upto_region 14 with (fail)
      have HS := Lib.hid (((((HO3.out.set 0 (.int .i64 kk)).set 1 (.string (strOf xx))).set 2 (.int .i64 nn)).set 3 (.int .i64 0)).set 3 (.int .i64 ((n : Int) + (F : Int))))
      have HBS := Lib.hid (zbelow_set (zbelow_set (zbelow_set (zbelow_set (zbelow_set HB3.out hge 0 (.int .i64 kk)) hge 1 (.string (strOf xx))) hge 2 (.int .i64 nn)) hge 3 (.int .i64 0)) hge 3 (.int .i64 ((n : Int) + (F : Int))))
      have hbo : (Value.slice oa done.length oc).ownBlock ≠ some w1.heap.size := fun e => by have := (HOB.out _ e).2; omega
      have HBO := Lib.hid hbo
      have HOS := Lib.hid (zrow_set (zrow_set (zrow_set (zrow_set (zrow_set HOWN3.out hbo 0 (.int .i64 kk)) hbo 1 (.string (strOf xx))) hbo 2 (.int .i64 nn)) hbo 3 (.int .i64 0)) hbo 3 (.int .i64 ((n : Int) + (F : Int))))
      obtain ⟨W, hW⟩ : ∃ W, (((((w3.setCell ⟨w1.heap.size, 0, none⟩ (.int .i64 kk)).setCell ⟨w1.heap.size, 1, none⟩ (.string (strOf xx))).setCell ⟨w1.heap.size, 2, none⟩ (.int .i64 nn)).setCell ⟨w1.heap.size, 3, none⟩ (.int .i64 0)).setCell ⟨w1.heap.size, 3, none⟩ (.int .i64 ((n : Int) + (F : Int)))) = W := ⟨_, rfl⟩
      rw [hW] at HS HBS HOS ⊢
      clear hW q0 f0 q1 f1 q2 f2 q3 f3 ql hbo
      have hbA : Below W.heap.size W (W.alloc (.cells #[.int .i64 kk, .string (strOf xx), .int .i64 nn, .int .i64 ((n : Int) + (F : Int))] 50)) := (Below.refl _ _).alloc (Nat.le_refl _) _
      have HS2 := Lib.hid (HS.out.old hbA)
      have HB5 := Lib.hid (HBS.out.trans (hbA.mono HBS.out.size))
      have HOWN5 := Lib.hid (zrow_old HOS.out hbA)
      have HNEW := Lib.hid (OwnAt.new W [.int .i64 kk, .string (strOf xx), .int .i64 nn, .int .i64 ((n : Int) + (F : Int))] 50)
      have c0 := HS.out.at 0 _ rfl
      have c1 := HS.out.at 1 _ rfl
      have c2 := HS.out.at 2 _ rfl
      have c3 := HS.out.at 3 _ rfl
      have cl := HS.out.lt
      clear hbA
      go_wp2_with (at_builtin; (refine wpList_append_lies (P := Tryz.prog) _ rfl _ _ 46 rfl w.heap.size 50 i0 _ 4 40 Tryz.underlying46 HI0.out HZ0.out HZ1.out HZ2.out rfl (by decide) (.slice oa done.length oc) done.length (done.flatMap tkCells) rfl HOWN5.out ⟨W.heap.size, 0, none⟩ 1 1 (tkCells ⟨kk, xx, nn, (n : Int) + (F : Int)⟩) rfl rfl HNEW.out.news (tkCells_one _) (by decide) (by unfold maxLen; omega) (by omega) (by have := HB5.out.size; exact this) _ rfl ?_; intro g cap w11 hown hgrow hat hlt11; have HB11 := Lib.hid (zbelow_grow HB5.out hgrow (fun k e => (HOB.out k e).1) HB5.out.size); have HS11 := Lib.hid (TksOwn.snoc ⟨kk, xx, nn, (n : Int) + (F : Int)⟩ hown); have y1 := (HS2.out.grow hgrow HBO.out).at 1 _ rfl; have yl := (HS2.out.grow hgrow HBO.out).lt; clear hown hgrow hat))
      have hxd := HXD.out _ hrl.symm
      rw [hxd]
      go_roundw
      case rel =>
        refine ⟨i.b, i.l, n + F, l, done ++ [⟨kk, xx, nn, ((n + F : Nat) : Int)⟩], q', rfl, by rw [← HN.out], HQ'.out.symm, ?_, HGI.out, HIL.out, HA.out, HE.out, by rw [List.length_append, List.length_singleton]; omega, by omega, HB11.out⟩
        have hs := HS11.out
        rw [HN.out] at hs
        exact hs
      case measure => show q'.length < q1.length; omega
end Go.Proofs.YtcfpfnoldgnloaaGreatDoor
