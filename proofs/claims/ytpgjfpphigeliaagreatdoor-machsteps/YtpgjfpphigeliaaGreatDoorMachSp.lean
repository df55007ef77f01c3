/-
  MachSteps: with more steps a run goes on as it did. Conditions: the raw lines, the numbers lie in memory, no more bytes than memory has; the library's variables lie in memory.
-/
import Derived.Test.YtpgjfpphigeliaaGreatDoorMachTf
set_option linter.unusedVariables false
set_option linter.unusedSimpArgs false
namespace Go.Proofs.YtpgjfpphigeliaaGreatDoor
open Go.RowKit
set_option maxHeartbeats 4000000
set_option maxRecDepth 100000

theorem InpAt.old {w w' : World} {L : List Int} {v : Value} (h : InpAt w L v) (hb : Below w.heap.size w w') : InpAt w' L v := ⟨NumsAt.old h.at' hb, h.cap⟩
theorem own_below {w w' : World} {base B : Nat} {L : List Int} {v : Value} (h : NumsOwn w base L v) (hb : Below B w w') (hg : ∀ g, v.ownBlock = some g → g < B) : NumsOwn w' base L v := by
  refine ⟨h.1, ?_⟩
  rcases h.2 with hn | ⟨g, cap, cur, rfl, h1, h2, r⟩
  · exact .inl hn
  · exact .inr ⟨g, cap, cur, rfl, h1, (hb.block g (hg g rfl)).trans h2, r⟩
theorem int_flat : ∀ L : List Int, L.flatMap intCells = L.map (fun z => Value.int .i64 z)
  | [] => rfl
  | z :: L => by rw [List.flatMap_cons, int_flat L]; rfl
theorem nums_cells {w : World} {L : List Int} {ad : Addr} {n c : Nat} (h : NumsAt w L (.slice (some ad) n c)) : ∀ j u, (L.flatMap intCells)[j]? = some u → w.cell? (ad.add j) = some u := by
  obtain ⟨a, cap, b, off, e1, e2, e3, e4⟩ := h
  cases e1
  intro j u hu
  have hj : ∃ z, L[j]? = some z ∧ u = .int .i64 z := by
    rw [int_flat, List.getElem?_map] at hu
    cases ez : L[j]? with
    | none => rw [ez] at hu; cases hu
    | some z => rw [ez] at hu; exact ⟨z, rfl, (Option.some.inj hu).symm⟩
  obtain ⟨z, hz, rfl⟩ := hj
  rcases e2 with e2 | e2
  · rw [List.eq_nil_of_length_eq_zero e2] at hz; cases hz
  · cases e2
    have := e4 j z hz 0 _ rfl
    have h3 : (⟨b, off, none⟩ : Addr).add j = ⟨b, off + j, none⟩ := by unfold Addr.add; split <;> simp_all
    rw [h3]
    simpa using this
theorem run_short {c : Cd} (hc : checkC c = (0, 0)) (inp : List Int) (n : Int) (hn : 0 ≤ n) : ((runC c inp n).out.length : Int) ≤ n := by
  rw [runC_ok hc]
  have g2 := (run_steps (machR c) n (startS inp)).2 hn
  have g3 := run_told (machR c) n (startS inp) hn (Int.le_refl 0)
  omega
theorem msteps_any (raw : List Ln) (v0 : Value) (first : List Int) (hfi : ∀ z, z ∈ first → I64 z) (v1 : Value) (inp : List Int) (hin : ∀ z, z ∈ inp → I64 z) (v2 : Value) (steps more : Int) (hst : I64 steps) (hmo : I64 more) (w : World) (hraw : RawQ w raw v0) (hfirst : NumsAt w first v1) (hinp : InpAt w inp v2) (hby : (inp.length + 203) * 8 ≤ 140737488355328) (hl : ILib w) :
    Calls Tryz.prog 3 #[v0, v1, v2, .int .i64 steps, .int .i64 more] w fun e w' => e = .returned (.bool true) ∧ Below w.heap.size w w' := by
  obtain ⟨n0, n1⟩ := ipick_range steps 201 (by decide)
  obtain ⟨m0, m1⟩ := ipick_range more 201 (by decide)
  have hck := tame_check hraw.ok first
  have hfn := tame_fine hraw.ok first
  have h64 := tame_i64 hraw.ok hfi
  obtain ⟨st, cd, sp, o, stB, cdB, spB, mo, hA, hB, hD, hTh, hol⟩ := three_runs (tameC raw first) hck inp (ipick steps 201) (ipick more 201) n0 (by omega) m0
  have hoB := run_short hck inp (ipick steps 201 + ipick more 201) (by omega)
  rw [show (runC (tameC raw first) inp (ipick steps 201 + ipick more 201)).out = o ++ mo from congrArg (·.2.2.1) hB] at hoB
  have hin3 : ∀ z, z ∈ inp ++ (List.replicate 202 (-1) ++ [5]) → I64 z := fun z hz => by
    rcases List.mem_append.1 hz with h | h
    · exact hin z h
    · rcases List.mem_append.1 h with h | h
      · rw [List.eq_of_mem_replicate h]; exact ⟨by decide, by decide⟩
      · rw [List.mem_singleton.1 h]; exact ⟨by decide, by decide⟩
  have HAW := Lib.hid (jawake_any w hl)
  have HPN := Lib.hid (fun w => jpick_any steps 201 hst (by decide) (by decide) w)
  have HPM := Lib.hid (fun w => jpick_any more 201 hmo (by decide) (by decide) w)
  have HTA := Lib.hid (fun w (hw : RawQ w raw v0) (hf : NumsAt w first v1) => tame_any raw v0 first hfi v1 w hw hf)
  have HRA := Lib.hid (fun va vl v w hc hi => run_tells (tameC raw first) hfn h64 inp hin (ipick steps 201) (by omega) n0 st cd sp o hA va vl v w hc hi)
  have HRB := Lib.hid (fun va vl v w hc hi => run_tells (tameC raw first) hfn h64 inp hin (ipick steps 201 + ipick more 201) (by omega) (by omega) stB cdB spB (o ++ mo) hB va vl v w hc hi)
  have HRD := Lib.hid (fun va vl v w hc hi => run_tells (tameC raw first) hfn h64 (inp ++ (List.replicate 202 (-1) ++ [5])) hin3 (ipick steps 201) (by omega) n0 st cd sp o hD va vl v w hc hi)
  have HS := Lib.hid (fun v1 v2 w h1 h2 => jsame_eq st cd sp o v1 v2 w h1 h2)
  have HBG := Lib.hid (fun v1 v2 w h1 h2 => begins_yes o mo (o ++ mo) rfl v1 v2 w h1 h2)
  obtain ⟨oB, heB⟩ : ∃ oB, o ++ mo = oB := ⟨_, rfl⟩
  rw [heB] at HRB HBG hoB
  have heB0 : mo = [] → oB = o := fun e => by rw [← heB, e, List.append_nil]
  generalize ipick steps 201 = n at *
  generalize ipick more 201 = m at *
  generalize tameC raw first = C at *
  obtain ⟨t1, t2, t3, t4⟩ := hTh
  have HRQ := Lib.hid hraw; have HFI := Lib.hid hfirst; have HIN := Lib.hid hinp
  have T3 := Lib.hid (fun h => (⟨(t3 h).1, (t3 h).2.1, heB0 (t3 h).2.2.1, (t3 h).2.2.2⟩ : stB = st ∧ cdB = cd ∧ oB = o ∧ spB = sp)); have T4 := Lib.hid t4
  clear hl hA hB hD hst hmo hck hfn h64 hfi hin hin3 hraw hfirst hinp t3 t4 heB heB0
  obtain ⟨ia, il, ic, rfl, hic1, hic2⟩ := HIN.out.cap
  go_enter Tryz.func3, Tryz.ntmps3
  go_wp2_with fail
  refine (HAW.out).mono ?_
  rintro e w1 ⟨rfl, hb1⟩
  have HB := Lib.hid hb1
  replace HRQ := Lib.hid (HRQ.out.old hb1)
  replace HFI := Lib.hid (HFI.out.old hb1)
  replace HIN := Lib.hid (HIN.out.old hb1)
  clear hb1 HAW
  go_wp2_with fail
  refine (HTA.out _ HRQ.out HFI.out).mono ?_
  rintro e w2 ⟨va, vl, rfl, hc2, hb2⟩
  clear HRQ
  clear HFI
  replace HIN := Lib.hid (HIN.out.old hb2)
  replace HB := Lib.hid (HB.out.trans (hb2.mono HB.out.size))
  clear hb2
  obtain ⟨aa, ca, rfl⟩ := RwAt.shape hc2.1
  obtain ⟨al, cl, rfl⟩ := RwAt.shape hc2.2
  have HC := Lib.hid hc2
  clear hc2 HTA
  generalize C.arrs.length = l1 at *
  generalize C.lines.length = l2 at *
  go_upto_region 3 with (fail)
  have hbX1 : Below w2.heap.size w2 (w2.alloc (.cells #[.slice aa l1 ca, .slice al l2 cl] 27)) := (Below.refl _ _).alloc (Nat.le_refl _) _
  have hoX := OwnAt.new w2 [.slice aa l1 ca, .slice al l2 cl] 27
  obtain ⟨W3, hWX⟩ : ∃ W3, w2.alloc (.cells #[.slice aa l1 ca, .slice al l2 cl] 27) = W3 := ⟨_, rfl⟩
  rw [hWX] at hbX1 hoX ⊢
  replace HIN := Lib.hid (HIN.out.old hbX1)
  replace HB := Lib.hid (HB.out.trans (hbX1.mono HB.out.size))
  replace HC := Lib.hid (HC.out.old hbX1)
  have HO := Lib.hid hoX
  clear hbX1 hWX hoX
  go_wp2_with fail
  refine (HPN.out _).mono ?_
  rintro e v1 ⟨rfl, rfl⟩
  clear HPN
  go_wp2_with fail
  refine (HPM.out _).mono ?_
  rintro e v2 ⟨rfl, rfl⟩
  clear HPM
  have d0 := HO.out.at 0 _ rfl
  have d1 := HO.out.at 1 _ rfl
  have dl := HO.out.lt
  go_wp2_with fail
  refine (HRA.out _ _ _ _ HC.out HIN.out).mono ?_
  rintro e w4 ⟨ra, rc, rfl, hna, hb4⟩
  replace HIN := Lib.hid (HIN.out.old hb4)
  replace HB := Lib.hid (HB.out.trans (hb4.mono HB.out.size))
  replace HC := Lib.hid (HC.out.old hb4)
  replace HO := Lib.hid (HO.out.old hb4)
  clear hb4
  have HNA := Lib.hid hna
  clear hna d0 d1 dl HRA
  go_upto_region 6 with (fail)
  replace HNA : Hid (RwOwn 3 intCells 1 w4 W3.heap.size o (.slice ra o.length rc)) := HNA
  have hbX2 : Below w4.heap.size w4 (w4.alloc (.cells #[.int .i64 st, .int .i64 cd, .slice ra o.length rc, .int .i64 sp] 31)) := (Below.refl _ _).alloc (Nat.le_refl _) _
  have hoX := OwnAt.new w4 [.int .i64 st, .int .i64 cd, .slice ra o.length rc, .int .i64 sp] 31
  obtain ⟨W5, hWX⟩ : ∃ W5, w4.alloc (.cells #[.int .i64 st, .int .i64 cd, .slice ra o.length rc, .int .i64 sp] 31) = W5 := ⟨_, rfl⟩
  rw [hWX] at hbX2 hoX ⊢
  replace HIN := Lib.hid (HIN.out.old hbX2)
  replace HB := Lib.hid (HB.out.trans (hbX2.mono HB.out.size))
  replace HC := Lib.hid (HC.out.old hbX2)
  replace HO := Lib.hid (HO.out.old hbX2)
  replace HNA := Lib.hid (RwOwn.old HNA.out hbX2)
  have HA := Lib.hid hoX
  clear hbX2 hWX hoX
  have d0 := HO.out.at 0 _ rfl
  have d1 := HO.out.at 1 _ rfl
  have dl := HO.out.lt
  go_wp2_with fail
  refine (HRB.out _ _ _ _ HC.out HIN.out).mono ?_
  rintro e w6 ⟨rb, rd, rfl, hnb, hb6⟩
  replace HIN := Lib.hid (HIN.out.old hb6)
  replace HB := Lib.hid (HB.out.trans (hb6.mono HB.out.size))
  replace HC := Lib.hid (HC.out.old hb6)
  replace HO := Lib.hid (HO.out.old hb6)
  replace HNA := Lib.hid (RwOwn.old HNA.out hb6)
  replace HA := Lib.hid (HA.out.old hb6)
  clear hb6
  have HNB := Lib.hid hnb
  clear hnb d0 d1 dl HRB
  go_upto_region 7 with (fail)
  have hbX3 : Below w6.heap.size w6 (w6.alloc (.cells #[.int .i64 stB, .int .i64 cdB, .slice rb oB.length rd, .int .i64 spB] 31)) := (Below.refl _ _).alloc (Nat.le_refl _) _
  have hoX := OwnAt.new w6 [.int .i64 stB, .int .i64 cdB, .slice rb oB.length rd, .int .i64 spB] 31
  obtain ⟨W7, hWX⟩ : ∃ W7, w6.alloc (.cells #[.int .i64 stB, .int .i64 cdB, .slice rb oB.length rd, .int .i64 spB] 31) = W7 := ⟨_, rfl⟩
  rw [hWX] at hbX3 hoX ⊢
  replace HIN := Lib.hid (HIN.out.old hbX3)
  replace HB := Lib.hid (HB.out.trans (hbX3.mono HB.out.size))
  replace HC := Lib.hid (HC.out.old hbX3)
  replace HO := Lib.hid (HO.out.old hbX3)
  replace HNA := Lib.hid (RwOwn.old HNA.out hbX3)
  replace HA := Lib.hid (HA.out.old hbX3)
  replace HNB := Lib.hid (RwOwn.old HNB.out hbX3)
  have HBB := Lib.hid hoX
  clear hbX3 hWX hoX
  have hil : il = inp.length := by obtain ⟨a0, c0, e0⟩ := RwAt.shape HIN.out.at'; injection e0
  subst hil
  go_cut [17] from 38 to 39 (fun s17 wx => Hid (NumsOwn wx W7.heap.size inp s17) ∧ Hid (Below W7.heap.size W7 wx))
  case first =>
    cases ia with
    | none =>
      have hz : inp = [] := by
        obtain ⟨a', c', b', o', e1, e2, _, _⟩ := HIN.out.at'
        cases e1
        rcases e2 with e2 | e2
        · exact List.eq_nil_of_length_eq_zero e2
        · cases e2
      subst hz
      go_wp2_with fail
      go_meet
      exact ⟨Lib.hid (RwOwn.zero _ _ _ _ _), Lib.hid (Below.refl _ _)⟩
    | some ad =>
      go_wp2_with (at_builtin; refine wpList_numApp _ rfl _ _ rfl W7.heap.size [] _ rfl (RwOwn.zero _ _ _ _ _) inp ad inp.length ic rfl rfl (nums_cells HIN.out.at') (by show (0 + inp.length) * 8 ≤ _; omega) (Nat.le_refl _) ?_; intro pv w8 hpv hg8; have HNP := Lib.hid hpv; have HG8 : Hid (Below W7.heap.size W7 w8) := Lib.hid ⟨hg8.os, hg8.tape, hg8.output, hg8.size, fun k hk => hg8.block k hk (fun e => by cases e)⟩; clear hpv hg8)
      go_meet
      exact ⟨HNP, HG8⟩
  case rest =>
  obtain ⟨HNP, HG⟩ := hcut
  have q12 := HO.out.lt
  have HNP0 : Hid (NumsOwn wc W7.heap.size (inp ++ List.replicate 0 (-1)) u17) := Lib.hid (by rw [List.replicate_zero, List.append_nil]; exact HNP.out)
  have hHP : W7.heap.size ≤ wc.heap.size := HG.out.size
  go_wp2_with fail
  go_loopw [17, 18] (fun s17 s18 wr => ∃ j : Nat, j ≤ 202 ∧ s18 = .int .i64 j ∧ Hid (NumsOwn wr W7.heap.size (inp ++ List.replicate j (-1)) s17) ∧ Hid (Below W7.heap.size W7 wr)) (fun _ s18 _ => 202 - (intOf s18).toNat)
  case atStart => exact ⟨0, Nat.zero_le _, rfl, HNP0, HG⟩
  case round =>
    clear HNP0 HNP HG hHP
    obtain ⟨j, hj, rfl, HNP, HG⟩ := hrel
    by_cases hlt : j < 202
    · have hjI : (j : Int) < 202 := by omega
      have hbI : Below wr.heap.size wr (wr.alloc (.cells #[.int .i64 (-1)] 3)) := (Below.refl _ _).alloc (Nat.le_refl _) _
      have HNP6 := Lib.hid (RwOwn.old HNP.out hbI)
      have HM1 := Lib.hid (OwnAt.new wr [.int .i64 (-1)] 3)
      have HG6 : Hid (Below W7.heap.size W7 (wr.alloc (.cells #[.int .i64 (-1)] 3))) := Lib.hid (HG.out.trans (hbI.mono HG.out.size))
      have HLN : Hid ((inp ++ List.replicate j (-1)).length + 1 ≤ inp.length + 203) := Lib.hid (by rw [List.length_append, List.length_replicate]; omega)
      have HSN : Hid ((inp ++ List.replicate j (-1)) ++ [-1] = inp ++ List.replicate (j + 1) (-1)) := Lib.hid (by rw [List.append_assoc, ← List.replicate_succ'])
      clear hbI
      go_wp2_with (at_builtin; refine wpList_numApp _ rfl _ _ rfl W7.heap.size (inp ++ List.replicate j (-1)) _ rfl HNP6.out [-1] ⟨wr.heap.size, 0, none⟩ 1 1 rfl rfl (fun jj u hu => by rw [addr0]; exact HM1.out.at jj u hu) (by have := HLN.out; omega) HG6.out.size ?_; intro pv2 w9 hpv9 hg9; rw [HSN.out] at hpv9; have HNP9 := Lib.hid hpv9; have HG9 := Lib.hid (below_grow HG6.out hg9 (fun k e => (RwOwn.lt HNP6.out k e).1) HG6.out.size); clear hpv9 hg9)
      exact ⟨⟨j + 1, hlt, by first | rfl | (simp; done) | go_num, HNP9, HG9⟩, by simp [intOf]; omega⟩
    · have he : j = 202 := by omega
      subst he
      have hlL : (inp ++ List.replicate 202 (-1)).length + 1 = inp.length + 203 := by rw [List.length_append, List.length_replicate]
      have HX : Hid (OwnAt wr w2.heap.size [.slice aa l1 ca, .slice al l2 cl] 27) := Lib.hid (HO.out.old HG.out)
      have HRR : Hid (∀ w v, Below W7.heap.size wr w → InpAt w ((inp ++ List.replicate 202 (-1)) ++ [5]) v → Calls Tryz.prog 14 #[.agg #[.slice aa l1 ca, .slice al l2 cl], v, .int .i64 n] w fun e w' => ∃ a cap, e = .returned (.agg #[.int .i64 st, .int .i64 cd, .slice a o.length cap, .int .i64 sp]) ∧ NumsOwn w' w.heap.size o (.slice a o.length cap) ∧ Below w.heap.size w w') := Lib.hid fun w v hb hi => by
        rw [List.append_assoc] at hi
        exact HRD.out _ _ v w (HC.out.old (HG.out.trans hb)) hi
      generalize inp ++ List.replicate 202 (-1) = LL at *
      go_upto_region 12 with (fail)
      refine wp_cut (fun a' w' => RST12 w2.heap.size W7.heap.size (.slice aa l1 ca) (.slice al l2 cl) _ LL o n st cd sp wr _ _ _ _ _ _ _ _ _ _ _ _ _ _ _ _ _ _ _ _ _ _ _ _ _ _ _ _ _ _ _ _ _ _ _ _ _ _ _ _ _ _ _ _ _ _ _ _ _ _ _ _ _ _ _ _ _ _ _ _ _ _ _ _ _ _ _ _ _ _ _ _ _ _ _ _ _ _ _ _ _ _ _ _ _ _ _ a' w') ?rest (fun J K' hJ hM => then_any (reg_ST12 w2.heap.size W7.heap.size (.slice aa l1 ca) (.slice al l2 cl) _ LL o n st cd sp wr HX q12 HG.out.size HNP.out (by rw [hlL]; exact hby) HRR _ _ _ _ _ _ _ _ _ _ _ _ _ _ _ _ _ _ _ _ _ _ _ _ _ _ _ _ _ _ _ _ _ _ _ _ _ _ _ _ _ _ _ _ _ _ _ _ _ _ _ _ _ _ _ _ _ _ _ _ _ _ _ _ _ _ _ _ _ _ _ _ _ _ _ _ _ _ _ _ _ _ _ _ _ _ _ _ _ _ _ _ _ _ J K' hJ hM))
      case rest =>
      rintro a' w' ⟨tb, gp, cp, r3, c3, td, ⟨⟨hfr, hx1⟩, hr5, hup, hx2⟩, rfl⟩
      clear hx1 hx2
      dsimp only
      obtain ⟨WZ, hWZ⟩ : ∃ WZ, w' = WZ := ⟨_, rfl⟩
      rw [hWZ] at hfr hr5 hup ⊢
      clear hWZ w'
      have hfz := HG.out.trans hfr
      replace HB := Lib.hid (HB.out.trans (hfz.mono HB.out.size))
      replace HA := Lib.hid (HA.out.old hfz)
      replace HBB := Lib.hid (HBB.out.old hfz)
      replace HNA := Lib.hid (RwOwn.old HNA.out hfz)
      replace HNB := Lib.hid (RwOwn.old HNB.out hfz)
      have HU := Lib.hid hup
      have HNU := Lib.hid hr5
      clear hfr hr5 hup hfz HX HRR HRD HC HO HIN HNP HG q12
      have a0 := HA.out.at 0 _ rfl
      have a1 := HA.out.at 1 _ rfl
      have a2 := HA.out.at 2 _ rfl
      have a3 := HA.out.at 3 _ rfl
      have b0 := HBB.out.at 0 _ rfl
      have b1 := HBB.out.at 1 _ rfl
      have b2 := HBB.out.at 2 _ rfl
      have b3 := HBB.out.at 3 _ rfl
      have u0 := HU.out.at 0 _ rfl
      have u1 := HU.out.at 1 _ rfl
      have u2 := HU.out.at 2 _ rfl
      have u3 := HU.out.at 3 _ rfl
      have al' := HA.out.lt
      have bl' := HBB.out.lt
      have ul' := HU.out.lt
      go_upto_region 13 with (fail)
      go_wp2_with fail
      refine (HBG.out _ _ _ (RwOwn.nilv HNA.out (by omega) intCells_len) (RwOwn.nilv HNB.out (by omega) intCells_len)).mono ?_
      rintro e w20 ⟨rfl, hb20⟩
      replace HB := Lib.hid (HB.out.trans (hb20.mono HB.out.size))
      replace HA := Lib.hid (HA.out.old hb20)
      replace HBB := Lib.hid (HBB.out.old hb20)
      replace HNA := Lib.hid (RwOwn.old HNA.out hb20)
      replace HNB := Lib.hid (RwOwn.old HNB.out hb20)
      replace HU := Lib.hid (HU.out.old hb20)
      replace HNU := Lib.hid (RwOwn.old HNU.out hb20)
      clear hb20
      clear a0 a1 a2 a3 b0 b1 b2 b3 u0 u1 u2 u3 al' bl' ul'
      have a0 := HA.out.at 0 _ rfl
      have a1 := HA.out.at 1 _ rfl
      have a2 := HA.out.at 2 _ rfl
      have a3 := HA.out.at 3 _ rfl
      have b0 := HBB.out.at 0 _ rfl
      have b1 := HBB.out.at 1 _ rfl
      have b2 := HBB.out.at 2 _ rfl
      have b3 := HBB.out.at 3 _ rfl
      have u0 := HU.out.at 0 _ rfl
      have u1 := HU.out.at 1 _ rfl
      have u2 := HU.out.at 2 _ rfl
      have u3 := HU.out.at 3 _ rfl
      have al' := HA.out.lt
      have bl' := HBB.out.lt
      have ul' := HU.out.lt
      go_wp2_with fail
      refine (HS.out _ _ _ (RwOwn.nilv HNA.out (by omega) intCells_len) (RwOwn.nilv HNU.out (by omega) intCells_len)).mono ?_
      rintro e w21 ⟨rfl, hb21⟩
      replace HB := Lib.hid (HB.out.trans (hb21.mono HB.out.size))
      replace HA := Lib.hid (HA.out.old hb21)
      replace HBB := Lib.hid (HBB.out.old hb21)
      replace HNA := Lib.hid (RwOwn.old HNA.out hb21)
      replace HNB := Lib.hid (RwOwn.old HNB.out hb21)
      replace HU := Lib.hid (HU.out.old hb21)
      replace HNU := Lib.hid (RwOwn.old HNU.out hb21)
      clear hb21
      clear a0 a1 a2 a3 b0 b1 b2 b3 u0 u1 u2 u3 al' bl' ul'
      have a0 := HA.out.at 0 _ rfl
      have a1 := HA.out.at 1 _ rfl
      have a2 := HA.out.at 2 _ rfl
      have a3 := HA.out.at 3 _ rfl
      have b0 := HBB.out.at 0 _ rfl
      have b1 := HBB.out.at 1 _ rfl
      have b2 := HBB.out.at 2 _ rfl
      have b3 := HBB.out.at 3 _ rfl
      have al' := HA.out.lt
      have bl' := HBB.out.lt
      by_cases hs0 : st = 0
      · obtain ⟨hcd, hsp⟩ := T4.out hs0
        subst hs0
        subst hcd
        subst hsp
        clear T3 T4
        go_wp2_with fail
        go_ret
        exact ⟨by first | rfl | (simp; done), HB.out⟩
      · obtain ⟨g1, g2, g3, g4⟩ := T3.out hs0
        subst g1
        subst g2
        subst g3
        subst g4
        have hs0b : (stB == 0) = false := beq_eq_false_iff_ne.2 hs0
        clear T3 T4
        go_wp2_with fail
        refine (HS.out _ _ _ (RwOwn.nilv HNA.out (by omega) intCells_len) (RwOwn.nilv HNB.out (by omega) intCells_len)).mono ?_
        rintro e w22 ⟨rfl, hb22⟩
        go_wp2_with fail
        go_ret
        exact ⟨rfl, HB.out.trans (hb22.mono HB.out.size)⟩
end Go.Proofs.YtpgjfpphigeliaaGreatDoor
