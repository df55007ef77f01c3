/-
  step, of a return, an ecall, or none. Conditions: the machine lies in memory, its place is one of its instructions.
  step, of a call. Conditions: the machine lies in memory, its place is one of its instructions.
  step: does one instruction. Conditions: the machine lies in memory, its place is one of its instructions.
-/
import Derived.Test.YtpgjfpphigeliaaGreatDoorMachC
set_option linter.unusedVariables false
set_option linter.unusedSimpArgs false
namespace Go.Proofs.YtpgjfpphigeliaaGreatDoor
open Go.RowKit
set_option maxHeartbeats 4000000
set_option maxRecDepth 100000

theorem step_27 (K : MKon) (hf : MFix K) (k : Nat) (s : MS) (hok : MOk s) (hk : k < 1000000) (w : World) (h : MAt K k s w) (pn : Nat) (hpl : s.pl = pn) (hpn : pn < K.C.list.length) (d a b n : Int) (nm : Bs) (hi : K.C.list[pn] = ⟨27, d, a, b, n, nm⟩) :
    Calls Tryz.prog 31 #[.pointer (some ⟨K.M, 0, none⟩)] w fun e w' => e = .returned (.tuple #[]) ∧ MAt K (k + 1) (stepZ K.C s) w' := by
  have him : (⟨27, d, a, b, n, nm⟩ : Ins) ∈ K.C.list := by rw [← hi]; exact List.getElem_mem _
  obtain ⟨⟨hd0, hd1⟩, ⟨ha0, ha1⟩, ⟨hb0, hb1⟩, hn, hnm⟩ := hf.ok.well _ him
  dsimp only at hd0 hd1 ha0 ha1 hb0 hb1 hn hnm
  obtain ⟨dn, rfl⟩ : ∃ dn : Nat, d = dn := ⟨d.toNat, by omega⟩
  have htl : pn < K.C.tos.length := by rw [hf.ok.tlen]; exact hpn
  have hins : insZ K.C s.pl = ⟨27, dn, a, b, n, nm⟩ := by
    unfold insZ
    rw [hpl, Int.toNat_natCast, List.getElem?_eq_getElem hpn, hi]; rfl
  have hto : toZ K.C s.pl = K.C.tos[pn] := by
    unfold toZ
    rw [hpl, Int.toNat_natCast, List.getElem?_eq_getElem htl]; rfl
  obtain ⟨tt, htt⟩ : ∃ tt, K.C.tos[pn] = tt := ⟨_, rfl⟩
  rw [htt] at hto
  have HST : Hid (stepZ K.C s = (goZ K.C (afterZ K.C { s with pl := (pn : Int) + 1 } ⟨27, dn, a, b, n, nm⟩) ⟨27, dn, a, b, n, nm⟩ tt).setX 0 0) := Lib.hid (by
    show (goZ K.C (afterZ K.C { s with pl := s.pl + 1 } (insZ K.C s.pl)) (insZ K.C s.pl) (toZ K.C s.pl)).setX 0 0 = _
    rw [hins, hto, hpl])
  have hL := h.fr.row hf.list hf.mb hf.wb
  have hT := h.fr.row hf.tos hf.mb hf.wb
  obtain ⟨La, Lc, hvL⟩ := RwOwn.shape hf.list
  obtain ⟨Ta, Tc, hvT⟩ := RwOwn.shape hf.tos
  have hln := hf.ok.len
  have htn := hf.ok.tlen
  have hLI := RwOwn.nilv hL (by omega) insCells_len
  have hTI := RwOwn.nilv hT (by omega) intCells_len
  have cL := h.cL
  have cT := h.cT
  rw [hvL] at cL hLI
  rw [hvT] at cT hTI
  obtain ⟨bL, oL, rfl, hbL, i0, i1, i2, i3, i4, i5⟩ := InsAt.at hLI hpn
  obtain ⟨bT, oT, rfl, hbT, t0⟩ := NumsAt.at hTI htl
  rw [hi] at i0 i1 i2 i3 i4 i5
  rw [htt] at t0
  dsimp only at i0 i1 i2 i3 i4 i5
  have cpl := h.cpl
  rw [hpl] at cpl
  have fpl := h.fz 40
  have hml := h.lt
  have hpI : (pn : Int) < (K.C.list.length : Int) := by omega
  have hpT : (pn : Int) < (K.C.tos.length : Int) := by omega
  have hlI : (K.C.list.length : Int) ≤ 40000 := by omega
  have hal : Below w.heap.size w (w.alloc (.cells (insCells ⟨27, dn, a, b, n, nm⟩).toArray 39)) := (Below.refl _ _).alloc (Nat.le_refl _) _
  have HAT := Lib.hid (((h.setPl hf ((pn : Int) + 1)).old ((Below.refl _ _).alloc (Nat.le_refl _) (.cells (insCells ⟨27, dn, a, b, n, nm⟩).toArray 39))).old (Below.refl _ _).drew)
  have ho := (OwnAt.new (w.setCell ⟨K.M, 40, none⟩ (.int .i64 ((pn : Int) + 1))) (insCells ⟨27, dn, a, b, n, nm⟩) 39).old (Below.refl _ _).drew
  rw [show (w.setCell ⟨K.M, 40, none⟩ (.int .i64 ((pn : Int) + 1))).heap.size = w.heap.size by simp] at ho
  have HI := Lib.hid ho
  have HOK : Hid (MOk { s with pl := (pn : Int) + 1 }) := Lib.hid ⟨hok.x, hok.mem, hok.inp⟩
  have HIM := Lib.hid him
  have HGO : Hid (21 ≤ (27 : Int) → (27 : Int) ≤ 26 → 0 ≤ tt ∧ tt ≤ 40000) := Lib.hid (by
    have := hf.ok.go s.pl
    rw [hins, hto] at this
    exact this)
  clear hal ho h hL hT hLI hTI hvL hvT hins hto htt him hok hi
  obtain ⟨v, hv⟩ : ∃ v, (plainZ K.C { s with pl := (pn : Int) + 1 } ⟨27, dn, a, b, n, nm⟩).getD 0 = v := ⟨_, rfl⟩
  obtain ⟨bo, hbo⟩ : ∃ bo, (plainZ K.C { s with pl := (pn : Int) + 1 } ⟨27, dn, a, b, n, nm⟩).isSome = bo := ⟨_, rfl⟩
  have HPL := Lib.hid (fun w h => plain_any K hf k { s with pl := (pn : Int) + 1 } ⟨27, dn, a, b, n, nm⟩ HIM.out HOK.out w h)
  rw [hv, hbo] at HPL
  have HV := Lib.hid hv
  have HBO := Lib.hid hbo
  clear hv hbo
  go_enter Tryz.func31, Tryz.ntmps31
  go_upto_region 0 with (fail)
  rw [htn] at cT
  refine wp_cut (fun a' w' => RSt0 w K.M bL oL K.C.list.length Lc bT oT Tc pn 27 dn a b n tt nm a' w') ?rest (fun J K' hJ hM => then_any (reg_St0 w K.M bL oL K.C.list.length Lc bT oT Tc pn 27 dn a b n tt nm cL cT cpl i0 i1 i2 i3 i4 i5 t0 hpI hlI hml hbL hbT J K' hJ hM))
  case rest =>
  rintro a' w' ⟨T, hT, rfl, rfl⟩
  have HT := Lib.hid hT.symm
  clear hT
  have hq := OwnAt.new (w.setCell ⟨K.M, 40, none⟩ (.int .i64 ((pn : Int) + 1))) [.int .i64 27, .int .i64 dn, .int .i64 a, .int .i64 b, .int .i64 n, .string (strOf nm)] 39
  rw [show (w.setCell ⟨K.M, 40, none⟩ (.int .i64 ((pn : Int) + 1))).heap.size = w.heap.size by simp, HT.out] at hq
  have p0 := hq.at 0 _ rfl
  have p1 := hq.at 1 _ rfl
  have p2 := hq.at 2 _ rfl
  have p3 := hq.at 3 _ rfl
  have p4 := hq.at 4 _ rfl
  have p5 := hq.at 5 _ rfl
  clear hq
  go_wp2_with fail
  clear p0 p1 p2 p3 p4 p5
  refine (HPL.out _ HAT.out).mono ?_
  rintro e w2 ⟨rfl, hb2⟩
  have HAT2 := Lib.hid (HAT.out.old hb2)
  have HI2 := Lib.hid (HI.out.old hb2)
  have hT' := HT.out
  rw [hT'] at HI2
  have hTM : T ≠ K.M := by omega
  clear hb2 HPL HAT HI hT' HT cL cT cpl fpl hml i0 i1 i2 i3 i4 i5 t0 hbL hbT
  have g0 := HI2.out.at 0 _ rfl
  have g1 := HI2.out.at 1 _ rfl
  have g2 := HI2.out.at 2 _ rfl
  have g3 := HI2.out.at 3 _ rfl
  have g4 := HI2.out.at 4 _ rfl
  have g5 := HI2.out.at 5 _ rfl
  have hil := HI2.out.lt
  have hml := HAT2.out.lt
  have c0 : w2.cell? ⟨K.M, 4, none⟩ = some (.int .i64 (s.x 0)) := HAT2.out.cx 0 (by decide)
  have f0 := HAT2.out.fz 4
  have hdI : (dn : Int) < 32 := by omega
  have hb : bo = false := by rw [← HBO.out, plainZ_high (by show 18 < 27; omega)]; rfl
  subst hb
  rw [after_none (by show 18 < 27; omega)] at HST
  clear HV HBO
  have HST2 : Hid (stepZ K.C s = (backZ K.C { s with pl := (pn : Int) + 1 }).setX 0 0) := Lib.hid (by
    rw [HST.out]; rfl)
  have HBK := Lib.hid (fun w h => back_any K hf k { s with pl := (pn : Int) + 1 } HOK.out w h)
  clear HST
  go_wp2_with fail
  refine (HBK.out _ HAT2.out).mono ?_
  rintro e w4 ⟨rfl, hb4⟩
  have HAT4 := Lib.hid hb4
  clear hb4 c0 f0 hml hil g0 g1 g2 g3 g4 g5
  obtain ⟨sx, hsx⟩ : ∃ sx, backZ K.C { s with pl := (pn : Int) + 1 } = sx := ⟨_, rfl⟩
  rw [hsx] at HAT4
  have HSX := Lib.hid hsx
  clear hsx
  have c4 : w4.cell? ⟨K.M, 4, none⟩ = some (.int .i64 (sx.x 0)) := HAT4.out.cx 0 (by decide)
  have f4 := HAT4.out.fz 4
  have hml4 := HAT4.out.lt
  have HW := Lib.hid (HAT4.out.setX hf 0 (by decide) 0)
  go_wp2_with fail
  refine Go.Great.bodyPost_end0 rfl rfl ⟨rfl, ?_⟩
  rw [HST2.out, HSX.out]; exact HW.out.mono (Nat.le_succ k)
theorem step_28 (K : MKon) (hf : MFix K) (k : Nat) (s : MS) (hok : MOk s) (hk : k < 1000000) (w : World) (h : MAt K k s w) (pn : Nat) (hpl : s.pl = pn) (hpn : pn < K.C.list.length) (d a b n : Int) (nm : Bs) (hi : K.C.list[pn] = ⟨28, d, a, b, n, nm⟩) :
    Calls Tryz.prog 31 #[.pointer (some ⟨K.M, 0, none⟩)] w fun e w' => e = .returned (.tuple #[]) ∧ MAt K (k + 1) (stepZ K.C s) w' := by
  have him : (⟨28, d, a, b, n, nm⟩ : Ins) ∈ K.C.list := by rw [← hi]; exact List.getElem_mem _
  obtain ⟨⟨hd0, hd1⟩, ⟨ha0, ha1⟩, ⟨hb0, hb1⟩, hn, hnm⟩ := hf.ok.well _ him
  dsimp only at hd0 hd1 ha0 ha1 hb0 hb1 hn hnm
  obtain ⟨dn, rfl⟩ : ∃ dn : Nat, d = dn := ⟨d.toNat, by omega⟩
  have htl : pn < K.C.tos.length := by rw [hf.ok.tlen]; exact hpn
  have hins : insZ K.C s.pl = ⟨28, dn, a, b, n, nm⟩ := by
    unfold insZ
    rw [hpl, Int.toNat_natCast, List.getElem?_eq_getElem hpn, hi]; rfl
  have hto : toZ K.C s.pl = K.C.tos[pn] := by
    unfold toZ
    rw [hpl, Int.toNat_natCast, List.getElem?_eq_getElem htl]; rfl
  obtain ⟨tt, htt⟩ : ∃ tt, K.C.tos[pn] = tt := ⟨_, rfl⟩
  rw [htt] at hto
  have HST : Hid (stepZ K.C s = (goZ K.C (afterZ K.C { s with pl := (pn : Int) + 1 } ⟨28, dn, a, b, n, nm⟩) ⟨28, dn, a, b, n, nm⟩ tt).setX 0 0) := Lib.hid (by
    show (goZ K.C (afterZ K.C { s with pl := s.pl + 1 } (insZ K.C s.pl)) (insZ K.C s.pl) (toZ K.C s.pl)).setX 0 0 = _
    rw [hins, hto, hpl])
  have hL := h.fr.row hf.list hf.mb hf.wb
  have hT := h.fr.row hf.tos hf.mb hf.wb
  obtain ⟨La, Lc, hvL⟩ := RwOwn.shape hf.list
  obtain ⟨Ta, Tc, hvT⟩ := RwOwn.shape hf.tos
  have hln := hf.ok.len
  have htn := hf.ok.tlen
  have hLI := RwOwn.nilv hL (by omega) insCells_len
  have hTI := RwOwn.nilv hT (by omega) intCells_len
  have cL := h.cL
  have cT := h.cT
  rw [hvL] at cL hLI
  rw [hvT] at cT hTI
  obtain ⟨bL, oL, rfl, hbL, i0, i1, i2, i3, i4, i5⟩ := InsAt.at hLI hpn
  obtain ⟨bT, oT, rfl, hbT, t0⟩ := NumsAt.at hTI htl
  rw [hi] at i0 i1 i2 i3 i4 i5
  rw [htt] at t0
  dsimp only at i0 i1 i2 i3 i4 i5
  have cpl := h.cpl
  rw [hpl] at cpl
  have fpl := h.fz 40
  have hml := h.lt
  have hpI : (pn : Int) < (K.C.list.length : Int) := by omega
  have hpT : (pn : Int) < (K.C.tos.length : Int) := by omega
  have hlI : (K.C.list.length : Int) ≤ 40000 := by omega
  have hal : Below w.heap.size w (w.alloc (.cells (insCells ⟨28, dn, a, b, n, nm⟩).toArray 39)) := (Below.refl _ _).alloc (Nat.le_refl _) _
  have HAT := Lib.hid (((h.setPl hf ((pn : Int) + 1)).old ((Below.refl _ _).alloc (Nat.le_refl _) (.cells (insCells ⟨28, dn, a, b, n, nm⟩).toArray 39))).old (Below.refl _ _).drew)
  have ho := (OwnAt.new (w.setCell ⟨K.M, 40, none⟩ (.int .i64 ((pn : Int) + 1))) (insCells ⟨28, dn, a, b, n, nm⟩) 39).old (Below.refl _ _).drew
  rw [show (w.setCell ⟨K.M, 40, none⟩ (.int .i64 ((pn : Int) + 1))).heap.size = w.heap.size by simp] at ho
  have HI := Lib.hid ho
  have HOK : Hid (MOk { s with pl := (pn : Int) + 1 }) := Lib.hid ⟨hok.x, hok.mem, hok.inp⟩
  have HIM := Lib.hid him
  have HGO : Hid (21 ≤ (28 : Int) → (28 : Int) ≤ 26 → 0 ≤ tt ∧ tt ≤ 40000) := Lib.hid (by
    have := hf.ok.go s.pl
    rw [hins, hto] at this
    exact this)
  clear hal ho h hL hT hLI hTI hvL hvT hins hto htt him hok hi
  obtain ⟨v, hv⟩ : ∃ v, (plainZ K.C { s with pl := (pn : Int) + 1 } ⟨28, dn, a, b, n, nm⟩).getD 0 = v := ⟨_, rfl⟩
  obtain ⟨bo, hbo⟩ : ∃ bo, (plainZ K.C { s with pl := (pn : Int) + 1 } ⟨28, dn, a, b, n, nm⟩).isSome = bo := ⟨_, rfl⟩
  have HPL := Lib.hid (fun w h => plain_any K hf k { s with pl := (pn : Int) + 1 } ⟨28, dn, a, b, n, nm⟩ HIM.out HOK.out w h)
  rw [hv, hbo] at HPL
  have HV := Lib.hid hv
  have HBO := Lib.hid hbo
  clear hv hbo
  go_enter Tryz.func31, Tryz.ntmps31
  go_upto_region 0 with (fail)
  rw [htn] at cT
  refine wp_cut (fun a' w' => RSt0 w K.M bL oL K.C.list.length Lc bT oT Tc pn 28 dn a b n tt nm a' w') ?rest (fun J K' hJ hM => then_any (reg_St0 w K.M bL oL K.C.list.length Lc bT oT Tc pn 28 dn a b n tt nm cL cT cpl i0 i1 i2 i3 i4 i5 t0 hpI hlI hml hbL hbT J K' hJ hM))
  case rest =>
  rintro a' w' ⟨T, hT, rfl, rfl⟩
  have HT := Lib.hid hT.symm
  clear hT
  have hq := OwnAt.new (w.setCell ⟨K.M, 40, none⟩ (.int .i64 ((pn : Int) + 1))) [.int .i64 28, .int .i64 dn, .int .i64 a, .int .i64 b, .int .i64 n, .string (strOf nm)] 39
  rw [show (w.setCell ⟨K.M, 40, none⟩ (.int .i64 ((pn : Int) + 1))).heap.size = w.heap.size by simp, HT.out] at hq
  have p0 := hq.at 0 _ rfl
  have p1 := hq.at 1 _ rfl
  have p2 := hq.at 2 _ rfl
  have p3 := hq.at 3 _ rfl
  have p4 := hq.at 4 _ rfl
  have p5 := hq.at 5 _ rfl
  clear hq
  go_wp2_with fail
  clear p0 p1 p2 p3 p4 p5
  refine (HPL.out _ HAT.out).mono ?_
  rintro e w2 ⟨rfl, hb2⟩
  have HAT2 := Lib.hid (HAT.out.old hb2)
  have HI2 := Lib.hid (HI.out.old hb2)
  have hT' := HT.out
  rw [hT'] at HI2
  have hTM : T ≠ K.M := by omega
  clear hb2 HPL HAT HI hT' HT cL cT cpl fpl hml i0 i1 i2 i3 i4 i5 t0 hbL hbT
  have g0 := HI2.out.at 0 _ rfl
  have g1 := HI2.out.at 1 _ rfl
  have g2 := HI2.out.at 2 _ rfl
  have g3 := HI2.out.at 3 _ rfl
  have g4 := HI2.out.at 4 _ rfl
  have g5 := HI2.out.at 5 _ rfl
  have hil := HI2.out.lt
  have hml := HAT2.out.lt
  have c0 : w2.cell? ⟨K.M, 4, none⟩ = some (.int .i64 (s.x 0)) := HAT2.out.cx 0 (by decide)
  have f0 := HAT2.out.fz 4
  have hdI : (dn : Int) < 32 := by omega
  have hb : bo = false := by rw [← HBO.out, plainZ_high (by show 18 < 28; omega)]; rfl
  subst hb
  rw [after_none (by show 18 < 28; omega)] at HST
  clear HV HBO
  have HST2 : Hid (stepZ K.C s = (ecallZ { s with pl := (pn : Int) + 1 }).setX 0 0) := Lib.hid (by
    rw [HST.out]; rfl)
  have HEK := Lib.hid (fun w h => ecall_any K hf k { s with pl := (pn : Int) + 1 } HOK.out hk w h)
  clear HST
  go_wp2_with fail
  refine (HEK.out _ HAT2.out).mono ?_
  rintro e w4 ⟨rfl, hb4⟩
  have HAT4 := Lib.hid hb4
  clear hb4 c0 f0 hml hil g0 g1 g2 g3 g4 g5
  obtain ⟨sx, hsx⟩ : ∃ sx, ecallZ { s with pl := (pn : Int) + 1 } = sx := ⟨_, rfl⟩
  rw [hsx] at HAT4
  have HSX := Lib.hid hsx
  clear hsx
  have c4 : w4.cell? ⟨K.M, 4, none⟩ = some (.int .i64 (sx.x 0)) := HAT4.out.cx 0 (by decide)
  have f4 := HAT4.out.fz 4
  have hml4 := HAT4.out.lt
  have HW := Lib.hid (HAT4.out.setX hf 0 (by decide) 0)
  go_wp2_with fail
  refine Go.Great.bodyPost_end0 rfl rfl ⟨rfl, ?_⟩
  rw [HST2.out, HSX.out]; exact HW.out
theorem step_29 (K : MKon) (hf : MFix K) (k : Nat) (s : MS) (hok : MOk s) (hk : k < 1000000) (w : World) (h : MAt K k s w) (pn : Nat) (hpl : s.pl = pn) (hpn : pn < K.C.list.length) (op d a b n : Int) (nm : Bs) (hi : K.C.list[pn] = ⟨op, d, a, b, n, nm⟩) (hop : 28 < op) :
    Calls Tryz.prog 31 #[.pointer (some ⟨K.M, 0, none⟩)] w fun e w' => e = .returned (.tuple #[]) ∧ MAt K (k + 1) (stepZ K.C s) w' := by
  have him : (⟨op, d, a, b, n, nm⟩ : Ins) ∈ K.C.list := by rw [← hi]; exact List.getElem_mem _
  obtain ⟨⟨hd0, hd1⟩, ⟨ha0, ha1⟩, ⟨hb0, hb1⟩, hn, hnm⟩ := hf.ok.well _ him
  dsimp only at hd0 hd1 ha0 ha1 hb0 hb1 hn hnm
  obtain ⟨dn, rfl⟩ : ∃ dn : Nat, d = dn := ⟨d.toNat, by omega⟩
  have htl : pn < K.C.tos.length := by rw [hf.ok.tlen]; exact hpn
  have hins : insZ K.C s.pl = ⟨op, dn, a, b, n, nm⟩ := by
    unfold insZ
    rw [hpl, Int.toNat_natCast, List.getElem?_eq_getElem hpn, hi]; rfl
  have hto : toZ K.C s.pl = K.C.tos[pn] := by
    unfold toZ
    rw [hpl, Int.toNat_natCast, List.getElem?_eq_getElem htl]; rfl
  obtain ⟨tt, htt⟩ : ∃ tt, K.C.tos[pn] = tt := ⟨_, rfl⟩
  rw [htt] at hto
  have HST : Hid (stepZ K.C s = (goZ K.C (afterZ K.C { s with pl := (pn : Int) + 1 } ⟨op, dn, a, b, n, nm⟩) ⟨op, dn, a, b, n, nm⟩ tt).setX 0 0) := Lib.hid (by
    show (goZ K.C (afterZ K.C { s with pl := s.pl + 1 } (insZ K.C s.pl)) (insZ K.C s.pl) (toZ K.C s.pl)).setX 0 0 = _
    rw [hins, hto, hpl])
  have hL := h.fr.row hf.list hf.mb hf.wb
  have hT := h.fr.row hf.tos hf.mb hf.wb
  obtain ⟨La, Lc, hvL⟩ := RwOwn.shape hf.list
  obtain ⟨Ta, Tc, hvT⟩ := RwOwn.shape hf.tos
  have hln := hf.ok.len
  have htn := hf.ok.tlen
  have hLI := RwOwn.nilv hL (by omega) insCells_len
  have hTI := RwOwn.nilv hT (by omega) intCells_len
  have cL := h.cL
  have cT := h.cT
  rw [hvL] at cL hLI
  rw [hvT] at cT hTI
  obtain ⟨bL, oL, rfl, hbL, i0, i1, i2, i3, i4, i5⟩ := InsAt.at hLI hpn
  obtain ⟨bT, oT, rfl, hbT, t0⟩ := NumsAt.at hTI htl
  rw [hi] at i0 i1 i2 i3 i4 i5
  rw [htt] at t0
  dsimp only at i0 i1 i2 i3 i4 i5
  have cpl := h.cpl
  rw [hpl] at cpl
  have fpl := h.fz 40
  have hml := h.lt
  have hpI : (pn : Int) < (K.C.list.length : Int) := by omega
  have hpT : (pn : Int) < (K.C.tos.length : Int) := by omega
  have hlI : (K.C.list.length : Int) ≤ 40000 := by omega
  have hal : Below w.heap.size w (w.alloc (.cells (insCells ⟨op, dn, a, b, n, nm⟩).toArray 39)) := (Below.refl _ _).alloc (Nat.le_refl _) _
  have HAT := Lib.hid (((h.setPl hf ((pn : Int) + 1)).old ((Below.refl _ _).alloc (Nat.le_refl _) (.cells (insCells ⟨op, dn, a, b, n, nm⟩).toArray 39))).old (Below.refl _ _).drew)
  have ho := (OwnAt.new (w.setCell ⟨K.M, 40, none⟩ (.int .i64 ((pn : Int) + 1))) (insCells ⟨op, dn, a, b, n, nm⟩) 39).old (Below.refl _ _).drew
  rw [show (w.setCell ⟨K.M, 40, none⟩ (.int .i64 ((pn : Int) + 1))).heap.size = w.heap.size by simp] at ho
  have HI := Lib.hid ho
  have HOK : Hid (MOk { s with pl := (pn : Int) + 1 }) := Lib.hid ⟨hok.x, hok.mem, hok.inp⟩
  have HIM := Lib.hid him
  have HGO : Hid (21 ≤ (op : Int) → (op : Int) ≤ 26 → 0 ≤ tt ∧ tt ≤ 40000) := Lib.hid (by
    have := hf.ok.go s.pl
    rw [hins, hto] at this
    exact this)
  clear hal ho h hL hT hLI hTI hvL hvT hins hto htt him hok hi
  obtain ⟨v, hv⟩ : ∃ v, (plainZ K.C { s with pl := (pn : Int) + 1 } ⟨op, dn, a, b, n, nm⟩).getD 0 = v := ⟨_, rfl⟩
  obtain ⟨bo, hbo⟩ : ∃ bo, (plainZ K.C { s with pl := (pn : Int) + 1 } ⟨op, dn, a, b, n, nm⟩).isSome = bo := ⟨_, rfl⟩
  have HPL := Lib.hid (fun w h => plain_any K hf k { s with pl := (pn : Int) + 1 } ⟨op, dn, a, b, n, nm⟩ HIM.out HOK.out w h)
  rw [hv, hbo] at HPL
  have HV := Lib.hid hv
  have HBO := Lib.hid hbo
  clear hv hbo
  go_enter Tryz.func31, Tryz.ntmps31
  go_upto_region 0 with (fail)
  rw [htn] at cT
  refine wp_cut (fun a' w' => RSt0 w K.M bL oL K.C.list.length Lc bT oT Tc pn op dn a b n tt nm a' w') ?rest (fun J K' hJ hM => then_any (reg_St0 w K.M bL oL K.C.list.length Lc bT oT Tc pn op dn a b n tt nm cL cT cpl i0 i1 i2 i3 i4 i5 t0 hpI hlI hml hbL hbT J K' hJ hM))
  case rest =>
  rintro a' w' ⟨T, hT, rfl, rfl⟩
  have HT := Lib.hid hT.symm
  clear hT
  have hq := OwnAt.new (w.setCell ⟨K.M, 40, none⟩ (.int .i64 ((pn : Int) + 1))) [.int .i64 op, .int .i64 dn, .int .i64 a, .int .i64 b, .int .i64 n, .string (strOf nm)] 39
  rw [show (w.setCell ⟨K.M, 40, none⟩ (.int .i64 ((pn : Int) + 1))).heap.size = w.heap.size by simp, HT.out] at hq
  have p0 := hq.at 0 _ rfl
  have p1 := hq.at 1 _ rfl
  have p2 := hq.at 2 _ rfl
  have p3 := hq.at 3 _ rfl
  have p4 := hq.at 4 _ rfl
  have p5 := hq.at 5 _ rfl
  clear hq
  go_wp2_with fail
  clear p0 p1 p2 p3 p4 p5
  refine (HPL.out _ HAT.out).mono ?_
  rintro e w2 ⟨rfl, hb2⟩
  have HAT2 := Lib.hid (HAT.out.old hb2)
  have HI2 := Lib.hid (HI.out.old hb2)
  have hT' := HT.out
  rw [hT'] at HI2
  have hTM : T ≠ K.M := by omega
  clear hb2 HPL HAT HI hT' HT cL cT cpl fpl hml i0 i1 i2 i3 i4 i5 t0 hbL hbT
  have g0 := HI2.out.at 0 _ rfl
  have g1 := HI2.out.at 1 _ rfl
  have g2 := HI2.out.at 2 _ rfl
  have g3 := HI2.out.at 3 _ rfl
  have g4 := HI2.out.at 4 _ rfl
  have g5 := HI2.out.at 5 _ rfl
  have hil := HI2.out.lt
  have hml := HAT2.out.lt
  have c0 : w2.cell? ⟨K.M, 4, none⟩ = some (.int .i64 (s.x 0)) := HAT2.out.cx 0 (by decide)
  have f0 := HAT2.out.fz 4
  have hdI : (dn : Int) < 32 := by omega
  have hb : bo = false := by rw [← HBO.out, plainZ_high (by show 18 < op; omega)]; rfl
  subst hb
  rw [after_none (by show 18 < op; omega)] at HST
  clear HV HBO
  have HST2 : Hid (stepZ K.C s = ({ s with pl := (pn : Int) + 1 } : MS).setX 0 0) := Lib.hid (by
    rw [HST.out, goZ_low (.inr (by show 28 < op; omega))])
  clear HST
  have o19 : (op == 19) = false := beq_eq_false_iff_ne.2 (by omega)
  have o20 : (op == 20) = false := beq_eq_false_iff_ne.2 (by omega)
  have o21 : (op == 21) = false := beq_eq_false_iff_ne.2 (by omega)
  have o22 : (op == 22) = false := beq_eq_false_iff_ne.2 (by omega)
  have o23 : (op == 23) = false := beq_eq_false_iff_ne.2 (by omega)
  have o24 : (op == 24) = false := beq_eq_false_iff_ne.2 (by omega)
  have o25 : (op == 25) = false := beq_eq_false_iff_ne.2 (by omega)
  have o26 : (op == 26) = false := beq_eq_false_iff_ne.2 (by omega)
  have o27 : (op == 27) = false := beq_eq_false_iff_ne.2 (by omega)
  have o28 : (op == 28) = false := beq_eq_false_iff_ne.2 (by omega)
  have HW := Lib.hid (HAT2.out.setX hf 0 (by decide) 0)
  go_wp2_with fail
  refine Go.Great.bodyPost_end0 rfl rfl ⟨rfl, ?_⟩
  rw [HST2.out]; exact HW.out.mono (Nat.le_succ k)
end Go.Proofs.YtpgjfpphigeliaaGreatDoor

namespace Go.Proofs.YtpgjfpphigeliaaGreatDoor
open Go.RowKit
set_option maxHeartbeats 4000000
set_option maxRecDepth 100000

theorem step_26 (K : MKon) (hf : MFix K) (k : Nat) (s : MS) (hok : MOk s) (hk : k < 1000000) (w : World) (h : MAt K k s w) (pn : Nat) (hpl : s.pl = pn) (hpn : pn < K.C.list.length) (d a b n : Int) (nm : Bs) (hi : K.C.list[pn] = ⟨26, d, a, b, n, nm⟩) :
    Calls Tryz.prog 31 #[.pointer (some ⟨K.M, 0, none⟩)] w fun e w' => e = .returned (.tuple #[]) ∧ MAt K (k + 1) (stepZ K.C s) w' := by
  have him : (⟨26, d, a, b, n, nm⟩ : Ins) ∈ K.C.list := by rw [← hi]; exact List.getElem_mem _
  obtain ⟨⟨hd0, hd1⟩, ⟨ha0, ha1⟩, ⟨hb0, hb1⟩, hn, hnm⟩ := hf.ok.well _ him
  dsimp only at hd0 hd1 ha0 ha1 hb0 hb1 hn hnm
  obtain ⟨dn, rfl⟩ : ∃ dn : Nat, d = dn := ⟨d.toNat, by omega⟩
  have htl : pn < K.C.tos.length := by rw [hf.ok.tlen]; exact hpn
  have hins : insZ K.C s.pl = ⟨26, dn, a, b, n, nm⟩ := by
    unfold insZ
    rw [hpl, Int.toNat_natCast, List.getElem?_eq_getElem hpn, hi]; rfl
  have hto : toZ K.C s.pl = K.C.tos[pn] := by
    unfold toZ
    rw [hpl, Int.toNat_natCast, List.getElem?_eq_getElem htl]; rfl
  obtain ⟨tt, htt⟩ : ∃ tt, K.C.tos[pn] = tt := ⟨_, rfl⟩
  rw [htt] at hto
  have HST : Hid (stepZ K.C s = (goZ K.C (afterZ K.C { s with pl := (pn : Int) + 1 } ⟨26, dn, a, b, n, nm⟩) ⟨26, dn, a, b, n, nm⟩ tt).setX 0 0) := Lib.hid (by
    show (goZ K.C (afterZ K.C { s with pl := s.pl + 1 } (insZ K.C s.pl)) (insZ K.C s.pl) (toZ K.C s.pl)).setX 0 0 = _
    rw [hins, hto, hpl])
  have hL := h.fr.row hf.list hf.mb hf.wb
  have hT := h.fr.row hf.tos hf.mb hf.wb
  obtain ⟨La, Lc, hvL⟩ := RwOwn.shape hf.list
  obtain ⟨Ta, Tc, hvT⟩ := RwOwn.shape hf.tos
  have hln := hf.ok.len
  have htn := hf.ok.tlen
  have hLI := RwOwn.nilv hL (by omega) insCells_len
  have hTI := RwOwn.nilv hT (by omega) intCells_len
  have cL := h.cL
  have cT := h.cT
  rw [hvL] at cL hLI
  rw [hvT] at cT hTI
  obtain ⟨bL, oL, rfl, hbL, i0, i1, i2, i3, i4, i5⟩ := InsAt.at hLI hpn
  obtain ⟨bT, oT, rfl, hbT, t0⟩ := NumsAt.at hTI htl
  rw [hi] at i0 i1 i2 i3 i4 i5
  rw [htt] at t0
  dsimp only at i0 i1 i2 i3 i4 i5
  have cpl := h.cpl
  rw [hpl] at cpl
  have fpl := h.fz 40
  have hml := h.lt
  have hpI : (pn : Int) < (K.C.list.length : Int) := by omega
  have hpT : (pn : Int) < (K.C.tos.length : Int) := by omega
  have hlI : (K.C.list.length : Int) ≤ 40000 := by omega
  have hal : Below w.heap.size w (w.alloc (.cells (insCells ⟨26, dn, a, b, n, nm⟩).toArray 39)) := (Below.refl _ _).alloc (Nat.le_refl _) _
  have HAT := Lib.hid (((h.setPl hf ((pn : Int) + 1)).old ((Below.refl _ _).alloc (Nat.le_refl _) (.cells (insCells ⟨26, dn, a, b, n, nm⟩).toArray 39))).old (Below.refl _ _).drew)
  have ho := (OwnAt.new (w.setCell ⟨K.M, 40, none⟩ (.int .i64 ((pn : Int) + 1))) (insCells ⟨26, dn, a, b, n, nm⟩) 39).old (Below.refl _ _).drew
  rw [show (w.setCell ⟨K.M, 40, none⟩ (.int .i64 ((pn : Int) + 1))).heap.size = w.heap.size by simp] at ho
  have HI := Lib.hid ho
  have HOK : Hid (MOk { s with pl := (pn : Int) + 1 }) := Lib.hid ⟨hok.x, hok.mem, hok.inp⟩
  have HIM := Lib.hid him
  have HGO : Hid (21 ≤ (26 : Int) → (26 : Int) ≤ 26 → 0 ≤ tt ∧ tt ≤ 40000) := Lib.hid (by
    have := hf.ok.go s.pl
    rw [hins, hto] at this
    exact this)
  clear hal ho h hL hT hLI hTI hvL hvT hins hto htt him hok hi
  obtain ⟨v, hv⟩ : ∃ v, (plainZ K.C { s with pl := (pn : Int) + 1 } ⟨26, dn, a, b, n, nm⟩).getD 0 = v := ⟨_, rfl⟩
  obtain ⟨bo, hbo⟩ : ∃ bo, (plainZ K.C { s with pl := (pn : Int) + 1 } ⟨26, dn, a, b, n, nm⟩).isSome = bo := ⟨_, rfl⟩
  have HPL := Lib.hid (fun w h => plain_any K hf k { s with pl := (pn : Int) + 1 } ⟨26, dn, a, b, n, nm⟩ HIM.out HOK.out w h)
  rw [hv, hbo] at HPL
  have HV := Lib.hid hv
  have HBO := Lib.hid hbo
  clear hv hbo
  go_enter Tryz.func31, Tryz.ntmps31
  go_upto_region 0 with (fail)
  rw [htn] at cT
  refine wp_cut (fun a' w' => RSt0 w K.M bL oL K.C.list.length Lc bT oT Tc pn 26 dn a b n tt nm a' w') ?rest (fun J K' hJ hM => then_any (reg_St0 w K.M bL oL K.C.list.length Lc bT oT Tc pn 26 dn a b n tt nm cL cT cpl i0 i1 i2 i3 i4 i5 t0 hpI hlI hml hbL hbT J K' hJ hM))
  case rest =>
  rintro a' w' ⟨T, hT, rfl, rfl⟩
  have HT := Lib.hid hT.symm
  clear hT
  have hq := OwnAt.new (w.setCell ⟨K.M, 40, none⟩ (.int .i64 ((pn : Int) + 1))) [.int .i64 26, .int .i64 dn, .int .i64 a, .int .i64 b, .int .i64 n, .string (strOf nm)] 39
  rw [show (w.setCell ⟨K.M, 40, none⟩ (.int .i64 ((pn : Int) + 1))).heap.size = w.heap.size by simp, HT.out] at hq
  have p0 := hq.at 0 _ rfl
  have p1 := hq.at 1 _ rfl
  have p2 := hq.at 2 _ rfl
  have p3 := hq.at 3 _ rfl
  have p4 := hq.at 4 _ rfl
  have p5 := hq.at 5 _ rfl
  clear hq
  go_wp2_with fail
  clear p0 p1 p2 p3 p4 p5
  refine (HPL.out _ HAT.out).mono ?_
  rintro e w2 ⟨rfl, hb2⟩
  have HAT2 := Lib.hid (HAT.out.old hb2)
  have HI2 := Lib.hid (HI.out.old hb2)
  have hT' := HT.out
  rw [hT'] at HI2
  have hTM : T ≠ K.M := by omega
  clear hb2 HPL HAT HI hT' HT cL cT cpl fpl hml i0 i1 i2 i3 i4 i5 t0 hbL hbT
  have g0 := HI2.out.at 0 _ rfl
  have g1 := HI2.out.at 1 _ rfl
  have g2 := HI2.out.at 2 _ rfl
  have g3 := HI2.out.at 3 _ rfl
  have g4 := HI2.out.at 4 _ rfl
  have g5 := HI2.out.at 5 _ rfl
  have hil := HI2.out.lt
  have hml := HAT2.out.lt
  have c0 : w2.cell? ⟨K.M, 4, none⟩ = some (.int .i64 (s.x 0)) := HAT2.out.cx 0 (by decide)
  have f0 := HAT2.out.fz 4
  have hdI : (dn : Int) < 32 := by omega
  have hb : bo = false := by rw [← HBO.out, plainZ_high (by show 18 < 26; omega)]; rfl
  subst hb
  rw [after_none (by show 18 < 26; omega)] at HST
  clear HV HBO
  have HST2 : Hid (stepZ K.C s = ({ ({ s with pl := (pn : Int) + 1 } : MS).setX 1 (4 * ((pn : Int) + 1)) with pl := tt }).setX 0 0) := Lib.hid (by
    rw [HST.out]; rfl)
  clear HST
  have c1 : w2.cell? ⟨K.M, 5, none⟩ = some (.int .i64 (s.x 1)) := HAT2.out.cx 1 (by decide)
  have f1 := HAT2.out.fz 5
  have cp := HAT2.out.cpl
  have fp := HAT2.out.fz 40
  have HAT3 := Lib.hid (((HAT2.out.setX hf 1 (by decide) (4 * ((pn : Int) + 1))).setPl hf tt).old (Below.refl _ _).drew)
  have HI3 := Lib.hid (((HI2.out.other hTM 5 (.int .i64 (4 * ((pn : Int) + 1)))).other hTM 40 (.int .i64 tt)).old (Below.refl _ _).drew)
  go_wp2_with fail
  go_region
  obtain ⟨W3, hW3⟩ : ∃ W3, ((w2.setCell ⟨K.M, 5, none⟩ (.int .i64 (4 * ((pn : Int) + 1)))).setCell ⟨K.M, 40, none⟩ (.int .i64 tt)).drew = W3 := ⟨_, rfl⟩
  have HAT4 := HAT3
  rw [show (4 + (1 : Int).toNat) = 5 from rfl, hW3] at HAT4
  rw [hW3] at HI3 ⊢
  clear hW3 HAT3 c0 f0 c1 f1 cp fp g0 g1 g2 g3 g4 g5 hml hil
  obtain ⟨sx, hsx⟩ : ∃ sx, { ({ s with pl := (pn : Int) + 1 } : MS).setX 1 (4 * ((pn : Int) + 1)) with pl := tt } = sx := ⟨_, rfl⟩
  rw [hsx] at HAT4 HST2
  clear hsx
  have g0 := HI3.out.at 0 _ rfl
  have c4 : W3.cell? ⟨K.M, 4, none⟩ = some (.int .i64 (sx.x 0)) := HAT4.out.cx 0 (by decide)
  have f4 := HAT4.out.fz 4
  have hml4 := HAT4.out.lt
  have hil := HI3.out.lt
  have HW := Lib.hid (HAT4.out.setX hf 0 (by decide) 0)
  go_wp2_with fail
  refine Go.Great.bodyPost_end0 rfl rfl ⟨rfl, ?_⟩
  rw [HST2.out]; exact HW.out.mono (Nat.le_succ k)
end Go.Proofs.YtpgjfpphigeliaaGreatDoor

namespace Go.Proofs.YtpgjfpphigeliaaGreatDoor
open Go.RowKit
set_option maxHeartbeats 4000000
set_option maxRecDepth 100000

theorem step_any (K : MKon) (hf : MFix K) (k : Nat) (s : MS) (hok : MOk s) (hk : k < 1000000) (hp0 : 0 ≤ s.pl) (hp : s.pl < K.C.list.length) (w : World) (h : MAt K k s w) :
    Calls Tryz.prog 31 #[.pointer (some ⟨K.M, 0, none⟩)] w fun e w' => e = .returned (.tuple #[]) ∧ MAt K (k + 1) (stepZ K.C s) w' := by
  obtain ⟨pn, hpn⟩ : ∃ pn : Nat, s.pl = pn := ⟨s.pl.toNat, by omega⟩
  have hlt : pn < K.C.list.length := by omega
  obtain ⟨i, hi⟩ : ∃ i, K.C.list[pn] = i := ⟨_, rfl⟩
  obtain ⟨op, d, a, b, n, nm⟩ := i
  by_cases h1 : op ≤ 18
  · exact step_low K hf k s hok hk w h pn hpn hlt op d a b n nm hi h1
  by_cases h19 : op = 19
  · subst h19; exact step_19 K hf k s hok hk w h pn hpn hlt d a b n nm hi
  by_cases h20 : op = 20
  · subst h20; exact step_20 K hf k s hok hk w h pn hpn hlt d a b n nm hi
  by_cases h21 : op = 21
  · subst h21; exact step_21 K hf k s hok hk w h pn hpn hlt d a b n nm hi
  by_cases h22 : op = 22
  · subst h22; exact step_22 K hf k s hok hk w h pn hpn hlt d a b n nm hi
  by_cases h23 : op = 23
  · subst h23; exact step_23 K hf k s hok hk w h pn hpn hlt d a b n nm hi
  by_cases h24 : op = 24
  · subst h24; exact step_24 K hf k s hok hk w h pn hpn hlt d a b n nm hi
  by_cases h25 : op = 25
  · subst h25; exact step_25 K hf k s hok hk w h pn hpn hlt d a b n nm hi
  by_cases h26 : op = 26
  · subst h26; exact step_26 K hf k s hok hk w h pn hpn hlt d a b n nm hi
  by_cases h27 : op = 27
  · subst h27; exact step_27 K hf k s hok hk w h pn hpn hlt d a b n nm hi
  by_cases h28 : op = 28
  · subst h28; exact step_28 K hf k s hok hk w h pn hpn hlt d a b n nm hi
  exact step_29 K hf k s hok hk w h pn hpn hlt op d a b n nm hi (by omega)
end Go.Proofs.YtpgjfpphigeliaaGreatDoor
