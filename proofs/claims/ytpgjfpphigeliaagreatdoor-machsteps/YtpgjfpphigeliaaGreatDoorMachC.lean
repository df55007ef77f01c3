/-
  step, its first region: the instruction at the machine's place. Condition: it lies in memory.
  step, of an instruction that goes nowhere. Conditions: the machine lies in memory, its place is one of its instructions.
  step, of an instruction that loads or stores. Conditions: the machine lies in memory, its place is one of its instructions.
  step, of a branch or a jump. Conditions: the machine lies in memory, its place is one of its instructions.
-/
import Derived.Test.YtpgjfpphigeliaaGreatDoorMachB
import Derived.Test.YtpgjfpphigeliaaGreatDoorAsmC
set_option linter.unusedVariables false
set_option linter.unusedSimpArgs false
namespace Go.Proofs.YtpgjfpphigeliaaGreatDoor
open Go.RowKit
set_option maxHeartbeats 4000000
set_option maxRecDepth 100000

theorem goZ_low {C : MC} {s : MS} {i : Ins} {t : Int} (h : i.op < 19 ∨ 28 < i.op) : goZ C s i t = s := by
  unfold goZ
  rw [if_neg (by omega), if_neg (by omega), if_neg (by omega), if_neg (by omega), if_neg (by omega)]
theorem after_some {C : MC} {s : MS} {i : Ins} {v : Int} (h : plainZ C s i = some v) : afterZ C s i = s.setX i.d v := by
  unfold afterZ; rw [h]
theorem plainZ_low {C : MC} {s : MS} {i : Ins} (h : i.op ≤ 18) : ∃ v, plainZ C s i = some v := by
  unfold plainZ
  by_cases h13 : i.op = 13
  · exact ⟨_, if_pos h13⟩
  rw [if_neg h13]
  by_cases h14 : i.op = 14
  · exact ⟨_, if_pos h14⟩
  rw [if_neg h14]
  by_cases h15 : i.op = 15
  · exact ⟨_, if_pos h15⟩
  rw [if_neg h15]
  by_cases h16 : i.op = 16
  · exact ⟨_, if_pos h16⟩
  rw [if_neg h16]
  by_cases h17 : i.op = 17
  · exact ⟨_, if_pos h17⟩
  rw [if_neg h17]
  by_cases h18 : i.op = 18
  · exact ⟨_, if_pos h18⟩
  rw [if_neg h18]
  exact ⟨_, if_pos (by omega)⟩
theorem plainZ_high {C : MC} {s : MS} {i : Ins} (h : 18 < i.op) : plainZ C s i = none := by
  unfold plainZ
  rw [if_neg (by omega), if_neg (by omega), if_neg (by omega), if_neg (by omega), if_neg (by omega), if_neg (by omega), if_neg (by omega)]
theorem after_none {C : MC} {s : MS} {i : Ins} (h : 18 < i.op) : afterZ C s i = s := by
  unfold afterZ; rw [plainZ_high h]
def RSt0 (w : World) (M bL oL nL Lc bT oT Tc pn : Nat) (op d a b n tt : Int) (nm : Bs) (a' : Act) (w' : World) : Prop :=
  ∃ I : Nat, I = w.heap.size ∧ w' = (w.alloc (.cells #[.int .i64 op, .int .i64 d, .int .i64 a, .int .i64 b, .int .i64 n, .string (strOf nm)] 39)).drew ∧ a' = ⟨[.pointer (some ⟨M, 0, none⟩), undef, .pointer (some ⟨I, 0, none⟩), .int .i64 tt, undef, undef, .pointer (some ⟨M, 0, none⟩), .pointer (some ⟨M, 0, none⟩), .pointer (some ⟨M, 2, none⟩), .slice (some ⟨bL, oL, none⟩) nL Lc, .pointer (some ⟨M, 0, none⟩), .pointer (some ⟨M, 0, none⟩), .pointer (some ⟨M, 40, none⟩), .int .i64 pn, .pointer (some ⟨bL, oL + pn * 6, none⟩), .agg #[.int .i64 op, .int .i64 d, .int .i64 a, .int .i64 b, .int .i64 n, .string (strOf nm)], .pointer (some ⟨M, 0, none⟩), .pointer (some ⟨M, 0, none⟩), .pointer (some ⟨M, 3, none⟩), .slice (some ⟨bT, oT, none⟩) nL Tc, .pointer (some ⟨M, 0, none⟩), .pointer (some ⟨M, 0, none⟩), .pointer (some ⟨M, 40, none⟩), .int .i64 pn, .pointer (some ⟨bT, oT + pn, none⟩), .int .i64 tt, undef, undef, undef, undef, undef, undef, undef, undef, undef, undef, undef, undef, undef, undef, undef, undef, undef, undef, undef, undef, undef, undef, undef, undef, undef, undef, undef, undef, undef, undef, undef, undef, undef, undef, undef, undef, undef, undef, undef, undef, undef, undef, undef, undef, undef, undef, undef, undef, undef, undef, undef, undef, undef, undef, undef, undef, undef, undef, undef, undef, undef, undef, undef, undef, undef, undef, undef, undef, undef].toArray, []⟩
theorem reg_St0 (w : World) (M bL oL nL Lc bT oT Tc pn : Nat) (op d a b n tt : Int) (nm : Bs)
    (cL : w.cell? ⟨M, 2, none⟩ = some (.slice (some ⟨bL, oL, none⟩) nL Lc)) (cT : w.cell? ⟨M, 3, none⟩ = some (.slice (some ⟨bT, oT, none⟩) nL Tc)) (cpl : w.cell? ⟨M, 40, none⟩ = some (.int .i64 pn))
    (i0 : w.cell? ⟨bL, oL + pn * 6, none⟩ = some (.int .i64 op)) (i1 : w.cell? ⟨bL, oL + pn * 6 + 1, none⟩ = some (.int .i64 d)) (i2 : w.cell? ⟨bL, oL + pn * 6 + 2, none⟩ = some (.int .i64 a)) (i3 : w.cell? ⟨bL, oL + pn * 6 + 3, none⟩ = some (.int .i64 b)) (i4 : w.cell? ⟨bL, oL + pn * 6 + 4, none⟩ = some (.int .i64 n)) (i5 : w.cell? ⟨bL, oL + pn * 6 + 5, none⟩ = some (.string (strOf nm)))
    (t0 : w.cell? ⟨bT, oT + pn, none⟩ = some (.int .i64 tt)) (hpI : (pn : Int) < (nL : Int)) (hlI : (nL : Int) ≤ 40000) (hml : M < w.heap.size) (hbL : bL < w.heap.size) (hbT : bT < w.heap.size)
    (J K' : Act → World → Prop) (hJ : ∀ a' w', RSt0 w M bL oL nL Lc bT oT Tc pn op d a b n tt nm a' w' → J a' w') (hM : ∀ a' w', Met J a' w' → K' a' w') :
    Code.wp Tryz.prog ((Tryz.f31.body.bind (regOf 0)).getD .skip) (Exit.then K' (fun _ _ _ => False)) ⟨[.pointer (some ⟨M, 0, none⟩), undef, undef, undef, undef, undef, undef, undef, undef, undef, undef, undef, undef, undef, undef, undef, undef, undef, undef, undef, undef, undef, undef, undef, undef, undef, undef, undef, undef, undef, undef, undef, undef, undef, undef, undef, undef, undef, undef, undef, undef, undef, undef, undef, undef, undef, undef, undef, undef, undef, undef, undef, undef, undef, undef, undef, undef, undef, undef, undef, undef, undef, undef, undef, undef, undef, undef, undef, undef, undef, undef, undef, undef, undef, undef, undef, undef, undef, undef, undef, undef, undef, undef, undef, undef, undef, undef, undef, undef, undef, undef, undef, undef, undef, undef].toArray, []⟩ w := by
  conv => arg 2; whnf
  dsimp only
  go_region
  exact hM _ _ (Met.intro (hJ _ _ ⟨_, rfl, rfl, rfl⟩))
end Go.Proofs.YtpgjfpphigeliaaGreatDoor

namespace Go.Proofs.YtpgjfpphigeliaaGreatDoor
open Go.RowKit
set_option maxHeartbeats 4000000
set_option maxRecDepth 100000

theorem step_low (K : MKon) (hf : MFix K) (k : Nat) (s : MS) (hok : MOk s) (hk : k < 1000000) (w : World) (h : MAt K k s w) (pn : Nat) (hpl : s.pl = pn) (hpn : pn < K.C.list.length) (op d a b n : Int) (nm : Bs) (hi : K.C.list[pn] = ⟨op, d, a, b, n, nm⟩) (hop : op ≤ 18) :
    Calls Tryz.prog 31 #[.pointer (some ⟨K.M, 0, none⟩)] w fun e w' => e = .returned (.tuple #[]) ∧ MAt K (k + 1) (stepZ K.C s) w' := by
  have him : (⟨op, d, a, b, n, nm⟩ : Ins) ∈ K.C.list := by rw [← hi]; exact List.getElem_mem _
  obtain ⟨⟨hd0, hd1⟩, ⟨ha0, ha1⟩, ⟨hb0, hb1⟩, hn, hnm⟩ := hf.ok.well _ him
  dsimp only at hd0 hd1 ha0 ha1 hb0 hb1 hn hnm
  obtain ⟨dn, rfl⟩ : ∃ dn : Nat, d = dn := ⟨d.toNat, by omega⟩
  have htl : pn < K.C.tos.length := by rw [hf.ok.tlen]; exact hpn
  have hins : insZ K.C s.pl = ⟨op, dn, a, b, n, nm⟩ := by
    unfold insZ
    rw [hpl, Int.toNat_natCast, List.getElem?_eq_getElem hpn, hi]; rfl
  have hto : toZ K.C s.pl = K.C.tos[pn] := by
    unfold toZ
    rw [hpl, Int.toNat_natCast, List.getElem?_eq_getElem htl]; rfl
  obtain ⟨tt, htt⟩ : ∃ tt, K.C.tos[pn] = tt := ⟨_, rfl⟩
  rw [htt] at hto
  have HST : Hid (stepZ K.C s = (goZ K.C (afterZ K.C { s with pl := (pn : Int) + 1 } ⟨op, dn, a, b, n, nm⟩) ⟨op, dn, a, b, n, nm⟩ tt).setX 0 0) := Lib.hid (by
    show (goZ K.C (afterZ K.C { s with pl := s.pl + 1 } (insZ K.C s.pl)) (insZ K.C s.pl) (toZ K.C s.pl)).setX 0 0 = _
    rw [hins, hto, hpl])
  have hL := h.fr.row hf.list hf.mb hf.wb
  have hT := h.fr.row hf.tos hf.mb hf.wb
  obtain ⟨La, Lc, hvL⟩ := RwOwn.shape hf.list
  obtain ⟨Ta, Tc, hvT⟩ := RwOwn.shape hf.tos
  have hln := hf.ok.len
  have htn := hf.ok.tlen
  have hLI := RwOwn.nilv hL (by omega) insCells_len
  have hTI := RwOwn.nilv hT (by omega) intCells_len
  have cL := h.cL
  have cT := h.cT
  rw [hvL] at cL hLI
  rw [hvT] at cT hTI
  obtain ⟨bL, oL, rfl, hbL, i0, i1, i2, i3, i4, i5⟩ := InsAt.at hLI hpn
  obtain ⟨bT, oT, rfl, hbT, t0⟩ := NumsAt.at hTI htl
  rw [hi] at i0 i1 i2 i3 i4 i5
  rw [htt] at t0
  dsimp only at i0 i1 i2 i3 i4 i5
  have cpl := h.cpl
  rw [hpl] at cpl
  have fpl := h.fz 40
  have hml := h.lt
  have hpI : (pn : Int) < (K.C.list.length : Int) := by omega
  have hpT : (pn : Int) < (K.C.tos.length : Int) := by omega
  have hlI : (K.C.list.length : Int) ≤ 40000 := by omega
  have hal : Below w.heap.size w (w.alloc (.cells (insCells ⟨op, dn, a, b, n, nm⟩).toArray 39)) := (Below.refl _ _).alloc (Nat.le_refl _) _
  have HAT := Lib.hid (((h.setPl hf ((pn : Int) + 1)).old ((Below.refl _ _).alloc (Nat.le_refl _) (.cells (insCells ⟨op, dn, a, b, n, nm⟩).toArray 39))).old (Below.refl _ _).drew)
  have ho := (OwnAt.new (w.setCell ⟨K.M, 40, none⟩ (.int .i64 ((pn : Int) + 1))) (insCells ⟨op, dn, a, b, n, nm⟩) 39).old (Below.refl _ _).drew
  rw [show (w.setCell ⟨K.M, 40, none⟩ (.int .i64 ((pn : Int) + 1))).heap.size = w.heap.size by simp] at ho
  have HI := Lib.hid ho
  have HOK : Hid (MOk { s with pl := (pn : Int) + 1 }) := Lib.hid ⟨hok.x, hok.mem, hok.inp⟩
  have HIM := Lib.hid him
  have HGO : Hid (21 ≤ (op : Int) → (op : Int) ≤ 26 → 0 ≤ tt ∧ tt ≤ 40000) := Lib.hid (by
    have := hf.ok.go s.pl
    rw [hins, hto] at this
    exact this)
  clear hal ho h hL hT hLI hTI hvL hvT hins hto htt him hok hi
  obtain ⟨v, hv⟩ : ∃ v, (plainZ K.C { s with pl := (pn : Int) + 1 } ⟨op, dn, a, b, n, nm⟩).getD 0 = v := ⟨_, rfl⟩
  obtain ⟨bo, hbo⟩ : ∃ bo, (plainZ K.C { s with pl := (pn : Int) + 1 } ⟨op, dn, a, b, n, nm⟩).isSome = bo := ⟨_, rfl⟩
  have HPL := Lib.hid (fun w h => plain_any K hf k { s with pl := (pn : Int) + 1 } ⟨op, dn, a, b, n, nm⟩ HIM.out HOK.out w h)
  rw [hv, hbo] at HPL
  have HV := Lib.hid hv
  have HBO := Lib.hid hbo
  clear hv hbo
  go_enter Tryz.func31, Tryz.ntmps31
  go_upto_region 0 with (fail)
  rw [htn] at cT
  refine wp_cut (fun a' w' => RSt0 w K.M bL oL K.C.list.length Lc bT oT Tc pn op dn a b n tt nm a' w') ?rest (fun J K' hJ hM => then_any (reg_St0 w K.M bL oL K.C.list.length Lc bT oT Tc pn op dn a b n tt nm cL cT cpl i0 i1 i2 i3 i4 i5 t0 hpI hlI hml hbL hbT J K' hJ hM))
  case rest =>
  rintro a' w' ⟨T, hT, rfl, rfl⟩
  have HT := Lib.hid hT.symm
  clear hT
  have hq := OwnAt.new (w.setCell ⟨K.M, 40, none⟩ (.int .i64 ((pn : Int) + 1))) [.int .i64 op, .int .i64 dn, .int .i64 a, .int .i64 b, .int .i64 n, .string (strOf nm)] 39
  rw [show (w.setCell ⟨K.M, 40, none⟩ (.int .i64 ((pn : Int) + 1))).heap.size = w.heap.size by simp, HT.out] at hq
  have p0 := hq.at 0 _ rfl
  have p1 := hq.at 1 _ rfl
  have p2 := hq.at 2 _ rfl
  have p3 := hq.at 3 _ rfl
  have p4 := hq.at 4 _ rfl
  have p5 := hq.at 5 _ rfl
  clear hq
  go_wp2_with fail
  clear p0 p1 p2 p3 p4 p5
  refine (HPL.out _ HAT.out).mono ?_
  rintro e w2 ⟨rfl, hb2⟩
  have HAT2 := Lib.hid (HAT.out.old hb2)
  have HI2 := Lib.hid (HI.out.old hb2)
  have hT' := HT.out
  rw [hT'] at HI2
  have hTM : T ≠ K.M := by omega
  clear hb2 HPL HAT HI hT' HT cL cT cpl fpl hml i0 i1 i2 i3 i4 i5 t0 hbL hbT
  have g0 := HI2.out.at 0 _ rfl
  have g1 := HI2.out.at 1 _ rfl
  have g2 := HI2.out.at 2 _ rfl
  have g3 := HI2.out.at 3 _ rfl
  have g4 := HI2.out.at 4 _ rfl
  have g5 := HI2.out.at 5 _ rfl
  have hil := HI2.out.lt
  have hml := HAT2.out.lt
  have c0 : w2.cell? ⟨K.M, 4, none⟩ = some (.int .i64 (s.x 0)) := HAT2.out.cx 0 (by decide)
  have f0 := HAT2.out.fz 4
  have hdI : (dn : Int) < 32 := by omega
  obtain ⟨v', hv'⟩ := plainZ_low (C := K.C) (s := { s with pl := (pn : Int) + 1 }) (i := ⟨op, dn, a, b, n, nm⟩) hop
  have hb : bo = true := by rw [← HBO.out, hv']; rfl
  have hvv : v' = v := by rw [← HV.out, hv']; rfl
  subst hb hvv
  have HST2 : Hid (stepZ K.C s = ({ s with pl := (pn : Int) + 1 }.setX dn v').setX 0 0) := Lib.hid (by
    rw [HST.out, after_some hv', goZ_low (.inl (by show op < 19; omega))])
  clear hv' HV HBO HST
  have o19 : (op == 19) = false := beq_eq_false_iff_ne.2 (by omega)
  have o20 : (op == 20) = false := beq_eq_false_iff_ne.2 (by omega)
  have o21 : (op == 21) = false := beq_eq_false_iff_ne.2 (by omega)
  have o22 : (op == 22) = false := beq_eq_false_iff_ne.2 (by omega)
  have o23 : (op == 23) = false := beq_eq_false_iff_ne.2 (by omega)
  have o24 : (op == 24) = false := beq_eq_false_iff_ne.2 (by omega)
  have o25 : (op == 25) = false := beq_eq_false_iff_ne.2 (by omega)
  have o26 : (op == 26) = false := beq_eq_false_iff_ne.2 (by omega)
  have o27 : (op == 27) = false := beq_eq_false_iff_ne.2 (by omega)
  have o28 : (op == 28) = false := beq_eq_false_iff_ne.2 (by omega)
  have cd : w2.cell? ⟨K.M, 4 + dn, none⟩ = some (.int .i64 (s.x dn)) := HAT2.out.cx dn (by omega)
  have fd := HAT2.out.fz (4 + dn)
  have HAT3 := Lib.hid ((HAT2.out.setX hf dn (by omega) v').old (Below.refl _ _).drew)
  have HI3 := Lib.hid ((HI2.out.other hTM (4 + dn) (.int .i64 v')).old (Below.refl _ _).drew)
  go_wp2_with fail
  go_region
  obtain ⟨W3, hW3⟩ : ∃ W3, (w2.setCell ⟨K.M, 4 + dn, none⟩ (.int .i64 v')).drew = W3 := ⟨_, rfl⟩
  rw [show ((dn : Int)).toNat = dn by omega, hW3] at HAT3
  rw [hW3] at HI3 ⊢
  clear hW3 c0 f0 g0 g1 g2 g3 g4 g5 cd fd hml hil
  have g0 := HI3.out.at 0 _ rfl
  have c0 : W3.cell? ⟨K.M, 4, none⟩ = some (.int .i64 (({ s with pl := (pn : Int) + 1 }.setX dn v').x 0)) := HAT3.out.cx 0 (by decide)
  have f0 := HAT3.out.fz 4
  have hml := HAT3.out.lt
  have hil := HI3.out.lt
  have HW := Lib.hid (HAT3.out.setX hf 0 (by decide) 0)
  generalize ({ s with pl := (pn : Int) + 1 }.setX dn v').x 0 = y0 at *
  go_wp2_with fail
  refine Go.Great.bodyPost_end0 rfl rfl ⟨rfl, ?_⟩
  rw [HST2.out]; exact HW.out.mono (Nat.le_succ k)
end Go.Proofs.YtpgjfpphigeliaaGreatDoor

namespace Go.Proofs.YtpgjfpphigeliaaGreatDoor
open Go.RowKit
set_option maxHeartbeats 4000000
set_option maxRecDepth 100000

theorem step_19 (K : MKon) (hf : MFix K) (k : Nat) (s : MS) (hok : MOk s) (hk : k < 1000000) (w : World) (h : MAt K k s w) (pn : Nat) (hpl : s.pl = pn) (hpn : pn < K.C.list.length) (d a b n : Int) (nm : Bs) (hi : K.C.list[pn] = ⟨19, d, a, b, n, nm⟩) :
    Calls Tryz.prog 31 #[.pointer (some ⟨K.M, 0, none⟩)] w fun e w' => e = .returned (.tuple #[]) ∧ MAt K (k + 1) (stepZ K.C s) w' := by
  have him : (⟨19, d, a, b, n, nm⟩ : Ins) ∈ K.C.list := by rw [← hi]; exact List.getElem_mem _
  obtain ⟨⟨hd0, hd1⟩, ⟨ha0, ha1⟩, ⟨hb0, hb1⟩, hn, hnm⟩ := hf.ok.well _ him
  dsimp only at hd0 hd1 ha0 ha1 hb0 hb1 hn hnm
  obtain ⟨dn, rfl⟩ : ∃ dn : Nat, d = dn := ⟨d.toNat, by omega⟩
  have htl : pn < K.C.tos.length := by rw [hf.ok.tlen]; exact hpn
  have hins : insZ K.C s.pl = ⟨19, dn, a, b, n, nm⟩ := by
    unfold insZ
    rw [hpl, Int.toNat_natCast, List.getElem?_eq_getElem hpn, hi]; rfl
  have hto : toZ K.C s.pl = K.C.tos[pn] := by
    unfold toZ
    rw [hpl, Int.toNat_natCast, List.getElem?_eq_getElem htl]; rfl
  obtain ⟨tt, htt⟩ : ∃ tt, K.C.tos[pn] = tt := ⟨_, rfl⟩
  rw [htt] at hto
  have HST : Hid (stepZ K.C s = (goZ K.C (afterZ K.C { s with pl := (pn : Int) + 1 } ⟨19, dn, a, b, n, nm⟩) ⟨19, dn, a, b, n, nm⟩ tt).setX 0 0) := Lib.hid (by
    show (goZ K.C (afterZ K.C { s with pl := s.pl + 1 } (insZ K.C s.pl)) (insZ K.C s.pl) (toZ K.C s.pl)).setX 0 0 = _
    rw [hins, hto, hpl])
  have hL := h.fr.row hf.list hf.mb hf.wb
  have hT := h.fr.row hf.tos hf.mb hf.wb
  obtain ⟨La, Lc, hvL⟩ := RwOwn.shape hf.list
  obtain ⟨Ta, Tc, hvT⟩ := RwOwn.shape hf.tos
  have hln := hf.ok.len
  have htn := hf.ok.tlen
  have hLI := RwOwn.nilv hL (by omega) insCells_len
  have hTI := RwOwn.nilv hT (by omega) intCells_len
  have cL := h.cL
  have cT := h.cT
  rw [hvL] at cL hLI
  rw [hvT] at cT hTI
  obtain ⟨bL, oL, rfl, hbL, i0, i1, i2, i3, i4, i5⟩ := InsAt.at hLI hpn
  obtain ⟨bT, oT, rfl, hbT, t0⟩ := NumsAt.at hTI htl
  rw [hi] at i0 i1 i2 i3 i4 i5
  rw [htt] at t0
  dsimp only at i0 i1 i2 i3 i4 i5
  have cpl := h.cpl
  rw [hpl] at cpl
  have fpl := h.fz 40
  have hml := h.lt
  have hpI : (pn : Int) < (K.C.list.length : Int) := by omega
  have hpT : (pn : Int) < (K.C.tos.length : Int) := by omega
  have hlI : (K.C.list.length : Int) ≤ 40000 := by omega
  have hal : Below w.heap.size w (w.alloc (.cells (insCells ⟨19, dn, a, b, n, nm⟩).toArray 39)) := (Below.refl _ _).alloc (Nat.le_refl _) _
  have HAT := Lib.hid (((h.setPl hf ((pn : Int) + 1)).old ((Below.refl _ _).alloc (Nat.le_refl _) (.cells (insCells ⟨19, dn, a, b, n, nm⟩).toArray 39))).old (Below.refl _ _).drew)
  have ho := (OwnAt.new (w.setCell ⟨K.M, 40, none⟩ (.int .i64 ((pn : Int) + 1))) (insCells ⟨19, dn, a, b, n, nm⟩) 39).old (Below.refl _ _).drew
  rw [show (w.setCell ⟨K.M, 40, none⟩ (.int .i64 ((pn : Int) + 1))).heap.size = w.heap.size by simp] at ho
  have HI := Lib.hid ho
  have HOK : Hid (MOk { s with pl := (pn : Int) + 1 }) := Lib.hid ⟨hok.x, hok.mem, hok.inp⟩
  have HIM := Lib.hid him
  have HGO : Hid (21 ≤ (19 : Int) → (19 : Int) ≤ 26 → 0 ≤ tt ∧ tt ≤ 40000) := Lib.hid (by
    have := hf.ok.go s.pl
    rw [hins, hto] at this
    exact this)
  clear hal ho h hL hT hLI hTI hvL hvT hins hto htt him hok hi
  obtain ⟨v, hv⟩ : ∃ v, (plainZ K.C { s with pl := (pn : Int) + 1 } ⟨19, dn, a, b, n, nm⟩).getD 0 = v := ⟨_, rfl⟩
  obtain ⟨bo, hbo⟩ : ∃ bo, (plainZ K.C { s with pl := (pn : Int) + 1 } ⟨19, dn, a, b, n, nm⟩).isSome = bo := ⟨_, rfl⟩
  have HPL := Lib.hid (fun w h => plain_any K hf k { s with pl := (pn : Int) + 1 } ⟨19, dn, a, b, n, nm⟩ HIM.out HOK.out w h)
  rw [hv, hbo] at HPL
  have HV := Lib.hid hv
  have HBO := Lib.hid hbo
  clear hv hbo
  go_enter Tryz.func31, Tryz.ntmps31
  go_upto_region 0 with (fail)
  rw [htn] at cT
  refine wp_cut (fun a' w' => RSt0 w K.M bL oL K.C.list.length Lc bT oT Tc pn 19 dn a b n tt nm a' w') ?rest (fun J K' hJ hM => then_any (reg_St0 w K.M bL oL K.C.list.length Lc bT oT Tc pn 19 dn a b n tt nm cL cT cpl i0 i1 i2 i3 i4 i5 t0 hpI hlI hml hbL hbT J K' hJ hM))
  case rest =>
  rintro a' w' ⟨T, hT, rfl, rfl⟩
  have HT := Lib.hid hT.symm
  clear hT
  have hq := OwnAt.new (w.setCell ⟨K.M, 40, none⟩ (.int .i64 ((pn : Int) + 1))) [.int .i64 19, .int .i64 dn, .int .i64 a, .int .i64 b, .int .i64 n, .string (strOf nm)] 39
  rw [show (w.setCell ⟨K.M, 40, none⟩ (.int .i64 ((pn : Int) + 1))).heap.size = w.heap.size by simp, HT.out] at hq
  have p0 := hq.at 0 _ rfl
  have p1 := hq.at 1 _ rfl
  have p2 := hq.at 2 _ rfl
  have p3 := hq.at 3 _ rfl
  have p4 := hq.at 4 _ rfl
  have p5 := hq.at 5 _ rfl
  clear hq
  go_wp2_with fail
  clear p0 p1 p2 p3 p4 p5
  refine (HPL.out _ HAT.out).mono ?_
  rintro e w2 ⟨rfl, hb2⟩
  have HAT2 := Lib.hid (HAT.out.old hb2)
  have HI2 := Lib.hid (HI.out.old hb2)
  have hT' := HT.out
  rw [hT'] at HI2
  have hTM : T ≠ K.M := by omega
  clear hb2 HPL HAT HI hT' HT cL cT cpl fpl hml i0 i1 i2 i3 i4 i5 t0 hbL hbT
  have g0 := HI2.out.at 0 _ rfl
  have g1 := HI2.out.at 1 _ rfl
  have g2 := HI2.out.at 2 _ rfl
  have g3 := HI2.out.at 3 _ rfl
  have g4 := HI2.out.at 4 _ rfl
  have g5 := HI2.out.at 5 _ rfl
  have hil := HI2.out.lt
  have hml := HAT2.out.lt
  have c0 : w2.cell? ⟨K.M, 4, none⟩ = some (.int .i64 (s.x 0)) := HAT2.out.cx 0 (by decide)
  have f0 := HAT2.out.fz 4
  have hdI : (dn : Int) < 32 := by omega
  have hb : bo = false := by rw [← HBO.out, plainZ_high (by show 18 < 19; omega)]; rfl
  subst hb
  rw [after_none (by show 18 < 19; omega)] at HST
  clear HV HBO
  have HST2 : Hid (stepZ K.C s = (memZ K.C { s with pl := (pn : Int) + 1 } ⟨19, dn, a, b, n, nm⟩).setX 0 0) := Lib.hid (by
    rw [HST.out]; rfl)
  have HMM := Lib.hid (fun w h => memory_any K hf k { s with pl := (pn : Int) + 1 } ⟨19, dn, a, b, n, nm⟩ HIM.out HOK.out (by omega) w h)
  clear HST
  go_wp2_with fail
  refine (HMM.out _ HAT2.out).mono ?_
  rintro e w4 ⟨rfl, hb4⟩
  have HAT4 := Lib.hid hb4
  clear hb4 c0 f0 hml hil g0 g1 g2 g3 g4 g5
  obtain ⟨sx, hsx⟩ : ∃ sx, memZ K.C { s with pl := (pn : Int) + 1 } ⟨19, dn, a, b, n, nm⟩ = sx := ⟨_, rfl⟩
  rw [hsx] at HAT4
  have HSX := Lib.hid hsx
  clear hsx
  have c4 : w4.cell? ⟨K.M, 4, none⟩ = some (.int .i64 (sx.x 0)) := HAT4.out.cx 0 (by decide)
  have f4 := HAT4.out.fz 4
  have hml4 := HAT4.out.lt
  have HW := Lib.hid (HAT4.out.setX hf 0 (by decide) 0)
  go_wp2_with fail
  refine Go.Great.bodyPost_end0 rfl rfl ⟨rfl, ?_⟩
  rw [HST2.out, HSX.out]; exact HW.out
theorem step_20 (K : MKon) (hf : MFix K) (k : Nat) (s : MS) (hok : MOk s) (hk : k < 1000000) (w : World) (h : MAt K k s w) (pn : Nat) (hpl : s.pl = pn) (hpn : pn < K.C.list.length) (d a b n : Int) (nm : Bs) (hi : K.C.list[pn] = ⟨20, d, a, b, n, nm⟩) :
    Calls Tryz.prog 31 #[.pointer (some ⟨K.M, 0, none⟩)] w fun e w' => e = .returned (.tuple #[]) ∧ MAt K (k + 1) (stepZ K.C s) w' := by
  have him : (⟨20, d, a, b, n, nm⟩ : Ins) ∈ K.C.list := by rw [← hi]; exact List.getElem_mem _
  obtain ⟨⟨hd0, hd1⟩, ⟨ha0, ha1⟩, ⟨hb0, hb1⟩, hn, hnm⟩ := hf.ok.well _ him
  dsimp only at hd0 hd1 ha0 ha1 hb0 hb1 hn hnm
  obtain ⟨dn, rfl⟩ : ∃ dn : Nat, d = dn := ⟨d.toNat, by omega⟩
  have htl : pn < K.C.tos.length := by rw [hf.ok.tlen]; exact hpn
  have hins : insZ K.C s.pl = ⟨20, dn, a, b, n, nm⟩ := by
    unfold insZ
    rw [hpl, Int.toNat_natCast, List.getElem?_eq_getElem hpn, hi]; rfl
  have hto : toZ K.C s.pl = K.C.tos[pn] := by
    unfold toZ
    rw [hpl, Int.toNat_natCast, List.getElem?_eq_getElem htl]; rfl
  obtain ⟨tt, htt⟩ : ∃ tt, K.C.tos[pn] = tt := ⟨_, rfl⟩
  rw [htt] at hto
  have HST : Hid (stepZ K.C s = (goZ K.C (afterZ K.C { s with pl := (pn : Int) + 1 } ⟨20, dn, a, b, n, nm⟩) ⟨20, dn, a, b, n, nm⟩ tt).setX 0 0) := Lib.hid (by
    show (goZ K.C (afterZ K.C { s with pl := s.pl + 1 } (insZ K.C s.pl)) (insZ K.C s.pl) (toZ K.C s.pl)).setX 0 0 = _
    rw [hins, hto, hpl])
  have hL := h.fr.row hf.list hf.mb hf.wb
  have hT := h.fr.row hf.tos hf.mb hf.wb
  obtain ⟨La, Lc, hvL⟩ := RwOwn.shape hf.list
  obtain ⟨Ta, Tc, hvT⟩ := RwOwn.shape hf.tos
  have hln := hf.ok.len
  have htn := hf.ok.tlen
  have hLI := RwOwn.nilv hL (by omega) insCells_len
  have hTI := RwOwn.nilv hT (by omega) intCells_len
  have cL := h.cL
  have cT := h.cT
  rw [hvL] at cL hLI
  rw [hvT] at cT hTI
  obtain ⟨bL, oL, rfl, hbL, i0, i1, i2, i3, i4, i5⟩ := InsAt.at hLI hpn
  obtain ⟨bT, oT, rfl, hbT, t0⟩ := NumsAt.at hTI htl
  rw [hi] at i0 i1 i2 i3 i4 i5
  rw [htt] at t0
  dsimp only at i0 i1 i2 i3 i4 i5
  have cpl := h.cpl
  rw [hpl] at cpl
  have fpl := h.fz 40
  have hml := h.lt
  have hpI : (pn : Int) < (K.C.list.length : Int) := by omega
  have hpT : (pn : Int) < (K.C.tos.length : Int) := by omega
  have hlI : (K.C.list.length : Int) ≤ 40000 := by omega
  have hal : Below w.heap.size w (w.alloc (.cells (insCells ⟨20, dn, a, b, n, nm⟩).toArray 39)) := (Below.refl _ _).alloc (Nat.le_refl _) _
  have HAT := Lib.hid (((h.setPl hf ((pn : Int) + 1)).old ((Below.refl _ _).alloc (Nat.le_refl _) (.cells (insCells ⟨20, dn, a, b, n, nm⟩).toArray 39))).old (Below.refl _ _).drew)
  have ho := (OwnAt.new (w.setCell ⟨K.M, 40, none⟩ (.int .i64 ((pn : Int) + 1))) (insCells ⟨20, dn, a, b, n, nm⟩) 39).old (Below.refl _ _).drew
  rw [show (w.setCell ⟨K.M, 40, none⟩ (.int .i64 ((pn : Int) + 1))).heap.size = w.heap.size by simp] at ho
  have HI := Lib.hid ho
  have HOK : Hid (MOk { s with pl := (pn : Int) + 1 }) := Lib.hid ⟨hok.x, hok.mem, hok.inp⟩
  have HIM := Lib.hid him
  have HGO : Hid (21 ≤ (20 : Int) → (20 : Int) ≤ 26 → 0 ≤ tt ∧ tt ≤ 40000) := Lib.hid (by
    have := hf.ok.go s.pl
    rw [hins, hto] at this
    exact this)
  clear hal ho h hL hT hLI hTI hvL hvT hins hto htt him hok hi
  obtain ⟨v, hv⟩ : ∃ v, (plainZ K.C { s with pl := (pn : Int) + 1 } ⟨20, dn, a, b, n, nm⟩).getD 0 = v := ⟨_, rfl⟩
  obtain ⟨bo, hbo⟩ : ∃ bo, (plainZ K.C { s with pl := (pn : Int) + 1 } ⟨20, dn, a, b, n, nm⟩).isSome = bo := ⟨_, rfl⟩
  have HPL := Lib.hid (fun w h => plain_any K hf k { s with pl := (pn : Int) + 1 } ⟨20, dn, a, b, n, nm⟩ HIM.out HOK.out w h)
  rw [hv, hbo] at HPL
  have HV := Lib.hid hv
  have HBO := Lib.hid hbo
  clear hv hbo
  go_enter Tryz.func31, Tryz.ntmps31
  go_upto_region 0 with (fail)
  rw [htn] at cT
  refine wp_cut (fun a' w' => RSt0 w K.M bL oL K.C.list.length Lc bT oT Tc pn 20 dn a b n tt nm a' w') ?rest (fun J K' hJ hM => then_any (reg_St0 w K.M bL oL K.C.list.length Lc bT oT Tc pn 20 dn a b n tt nm cL cT cpl i0 i1 i2 i3 i4 i5 t0 hpI hlI hml hbL hbT J K' hJ hM))
  case rest =>
  rintro a' w' ⟨T, hT, rfl, rfl⟩
  have HT := Lib.hid hT.symm
  clear hT
  have hq := OwnAt.new (w.setCell ⟨K.M, 40, none⟩ (.int .i64 ((pn : Int) + 1))) [.int .i64 20, .int .i64 dn, .int .i64 a, .int .i64 b, .int .i64 n, .string (strOf nm)] 39
  rw [show (w.setCell ⟨K.M, 40, none⟩ (.int .i64 ((pn : Int) + 1))).heap.size = w.heap.size by simp, HT.out] at hq
  have p0 := hq.at 0 _ rfl
  have p1 := hq.at 1 _ rfl
  have p2 := hq.at 2 _ rfl
  have p3 := hq.at 3 _ rfl
  have p4 := hq.at 4 _ rfl
  have p5 := hq.at 5 _ rfl
  clear hq
  go_wp2_with fail
  clear p0 p1 p2 p3 p4 p5
  refine (HPL.out _ HAT.out).mono ?_
  rintro e w2 ⟨rfl, hb2⟩
  have HAT2 := Lib.hid (HAT.out.old hb2)
  have HI2 := Lib.hid (HI.out.old hb2)
  have hT' := HT.out
  rw [hT'] at HI2
  have hTM : T ≠ K.M := by omega
  clear hb2 HPL HAT HI hT' HT cL cT cpl fpl hml i0 i1 i2 i3 i4 i5 t0 hbL hbT
  have g0 := HI2.out.at 0 _ rfl
  have g1 := HI2.out.at 1 _ rfl
  have g2 := HI2.out.at 2 _ rfl
  have g3 := HI2.out.at 3 _ rfl
  have g4 := HI2.out.at 4 _ rfl
  have g5 := HI2.out.at 5 _ rfl
  have hil := HI2.out.lt
  have hml := HAT2.out.lt
  have c0 : w2.cell? ⟨K.M, 4, none⟩ = some (.int .i64 (s.x 0)) := HAT2.out.cx 0 (by decide)
  have f0 := HAT2.out.fz 4
  have hdI : (dn : Int) < 32 := by omega
  have hb : bo = false := by rw [← HBO.out, plainZ_high (by show 18 < 20; omega)]; rfl
  subst hb
  rw [after_none (by show 18 < 20; omega)] at HST
  clear HV HBO
  have HST2 : Hid (stepZ K.C s = (memZ K.C { s with pl := (pn : Int) + 1 } ⟨20, dn, a, b, n, nm⟩).setX 0 0) := Lib.hid (by
    rw [HST.out]; rfl)
  have HMM := Lib.hid (fun w h => memory_any K hf k { s with pl := (pn : Int) + 1 } ⟨20, dn, a, b, n, nm⟩ HIM.out HOK.out (by omega) w h)
  clear HST
  go_wp2_with fail
  refine (HMM.out _ HAT2.out).mono ?_
  rintro e w4 ⟨rfl, hb4⟩
  have HAT4 := Lib.hid hb4
  clear hb4 c0 f0 hml hil g0 g1 g2 g3 g4 g5
  obtain ⟨sx, hsx⟩ : ∃ sx, memZ K.C { s with pl := (pn : Int) + 1 } ⟨20, dn, a, b, n, nm⟩ = sx := ⟨_, rfl⟩
  rw [hsx] at HAT4
  have HSX := Lib.hid hsx
  clear hsx
  have c4 : w4.cell? ⟨K.M, 4, none⟩ = some (.int .i64 (sx.x 0)) := HAT4.out.cx 0 (by decide)
  have f4 := HAT4.out.fz 4
  have hml4 := HAT4.out.lt
  have HW := Lib.hid (HAT4.out.setX hf 0 (by decide) 0)
  go_wp2_with fail
  refine Go.Great.bodyPost_end0 rfl rfl ⟨rfl, ?_⟩
  rw [HST2.out, HSX.out]; exact HW.out
end Go.Proofs.YtpgjfpphigeliaaGreatDoor

namespace Go.Proofs.YtpgjfpphigeliaaGreatDoor
open Go.RowKit
set_option maxHeartbeats 4000000
set_option maxRecDepth 100000

theorem step_21 (K : MKon) (hf : MFix K) (k : Nat) (s : MS) (hok : MOk s) (hk : k < 1000000) (w : World) (h : MAt K k s w) (pn : Nat) (hpl : s.pl = pn) (hpn : pn < K.C.list.length) (d a b n : Int) (nm : Bs) (hi : K.C.list[pn] = ⟨21, d, a, b, n, nm⟩) :
    Calls Tryz.prog 31 #[.pointer (some ⟨K.M, 0, none⟩)] w fun e w' => e = .returned (.tuple #[]) ∧ MAt K (k + 1) (stepZ K.C s) w' := by
  have him : (⟨21, d, a, b, n, nm⟩ : Ins) ∈ K.C.list := by rw [← hi]; exact List.getElem_mem _
  obtain ⟨⟨hd0, hd1⟩, ⟨ha0, ha1⟩, ⟨hb0, hb1⟩, hn, hnm⟩ := hf.ok.well _ him
  dsimp only at hd0 hd1 ha0 ha1 hb0 hb1 hn hnm
  obtain ⟨dn, rfl⟩ : ∃ dn : Nat, d = dn := ⟨d.toNat, by omega⟩
  have htl : pn < K.C.tos.length := by rw [hf.ok.tlen]; exact hpn
  have hins : insZ K.C s.pl = ⟨21, dn, a, b, n, nm⟩ := by
    unfold insZ
    rw [hpl, Int.toNat_natCast, List.getElem?_eq_getElem hpn, hi]; rfl
  have hto : toZ K.C s.pl = K.C.tos[pn] := by
    unfold toZ
    rw [hpl, Int.toNat_natCast, List.getElem?_eq_getElem htl]; rfl
  obtain ⟨tt, htt⟩ : ∃ tt, K.C.tos[pn] = tt := ⟨_, rfl⟩
  rw [htt] at hto
  have HST : Hid (stepZ K.C s = (goZ K.C (afterZ K.C { s with pl := (pn : Int) + 1 } ⟨21, dn, a, b, n, nm⟩) ⟨21, dn, a, b, n, nm⟩ tt).setX 0 0) := Lib.hid (by
    show (goZ K.C (afterZ K.C { s with pl := s.pl + 1 } (insZ K.C s.pl)) (insZ K.C s.pl) (toZ K.C s.pl)).setX 0 0 = _
    rw [hins, hto, hpl])
  have hL := h.fr.row hf.list hf.mb hf.wb
  have hT := h.fr.row hf.tos hf.mb hf.wb
  obtain ⟨La, Lc, hvL⟩ := RwOwn.shape hf.list
  obtain ⟨Ta, Tc, hvT⟩ := RwOwn.shape hf.tos
  have hln := hf.ok.len
  have htn := hf.ok.tlen
  have hLI := RwOwn.nilv hL (by omega) insCells_len
  have hTI := RwOwn.nilv hT (by omega) intCells_len
  have cL := h.cL
  have cT := h.cT
  rw [hvL] at cL hLI
  rw [hvT] at cT hTI
  obtain ⟨bL, oL, rfl, hbL, i0, i1, i2, i3, i4, i5⟩ := InsAt.at hLI hpn
  obtain ⟨bT, oT, rfl, hbT, t0⟩ := NumsAt.at hTI htl
  rw [hi] at i0 i1 i2 i3 i4 i5
  rw [htt] at t0
  dsimp only at i0 i1 i2 i3 i4 i5
  have cpl := h.cpl
  rw [hpl] at cpl
  have fpl := h.fz 40
  have hml := h.lt
  have hpI : (pn : Int) < (K.C.list.length : Int) := by omega
  have hpT : (pn : Int) < (K.C.tos.length : Int) := by omega
  have hlI : (K.C.list.length : Int) ≤ 40000 := by omega
  have hal : Below w.heap.size w (w.alloc (.cells (insCells ⟨21, dn, a, b, n, nm⟩).toArray 39)) := (Below.refl _ _).alloc (Nat.le_refl _) _
  have HAT := Lib.hid (((h.setPl hf ((pn : Int) + 1)).old ((Below.refl _ _).alloc (Nat.le_refl _) (.cells (insCells ⟨21, dn, a, b, n, nm⟩).toArray 39))).old (Below.refl _ _).drew)
  have ho := (OwnAt.new (w.setCell ⟨K.M, 40, none⟩ (.int .i64 ((pn : Int) + 1))) (insCells ⟨21, dn, a, b, n, nm⟩) 39).old (Below.refl _ _).drew
  rw [show (w.setCell ⟨K.M, 40, none⟩ (.int .i64 ((pn : Int) + 1))).heap.size = w.heap.size by simp] at ho
  have HI := Lib.hid ho
  have HOK : Hid (MOk { s with pl := (pn : Int) + 1 }) := Lib.hid ⟨hok.x, hok.mem, hok.inp⟩
  have HIM := Lib.hid him
  have HGO : Hid (21 ≤ (21 : Int) → (21 : Int) ≤ 26 → 0 ≤ tt ∧ tt ≤ 40000) := Lib.hid (by
    have := hf.ok.go s.pl
    rw [hins, hto] at this
    exact this)
  clear hal ho h hL hT hLI hTI hvL hvT hins hto htt him hok hi
  obtain ⟨v, hv⟩ : ∃ v, (plainZ K.C { s with pl := (pn : Int) + 1 } ⟨21, dn, a, b, n, nm⟩).getD 0 = v := ⟨_, rfl⟩
  obtain ⟨bo, hbo⟩ : ∃ bo, (plainZ K.C { s with pl := (pn : Int) + 1 } ⟨21, dn, a, b, n, nm⟩).isSome = bo := ⟨_, rfl⟩
  have HPL := Lib.hid (fun w h => plain_any K hf k { s with pl := (pn : Int) + 1 } ⟨21, dn, a, b, n, nm⟩ HIM.out HOK.out w h)
  rw [hv, hbo] at HPL
  have HV := Lib.hid hv
  have HBO := Lib.hid hbo
  clear hv hbo
  go_enter Tryz.func31, Tryz.ntmps31
  go_upto_region 0 with (fail)
  rw [htn] at cT
  refine wp_cut (fun a' w' => RSt0 w K.M bL oL K.C.list.length Lc bT oT Tc pn 21 dn a b n tt nm a' w') ?rest (fun J K' hJ hM => then_any (reg_St0 w K.M bL oL K.C.list.length Lc bT oT Tc pn 21 dn a b n tt nm cL cT cpl i0 i1 i2 i3 i4 i5 t0 hpI hlI hml hbL hbT J K' hJ hM))
  case rest =>
  rintro a' w' ⟨T, hT, rfl, rfl⟩
  have HT := Lib.hid hT.symm
  clear hT
  have hq := OwnAt.new (w.setCell ⟨K.M, 40, none⟩ (.int .i64 ((pn : Int) + 1))) [.int .i64 21, .int .i64 dn, .int .i64 a, .int .i64 b, .int .i64 n, .string (strOf nm)] 39
  rw [show (w.setCell ⟨K.M, 40, none⟩ (.int .i64 ((pn : Int) + 1))).heap.size = w.heap.size by simp, HT.out] at hq
  have p0 := hq.at 0 _ rfl
  have p1 := hq.at 1 _ rfl
  have p2 := hq.at 2 _ rfl
  have p3 := hq.at 3 _ rfl
  have p4 := hq.at 4 _ rfl
  have p5 := hq.at 5 _ rfl
  clear hq
  go_wp2_with fail
  clear p0 p1 p2 p3 p4 p5
  refine (HPL.out _ HAT.out).mono ?_
  rintro e w2 ⟨rfl, hb2⟩
  have HAT2 := Lib.hid (HAT.out.old hb2)
  have HI2 := Lib.hid (HI.out.old hb2)
  have hT' := HT.out
  rw [hT'] at HI2
  have hTM : T ≠ K.M := by omega
  clear hb2 HPL HAT HI hT' HT cL cT cpl fpl hml i0 i1 i2 i3 i4 i5 t0 hbL hbT
  have g0 := HI2.out.at 0 _ rfl
  have g1 := HI2.out.at 1 _ rfl
  have g2 := HI2.out.at 2 _ rfl
  have g3 := HI2.out.at 3 _ rfl
  have g4 := HI2.out.at 4 _ rfl
  have g5 := HI2.out.at 5 _ rfl
  have hil := HI2.out.lt
  have hml := HAT2.out.lt
  have c0 : w2.cell? ⟨K.M, 4, none⟩ = some (.int .i64 (s.x 0)) := HAT2.out.cx 0 (by decide)
  have f0 := HAT2.out.fz 4
  have hdI : (dn : Int) < 32 := by omega
  have hb : bo = false := by rw [← HBO.out, plainZ_high (by show 18 < 21; omega)]; rfl
  subst hb
  rw [after_none (by show 18 < 21; omega)] at HST
  clear HV HBO
  obtain ⟨gb, hgb⟩ : ∃ gb, goesZ { s with pl := (pn : Int) + 1 } ⟨21, dn, a, b, n, nm⟩ = gb := ⟨_, rfl⟩
  have HGO2 := Lib.hid (fun w h => goes_any K hf k { s with pl := (pn : Int) + 1 } ⟨21, dn, a, b, n, nm⟩ HIM.out w h (by show (21 : Int) ≤ 21; omega))
  rw [hgb] at HGO2
  have HST2 : Hid (stepZ K.C s = (if gb = true then { ({ s with pl := (pn : Int) + 1 } : MS) with pl := tt } else { s with pl := (pn : Int) + 1 }).setX 0 0) := Lib.hid (by
    rw [HST.out]
    unfold goZ
    rw [if_neg (by show ¬ ((21 : Int) = 19 ∨ (21 : Int) = 20); omega), if_pos (show (21 : Int) ≤ 21 ∧ (21 : Int) ≤ 25 by omega), hgb])
  clear HST hgb
  cases gb
  · rw [if_neg (by decide)] at HST2
    go_wp2_with fail
    refine (HGO2.out _ HAT2.out).mono ?_
    rintro e w4 ⟨rfl, hb4⟩
    have HAT4 := Lib.hid (HAT2.out.old hb4)
    clear hb4 c0 f0 hml hil g0 g1 g2 g3 g4 g5
    have c0 : w4.cell? ⟨K.M, 4, none⟩ = some (.int .i64 (s.x 0)) := HAT4.out.cx 0 (by decide)
    have f4 := HAT4.out.fz 4
    have hml4 := HAT4.out.lt
    have HW := Lib.hid (HAT4.out.setX hf 0 (by decide) 0)
    go_wp2_with fail
    refine Go.Great.bodyPost_end0 rfl rfl ⟨rfl, ?_⟩
    rw [HST2.out]; exact HW.out.mono (Nat.le_succ k)
  · rw [if_pos rfl] at HST2
    go_wp2_with fail
    refine (HGO2.out _ HAT2.out).mono ?_
    rintro e w4 ⟨rfl, hb4⟩
    have HAT4 := Lib.hid (HAT2.out.old hb4)
    clear hb4 c0 f0 hml hil g0 g1 g2 g3 g4 g5
    have c0 : w4.cell? ⟨K.M, 4, none⟩ = some (.int .i64 (s.x 0)) := HAT4.out.cx 0 (by decide)
    have f4 := HAT4.out.fz 4
    have cp := HAT4.out.cpl
    have fp := HAT4.out.fz 40
    have hml4 := HAT4.out.lt
    have HW := Lib.hid ((HAT4.out.setPl hf tt).setX hf 0 (by decide) 0)
    go_wp2_with fail
    refine Go.Great.bodyPost_end0 rfl rfl ⟨rfl, ?_⟩
    rw [HST2.out]; exact HW.out.mono (Nat.le_succ k)
theorem step_22 (K : MKon) (hf : MFix K) (k : Nat) (s : MS) (hok : MOk s) (hk : k < 1000000) (w : World) (h : MAt K k s w) (pn : Nat) (hpl : s.pl = pn) (hpn : pn < K.C.list.length) (d a b n : Int) (nm : Bs) (hi : K.C.list[pn] = ⟨22, d, a, b, n, nm⟩) :
    Calls Tryz.prog 31 #[.pointer (some ⟨K.M, 0, none⟩)] w fun e w' => e = .returned (.tuple #[]) ∧ MAt K (k + 1) (stepZ K.C s) w' := by
  have him : (⟨22, d, a, b, n, nm⟩ : Ins) ∈ K.C.list := by rw [← hi]; exact List.getElem_mem _
  obtain ⟨⟨hd0, hd1⟩, ⟨ha0, ha1⟩, ⟨hb0, hb1⟩, hn, hnm⟩ := hf.ok.well _ him
  dsimp only at hd0 hd1 ha0 ha1 hb0 hb1 hn hnm
  obtain ⟨dn, rfl⟩ : ∃ dn : Nat, d = dn := ⟨d.toNat, by omega⟩
  have htl : pn < K.C.tos.length := by rw [hf.ok.tlen]; exact hpn
  have hins : insZ K.C s.pl = ⟨22, dn, a, b, n, nm⟩ := by
    unfold insZ
    rw [hpl, Int.toNat_natCast, List.getElem?_eq_getElem hpn, hi]; rfl
  have hto : toZ K.C s.pl = K.C.tos[pn] := by
    unfold toZ
    rw [hpl, Int.toNat_natCast, List.getElem?_eq_getElem htl]; rfl
  obtain ⟨tt, htt⟩ : ∃ tt, K.C.tos[pn] = tt := ⟨_, rfl⟩
  rw [htt] at hto
  have HST : Hid (stepZ K.C s = (goZ K.C (afterZ K.C { s with pl := (pn : Int) + 1 } ⟨22, dn, a, b, n, nm⟩) ⟨22, dn, a, b, n, nm⟩ tt).setX 0 0) := Lib.hid (by
    show (goZ K.C (afterZ K.C { s with pl := s.pl + 1 } (insZ K.C s.pl)) (insZ K.C s.pl) (toZ K.C s.pl)).setX 0 0 = _
    rw [hins, hto, hpl])
  have hL := h.fr.row hf.list hf.mb hf.wb
  have hT := h.fr.row hf.tos hf.mb hf.wb
  obtain ⟨La, Lc, hvL⟩ := RwOwn.shape hf.list
  obtain ⟨Ta, Tc, hvT⟩ := RwOwn.shape hf.tos
  have hln := hf.ok.len
  have htn := hf.ok.tlen
  have hLI := RwOwn.nilv hL (by omega) insCells_len
  have hTI := RwOwn.nilv hT (by omega) intCells_len
  have cL := h.cL
  have cT := h.cT
  rw [hvL] at cL hLI
  rw [hvT] at cT hTI
  obtain ⟨bL, oL, rfl, hbL, i0, i1, i2, i3, i4, i5⟩ := InsAt.at hLI hpn
  obtain ⟨bT, oT, rfl, hbT, t0⟩ := NumsAt.at hTI htl
  rw [hi] at i0 i1 i2 i3 i4 i5
  rw [htt] at t0
  dsimp only at i0 i1 i2 i3 i4 i5
  have cpl := h.cpl
  rw [hpl] at cpl
  have fpl := h.fz 40
  have hml := h.lt
  have hpI : (pn : Int) < (K.C.list.length : Int) := by omega
  have hpT : (pn : Int) < (K.C.tos.length : Int) := by omega
  have hlI : (K.C.list.length : Int) ≤ 40000 := by omega
  have hal : Below w.heap.size w (w.alloc (.cells (insCells ⟨22, dn, a, b, n, nm⟩).toArray 39)) := (Below.refl _ _).alloc (Nat.le_refl _) _
  have HAT := Lib.hid (((h.setPl hf ((pn : Int) + 1)).old ((Below.refl _ _).alloc (Nat.le_refl _) (.cells (insCells ⟨22, dn, a, b, n, nm⟩).toArray 39))).old (Below.refl _ _).drew)
  have ho := (OwnAt.new (w.setCell ⟨K.M, 40, none⟩ (.int .i64 ((pn : Int) + 1))) (insCells ⟨22, dn, a, b, n, nm⟩) 39).old (Below.refl _ _).drew
  rw [show (w.setCell ⟨K.M, 40, none⟩ (.int .i64 ((pn : Int) + 1))).heap.size = w.heap.size by simp] at ho
  have HI := Lib.hid ho
  have HOK : Hid (MOk { s with pl := (pn : Int) + 1 }) := Lib.hid ⟨hok.x, hok.mem, hok.inp⟩
  have HIM := Lib.hid him
  have HGO : Hid (21 ≤ (22 : Int) → (22 : Int) ≤ 26 → 0 ≤ tt ∧ tt ≤ 40000) := Lib.hid (by
    have := hf.ok.go s.pl
    rw [hins, hto] at this
    exact this)
  clear hal ho h hL hT hLI hTI hvL hvT hins hto htt him hok hi
  obtain ⟨v, hv⟩ : ∃ v, (plainZ K.C { s with pl := (pn : Int) + 1 } ⟨22, dn, a, b, n, nm⟩).getD 0 = v := ⟨_, rfl⟩
  obtain ⟨bo, hbo⟩ : ∃ bo, (plainZ K.C { s with pl := (pn : Int) + 1 } ⟨22, dn, a, b, n, nm⟩).isSome = bo := ⟨_, rfl⟩
  have HPL := Lib.hid (fun w h => plain_any K hf k { s with pl := (pn : Int) + 1 } ⟨22, dn, a, b, n, nm⟩ HIM.out HOK.out w h)
  rw [hv, hbo] at HPL
  have HV := Lib.hid hv
  have HBO := Lib.hid hbo
  clear hv hbo
  go_enter Tryz.func31, Tryz.ntmps31
  go_upto_region 0 with (fail)
  rw [htn] at cT
  refine wp_cut (fun a' w' => RSt0 w K.M bL oL K.C.list.length Lc bT oT Tc pn 22 dn a b n tt nm a' w') ?rest (fun J K' hJ hM => then_any (reg_St0 w K.M bL oL K.C.list.length Lc bT oT Tc pn 22 dn a b n tt nm cL cT cpl i0 i1 i2 i3 i4 i5 t0 hpI hlI hml hbL hbT J K' hJ hM))
  case rest =>
  rintro a' w' ⟨T, hT, rfl, rfl⟩
  have HT := Lib.hid hT.symm
  clear hT
  have hq := OwnAt.new (w.setCell ⟨K.M, 40, none⟩ (.int .i64 ((pn : Int) + 1))) [.int .i64 22, .int .i64 dn, .int .i64 a, .int .i64 b, .int .i64 n, .string (strOf nm)] 39
  rw [show (w.setCell ⟨K.M, 40, none⟩ (.int .i64 ((pn : Int) + 1))).heap.size = w.heap.size by simp, HT.out] at hq
  have p0 := hq.at 0 _ rfl
  have p1 := hq.at 1 _ rfl
  have p2 := hq.at 2 _ rfl
  have p3 := hq.at 3 _ rfl
  have p4 := hq.at 4 _ rfl
  have p5 := hq.at 5 _ rfl
  clear hq
  go_wp2_with fail
  clear p0 p1 p2 p3 p4 p5
  refine (HPL.out _ HAT.out).mono ?_
  rintro e w2 ⟨rfl, hb2⟩
  have HAT2 := Lib.hid (HAT.out.old hb2)
  have HI2 := Lib.hid (HI.out.old hb2)
  have hT' := HT.out
  rw [hT'] at HI2
  have hTM : T ≠ K.M := by omega
  clear hb2 HPL HAT HI hT' HT cL cT cpl fpl hml i0 i1 i2 i3 i4 i5 t0 hbL hbT
  have g0 := HI2.out.at 0 _ rfl
  have g1 := HI2.out.at 1 _ rfl
  have g2 := HI2.out.at 2 _ rfl
  have g3 := HI2.out.at 3 _ rfl
  have g4 := HI2.out.at 4 _ rfl
  have g5 := HI2.out.at 5 _ rfl
  have hil := HI2.out.lt
  have hml := HAT2.out.lt
  have c0 : w2.cell? ⟨K.M, 4, none⟩ = some (.int .i64 (s.x 0)) := HAT2.out.cx 0 (by decide)
  have f0 := HAT2.out.fz 4
  have hdI : (dn : Int) < 32 := by omega
  have hb : bo = false := by rw [← HBO.out, plainZ_high (by show 18 < 22; omega)]; rfl
  subst hb
  rw [after_none (by show 18 < 22; omega)] at HST
  clear HV HBO
  obtain ⟨gb, hgb⟩ : ∃ gb, goesZ { s with pl := (pn : Int) + 1 } ⟨22, dn, a, b, n, nm⟩ = gb := ⟨_, rfl⟩
  have HGO2 := Lib.hid (fun w h => goes_any K hf k { s with pl := (pn : Int) + 1 } ⟨22, dn, a, b, n, nm⟩ HIM.out w h (by show (21 : Int) ≤ 22; omega))
  rw [hgb] at HGO2
  have HST2 : Hid (stepZ K.C s = (if gb = true then { ({ s with pl := (pn : Int) + 1 } : MS) with pl := tt } else { s with pl := (pn : Int) + 1 }).setX 0 0) := Lib.hid (by
    rw [HST.out]
    unfold goZ
    rw [if_neg (by show ¬ ((22 : Int) = 19 ∨ (22 : Int) = 20); omega), if_pos (show (21 : Int) ≤ 22 ∧ (22 : Int) ≤ 25 by omega), hgb])
  clear HST hgb
  cases gb
  · rw [if_neg (by decide)] at HST2
    go_wp2_with fail
    refine (HGO2.out _ HAT2.out).mono ?_
    rintro e w4 ⟨rfl, hb4⟩
    have HAT4 := Lib.hid (HAT2.out.old hb4)
    clear hb4 c0 f0 hml hil g0 g1 g2 g3 g4 g5
    have c0 : w4.cell? ⟨K.M, 4, none⟩ = some (.int .i64 (s.x 0)) := HAT4.out.cx 0 (by decide)
    have f4 := HAT4.out.fz 4
    have hml4 := HAT4.out.lt
    have HW := Lib.hid (HAT4.out.setX hf 0 (by decide) 0)
    go_wp2_with fail
    refine Go.Great.bodyPost_end0 rfl rfl ⟨rfl, ?_⟩
    rw [HST2.out]; exact HW.out.mono (Nat.le_succ k)
  · rw [if_pos rfl] at HST2
    go_wp2_with fail
    refine (HGO2.out _ HAT2.out).mono ?_
    rintro e w4 ⟨rfl, hb4⟩
    have HAT4 := Lib.hid (HAT2.out.old hb4)
    clear hb4 c0 f0 hml hil g0 g1 g2 g3 g4 g5
    have c0 : w4.cell? ⟨K.M, 4, none⟩ = some (.int .i64 (s.x 0)) := HAT4.out.cx 0 (by decide)
    have f4 := HAT4.out.fz 4
    have cp := HAT4.out.cpl
    have fp := HAT4.out.fz 40
    have hml4 := HAT4.out.lt
    have HW := Lib.hid ((HAT4.out.setPl hf tt).setX hf 0 (by decide) 0)
    go_wp2_with fail
    refine Go.Great.bodyPost_end0 rfl rfl ⟨rfl, ?_⟩
    rw [HST2.out]; exact HW.out.mono (Nat.le_succ k)
theorem step_23 (K : MKon) (hf : MFix K) (k : Nat) (s : MS) (hok : MOk s) (hk : k < 1000000) (w : World) (h : MAt K k s w) (pn : Nat) (hpl : s.pl = pn) (hpn : pn < K.C.list.length) (d a b n : Int) (nm : Bs) (hi : K.C.list[pn] = ⟨23, d, a, b, n, nm⟩) :
    Calls Tryz.prog 31 #[.pointer (some ⟨K.M, 0, none⟩)] w fun e w' => e = .returned (.tuple #[]) ∧ MAt K (k + 1) (stepZ K.C s) w' := by
  have him : (⟨23, d, a, b, n, nm⟩ : Ins) ∈ K.C.list := by rw [← hi]; exact List.getElem_mem _
  obtain ⟨⟨hd0, hd1⟩, ⟨ha0, ha1⟩, ⟨hb0, hb1⟩, hn, hnm⟩ := hf.ok.well _ him
  dsimp only at hd0 hd1 ha0 ha1 hb0 hb1 hn hnm
  obtain ⟨dn, rfl⟩ : ∃ dn : Nat, d = dn := ⟨d.toNat, by omega⟩
  have htl : pn < K.C.tos.length := by rw [hf.ok.tlen]; exact hpn
  have hins : insZ K.C s.pl = ⟨23, dn, a, b, n, nm⟩ := by
    unfold insZ
    rw [hpl, Int.toNat_natCast, List.getElem?_eq_getElem hpn, hi]; rfl
  have hto : toZ K.C s.pl = K.C.tos[pn] := by
    unfold toZ
    rw [hpl, Int.toNat_natCast, List.getElem?_eq_getElem htl]; rfl
  obtain ⟨tt, htt⟩ : ∃ tt, K.C.tos[pn] = tt := ⟨_, rfl⟩
  rw [htt] at hto
  have HST : Hid (stepZ K.C s = (goZ K.C (afterZ K.C { s with pl := (pn : Int) + 1 } ⟨23, dn, a, b, n, nm⟩) ⟨23, dn, a, b, n, nm⟩ tt).setX 0 0) := Lib.hid (by
    show (goZ K.C (afterZ K.C { s with pl := s.pl + 1 } (insZ K.C s.pl)) (insZ K.C s.pl) (toZ K.C s.pl)).setX 0 0 = _
    rw [hins, hto, hpl])
  have hL := h.fr.row hf.list hf.mb hf.wb
  have hT := h.fr.row hf.tos hf.mb hf.wb
  obtain ⟨La, Lc, hvL⟩ := RwOwn.shape hf.list
  obtain ⟨Ta, Tc, hvT⟩ := RwOwn.shape hf.tos
  have hln := hf.ok.len
  have htn := hf.ok.tlen
  have hLI := RwOwn.nilv hL (by omega) insCells_len
  have hTI := RwOwn.nilv hT (by omega) intCells_len
  have cL := h.cL
  have cT := h.cT
  rw [hvL] at cL hLI
  rw [hvT] at cT hTI
  obtain ⟨bL, oL, rfl, hbL, i0, i1, i2, i3, i4, i5⟩ := InsAt.at hLI hpn
  obtain ⟨bT, oT, rfl, hbT, t0⟩ := NumsAt.at hTI htl
  rw [hi] at i0 i1 i2 i3 i4 i5
  rw [htt] at t0
  dsimp only at i0 i1 i2 i3 i4 i5
  have cpl := h.cpl
  rw [hpl] at cpl
  have fpl := h.fz 40
  have hml := h.lt
  have hpI : (pn : Int) < (K.C.list.length : Int) := by omega
  have hpT : (pn : Int) < (K.C.tos.length : Int) := by omega
  have hlI : (K.C.list.length : Int) ≤ 40000 := by omega
  have hal : Below w.heap.size w (w.alloc (.cells (insCells ⟨23, dn, a, b, n, nm⟩).toArray 39)) := (Below.refl _ _).alloc (Nat.le_refl _) _
  have HAT := Lib.hid (((h.setPl hf ((pn : Int) + 1)).old ((Below.refl _ _).alloc (Nat.le_refl _) (.cells (insCells ⟨23, dn, a, b, n, nm⟩).toArray 39))).old (Below.refl _ _).drew)
  have ho := (OwnAt.new (w.setCell ⟨K.M, 40, none⟩ (.int .i64 ((pn : Int) + 1))) (insCells ⟨23, dn, a, b, n, nm⟩) 39).old (Below.refl _ _).drew
  rw [show (w.setCell ⟨K.M, 40, none⟩ (.int .i64 ((pn : Int) + 1))).heap.size = w.heap.size by simp] at ho
  have HI := Lib.hid ho
  have HOK : Hid (MOk { s with pl := (pn : Int) + 1 }) := Lib.hid ⟨hok.x, hok.mem, hok.inp⟩
  have HIM := Lib.hid him
  have HGO : Hid (21 ≤ (23 : Int) → (23 : Int) ≤ 26 → 0 ≤ tt ∧ tt ≤ 40000) := Lib.hid (by
    have := hf.ok.go s.pl
    rw [hins, hto] at this
    exact this)
  clear hal ho h hL hT hLI hTI hvL hvT hins hto htt him hok hi
  obtain ⟨v, hv⟩ : ∃ v, (plainZ K.C { s with pl := (pn : Int) + 1 } ⟨23, dn, a, b, n, nm⟩).getD 0 = v := ⟨_, rfl⟩
  obtain ⟨bo, hbo⟩ : ∃ bo, (plainZ K.C { s with pl := (pn : Int) + 1 } ⟨23, dn, a, b, n, nm⟩).isSome = bo := ⟨_, rfl⟩
  have HPL := Lib.hid (fun w h => plain_any K hf k { s with pl := (pn : Int) + 1 } ⟨23, dn, a, b, n, nm⟩ HIM.out HOK.out w h)
  rw [hv, hbo] at HPL
  have HV := Lib.hid hv
  have HBO := Lib.hid hbo
  clear hv hbo
  go_enter Tryz.func31, Tryz.ntmps31
  go_upto_region 0 with (fail)
  rw [htn] at cT
  refine wp_cut (fun a' w' => RSt0 w K.M bL oL K.C.list.length Lc bT oT Tc pn 23 dn a b n tt nm a' w') ?rest (fun J K' hJ hM => then_any (reg_St0 w K.M bL oL K.C.list.length Lc bT oT Tc pn 23 dn a b n tt nm cL cT cpl i0 i1 i2 i3 i4 i5 t0 hpI hlI hml hbL hbT J K' hJ hM))
  case rest =>
  rintro a' w' ⟨T, hT, rfl, rfl⟩
  have HT := Lib.hid hT.symm
  clear hT
  have hq := OwnAt.new (w.setCell ⟨K.M, 40, none⟩ (.int .i64 ((pn : Int) + 1))) [.int .i64 23, .int .i64 dn, .int .i64 a, .int .i64 b, .int .i64 n, .string (strOf nm)] 39
  rw [show (w.setCell ⟨K.M, 40, none⟩ (.int .i64 ((pn : Int) + 1))).heap.size = w.heap.size by simp, HT.out] at hq
  have p0 := hq.at 0 _ rfl
  have p1 := hq.at 1 _ rfl
  have p2 := hq.at 2 _ rfl
  have p3 := hq.at 3 _ rfl
  have p4 := hq.at 4 _ rfl
  have p5 := hq.at 5 _ rfl
  clear hq
  go_wp2_with fail
  clear p0 p1 p2 p3 p4 p5
  refine (HPL.out _ HAT.out).mono ?_
  rintro e w2 ⟨rfl, hb2⟩
  have HAT2 := Lib.hid (HAT.out.old hb2)
  have HI2 := Lib.hid (HI.out.old hb2)
  have hT' := HT.out
  rw [hT'] at HI2
  have hTM : T ≠ K.M := by omega
  clear hb2 HPL HAT HI hT' HT cL cT cpl fpl hml i0 i1 i2 i3 i4 i5 t0 hbL hbT
  have g0 := HI2.out.at 0 _ rfl
  have g1 := HI2.out.at 1 _ rfl
  have g2 := HI2.out.at 2 _ rfl
  have g3 := HI2.out.at 3 _ rfl
  have g4 := HI2.out.at 4 _ rfl
  have g5 := HI2.out.at 5 _ rfl
  have hil := HI2.out.lt
  have hml := HAT2.out.lt
  have c0 : w2.cell? ⟨K.M, 4, none⟩ = some (.int .i64 (s.x 0)) := HAT2.out.cx 0 (by decide)
  have f0 := HAT2.out.fz 4
  have hdI : (dn : Int) < 32 := by omega
  have hb : bo = false := by rw [← HBO.out, plainZ_high (by show 18 < 23; omega)]; rfl
  subst hb
  rw [after_none (by show 18 < 23; omega)] at HST
  clear HV HBO
  obtain ⟨gb, hgb⟩ : ∃ gb, goesZ { s with pl := (pn : Int) + 1 } ⟨23, dn, a, b, n, nm⟩ = gb := ⟨_, rfl⟩
  have HGO2 := Lib.hid (fun w h => goes_any K hf k { s with pl := (pn : Int) + 1 } ⟨23, dn, a, b, n, nm⟩ HIM.out w h (by show (21 : Int) ≤ 23; omega))
  rw [hgb] at HGO2
  have HST2 : Hid (stepZ K.C s = (if gb = true then { ({ s with pl := (pn : Int) + 1 } : MS) with pl := tt } else { s with pl := (pn : Int) + 1 }).setX 0 0) := Lib.hid (by
    rw [HST.out]
    unfold goZ
    rw [if_neg (by show ¬ ((23 : Int) = 19 ∨ (23 : Int) = 20); omega), if_pos (show (21 : Int) ≤ 23 ∧ (23 : Int) ≤ 25 by omega), hgb])
  clear HST hgb
  cases gb
  · rw [if_neg (by decide)] at HST2
    go_wp2_with fail
    refine (HGO2.out _ HAT2.out).mono ?_
    rintro e w4 ⟨rfl, hb4⟩
    have HAT4 := Lib.hid (HAT2.out.old hb4)
    clear hb4 c0 f0 hml hil g0 g1 g2 g3 g4 g5
    have c0 : w4.cell? ⟨K.M, 4, none⟩ = some (.int .i64 (s.x 0)) := HAT4.out.cx 0 (by decide)
    have f4 := HAT4.out.fz 4
    have hml4 := HAT4.out.lt
    have HW := Lib.hid (HAT4.out.setX hf 0 (by decide) 0)
    go_wp2_with fail
    refine Go.Great.bodyPost_end0 rfl rfl ⟨rfl, ?_⟩
    rw [HST2.out]; exact HW.out.mono (Nat.le_succ k)
  · rw [if_pos rfl] at HST2
    go_wp2_with fail
    refine (HGO2.out _ HAT2.out).mono ?_
    rintro e w4 ⟨rfl, hb4⟩
    have HAT4 := Lib.hid (HAT2.out.old hb4)
    clear hb4 c0 f0 hml hil g0 g1 g2 g3 g4 g5
    have c0 : w4.cell? ⟨K.M, 4, none⟩ = some (.int .i64 (s.x 0)) := HAT4.out.cx 0 (by decide)
    have f4 := HAT4.out.fz 4
    have cp := HAT4.out.cpl
    have fp := HAT4.out.fz 40
    have hml4 := HAT4.out.lt
    have HW := Lib.hid ((HAT4.out.setPl hf tt).setX hf 0 (by decide) 0)
    go_wp2_with fail
    refine Go.Great.bodyPost_end0 rfl rfl ⟨rfl, ?_⟩
    rw [HST2.out]; exact HW.out.mono (Nat.le_succ k)
theorem step_24 (K : MKon) (hf : MFix K) (k : Nat) (s : MS) (hok : MOk s) (hk : k < 1000000) (w : World) (h : MAt K k s w) (pn : Nat) (hpl : s.pl = pn) (hpn : pn < K.C.list.length) (d a b n : Int) (nm : Bs) (hi : K.C.list[pn] = ⟨24, d, a, b, n, nm⟩) :
    Calls Tryz.prog 31 #[.pointer (some ⟨K.M, 0, none⟩)] w fun e w' => e = .returned (.tuple #[]) ∧ MAt K (k + 1) (stepZ K.C s) w' := by
  have him : (⟨24, d, a, b, n, nm⟩ : Ins) ∈ K.C.list := by rw [← hi]; exact List.getElem_mem _
  obtain ⟨⟨hd0, hd1⟩, ⟨ha0, ha1⟩, ⟨hb0, hb1⟩, hn, hnm⟩ := hf.ok.well _ him
  dsimp only at hd0 hd1 ha0 ha1 hb0 hb1 hn hnm
  obtain ⟨dn, rfl⟩ : ∃ dn : Nat, d = dn := ⟨d.toNat, by omega⟩
  have htl : pn < K.C.tos.length := by rw [hf.ok.tlen]; exact hpn
  have hins : insZ K.C s.pl = ⟨24, dn, a, b, n, nm⟩ := by
    unfold insZ
    rw [hpl, Int.toNat_natCast, List.getElem?_eq_getElem hpn, hi]; rfl
  have hto : toZ K.C s.pl = K.C.tos[pn] := by
    unfold toZ
    rw [hpl, Int.toNat_natCast, List.getElem?_eq_getElem htl]; rfl
  obtain ⟨tt, htt⟩ : ∃ tt, K.C.tos[pn] = tt := ⟨_, rfl⟩
  rw [htt] at hto
  have HST : Hid (stepZ K.C s = (goZ K.C (afterZ K.C { s with pl := (pn : Int) + 1 } ⟨24, dn, a, b, n, nm⟩) ⟨24, dn, a, b, n, nm⟩ tt).setX 0 0) := Lib.hid (by
    show (goZ K.C (afterZ K.C { s with pl := s.pl + 1 } (insZ K.C s.pl)) (insZ K.C s.pl) (toZ K.C s.pl)).setX 0 0 = _
    rw [hins, hto, hpl])
  have hL := h.fr.row hf.list hf.mb hf.wb
  have hT := h.fr.row hf.tos hf.mb hf.wb
  obtain ⟨La, Lc, hvL⟩ := RwOwn.shape hf.list
  obtain ⟨Ta, Tc, hvT⟩ := RwOwn.shape hf.tos
  have hln := hf.ok.len
  have htn := hf.ok.tlen
  have hLI := RwOwn.nilv hL (by omega) insCells_len
  have hTI := RwOwn.nilv hT (by omega) intCells_len
  have cL := h.cL
  have cT := h.cT
  rw [hvL] at cL hLI
  rw [hvT] at cT hTI
  obtain ⟨bL, oL, rfl, hbL, i0, i1, i2, i3, i4, i5⟩ := InsAt.at hLI hpn
  obtain ⟨bT, oT, rfl, hbT, t0⟩ := NumsAt.at hTI htl
  rw [hi] at i0 i1 i2 i3 i4 i5
  rw [htt] at t0
  dsimp only at i0 i1 i2 i3 i4 i5
  have cpl := h.cpl
  rw [hpl] at cpl
  have fpl := h.fz 40
  have hml := h.lt
  have hpI : (pn : Int) < (K.C.list.length : Int) := by omega
  have hpT : (pn : Int) < (K.C.tos.length : Int) := by omega
  have hlI : (K.C.list.length : Int) ≤ 40000 := by omega
  have hal : Below w.heap.size w (w.alloc (.cells (insCells ⟨24, dn, a, b, n, nm⟩).toArray 39)) := (Below.refl _ _).alloc (Nat.le_refl _) _
  have HAT := Lib.hid (((h.setPl hf ((pn : Int) + 1)).old ((Below.refl _ _).alloc (Nat.le_refl _) (.cells (insCells ⟨24, dn, a, b, n, nm⟩).toArray 39))).old (Below.refl _ _).drew)
  have ho := (OwnAt.new (w.setCell ⟨K.M, 40, none⟩ (.int .i64 ((pn : Int) + 1))) (insCells ⟨24, dn, a, b, n, nm⟩) 39).old (Below.refl _ _).drew
  rw [show (w.setCell ⟨K.M, 40, none⟩ (.int .i64 ((pn : Int) + 1))).heap.size = w.heap.size by simp] at ho
  have HI := Lib.hid ho
  have HOK : Hid (MOk { s with pl := (pn : Int) + 1 }) := Lib.hid ⟨hok.x, hok.mem, hok.inp⟩
  have HIM := Lib.hid him
  have HGO : Hid (21 ≤ (24 : Int) → (24 : Int) ≤ 26 → 0 ≤ tt ∧ tt ≤ 40000) := Lib.hid (by
    have := hf.ok.go s.pl
    rw [hins, hto] at this
    exact this)
  clear hal ho h hL hT hLI hTI hvL hvT hins hto htt him hok hi
  obtain ⟨v, hv⟩ : ∃ v, (plainZ K.C { s with pl := (pn : Int) + 1 } ⟨24, dn, a, b, n, nm⟩).getD 0 = v := ⟨_, rfl⟩
  obtain ⟨bo, hbo⟩ : ∃ bo, (plainZ K.C { s with pl := (pn : Int) + 1 } ⟨24, dn, a, b, n, nm⟩).isSome = bo := ⟨_, rfl⟩
  have HPL := Lib.hid (fun w h => plain_any K hf k { s with pl := (pn : Int) + 1 } ⟨24, dn, a, b, n, nm⟩ HIM.out HOK.out w h)
  rw [hv, hbo] at HPL
  have HV := Lib.hid hv
  have HBO := Lib.hid hbo
  clear hv hbo
  go_enter Tryz.func31, Tryz.ntmps31
  go_upto_region 0 with (fail)
  rw [htn] at cT
  refine wp_cut (fun a' w' => RSt0 w K.M bL oL K.C.list.length Lc bT oT Tc pn 24 dn a b n tt nm a' w') ?rest (fun J K' hJ hM => then_any (reg_St0 w K.M bL oL K.C.list.length Lc bT oT Tc pn 24 dn a b n tt nm cL cT cpl i0 i1 i2 i3 i4 i5 t0 hpI hlI hml hbL hbT J K' hJ hM))
  case rest =>
  rintro a' w' ⟨T, hT, rfl, rfl⟩
  have HT := Lib.hid hT.symm
  clear hT
  have hq := OwnAt.new (w.setCell ⟨K.M, 40, none⟩ (.int .i64 ((pn : Int) + 1))) [.int .i64 24, .int .i64 dn, .int .i64 a, .int .i64 b, .int .i64 n, .string (strOf nm)] 39
  rw [show (w.setCell ⟨K.M, 40, none⟩ (.int .i64 ((pn : Int) + 1))).heap.size = w.heap.size by simp, HT.out] at hq
  have p0 := hq.at 0 _ rfl
  have p1 := hq.at 1 _ rfl
  have p2 := hq.at 2 _ rfl
  have p3 := hq.at 3 _ rfl
  have p4 := hq.at 4 _ rfl
  have p5 := hq.at 5 _ rfl
  clear hq
  go_wp2_with fail
  clear p0 p1 p2 p3 p4 p5
  refine (HPL.out _ HAT.out).mono ?_
  rintro e w2 ⟨rfl, hb2⟩
  have HAT2 := Lib.hid (HAT.out.old hb2)
  have HI2 := Lib.hid (HI.out.old hb2)
  have hT' := HT.out
  rw [hT'] at HI2
  have hTM : T ≠ K.M := by omega
  clear hb2 HPL HAT HI hT' HT cL cT cpl fpl hml i0 i1 i2 i3 i4 i5 t0 hbL hbT
  have g0 := HI2.out.at 0 _ rfl
  have g1 := HI2.out.at 1 _ rfl
  have g2 := HI2.out.at 2 _ rfl
  have g3 := HI2.out.at 3 _ rfl
  have g4 := HI2.out.at 4 _ rfl
  have g5 := HI2.out.at 5 _ rfl
  have hil := HI2.out.lt
  have hml := HAT2.out.lt
  have c0 : w2.cell? ⟨K.M, 4, none⟩ = some (.int .i64 (s.x 0)) := HAT2.out.cx 0 (by decide)
  have f0 := HAT2.out.fz 4
  have hdI : (dn : Int) < 32 := by omega
  have hb : bo = false := by rw [← HBO.out, plainZ_high (by show 18 < 24; omega)]; rfl
  subst hb
  rw [after_none (by show 18 < 24; omega)] at HST
  clear HV HBO
  obtain ⟨gb, hgb⟩ : ∃ gb, goesZ { s with pl := (pn : Int) + 1 } ⟨24, dn, a, b, n, nm⟩ = gb := ⟨_, rfl⟩
  have HGO2 := Lib.hid (fun w h => goes_any K hf k { s with pl := (pn : Int) + 1 } ⟨24, dn, a, b, n, nm⟩ HIM.out w h (by show (21 : Int) ≤ 24; omega))
  rw [hgb] at HGO2
  have HST2 : Hid (stepZ K.C s = (if gb = true then { ({ s with pl := (pn : Int) + 1 } : MS) with pl := tt } else { s with pl := (pn : Int) + 1 }).setX 0 0) := Lib.hid (by
    rw [HST.out]
    unfold goZ
    rw [if_neg (by show ¬ ((24 : Int) = 19 ∨ (24 : Int) = 20); omega), if_pos (show (21 : Int) ≤ 24 ∧ (24 : Int) ≤ 25 by omega), hgb])
  clear HST hgb
  cases gb
  · rw [if_neg (by decide)] at HST2
    go_wp2_with fail
    refine (HGO2.out _ HAT2.out).mono ?_
    rintro e w4 ⟨rfl, hb4⟩
    have HAT4 := Lib.hid (HAT2.out.old hb4)
    clear hb4 c0 f0 hml hil g0 g1 g2 g3 g4 g5
    have c0 : w4.cell? ⟨K.M, 4, none⟩ = some (.int .i64 (s.x 0)) := HAT4.out.cx 0 (by decide)
    have f4 := HAT4.out.fz 4
    have hml4 := HAT4.out.lt
    have HW := Lib.hid (HAT4.out.setX hf 0 (by decide) 0)
    go_wp2_with fail
    refine Go.Great.bodyPost_end0 rfl rfl ⟨rfl, ?_⟩
    rw [HST2.out]; exact HW.out.mono (Nat.le_succ k)
  · rw [if_pos rfl] at HST2
    go_wp2_with fail
    refine (HGO2.out _ HAT2.out).mono ?_
    rintro e w4 ⟨rfl, hb4⟩
    have HAT4 := Lib.hid (HAT2.out.old hb4)
    clear hb4 c0 f0 hml hil g0 g1 g2 g3 g4 g5
    have c0 : w4.cell? ⟨K.M, 4, none⟩ = some (.int .i64 (s.x 0)) := HAT4.out.cx 0 (by decide)
    have f4 := HAT4.out.fz 4
    have cp := HAT4.out.cpl
    have fp := HAT4.out.fz 40
    have hml4 := HAT4.out.lt
    have HW := Lib.hid ((HAT4.out.setPl hf tt).setX hf 0 (by decide) 0)
    go_wp2_with fail
    refine Go.Great.bodyPost_end0 rfl rfl ⟨rfl, ?_⟩
    rw [HST2.out]; exact HW.out.mono (Nat.le_succ k)
theorem step_25 (K : MKon) (hf : MFix K) (k : Nat) (s : MS) (hok : MOk s) (hk : k < 1000000) (w : World) (h : MAt K k s w) (pn : Nat) (hpl : s.pl = pn) (hpn : pn < K.C.list.length) (d a b n : Int) (nm : Bs) (hi : K.C.list[pn] = ⟨25, d, a, b, n, nm⟩) :
    Calls Tryz.prog 31 #[.pointer (some ⟨K.M, 0, none⟩)] w fun e w' => e = .returned (.tuple #[]) ∧ MAt K (k + 1) (stepZ K.C s) w' := by
  have him : (⟨25, d, a, b, n, nm⟩ : Ins) ∈ K.C.list := by rw [← hi]; exact List.getElem_mem _
  obtain ⟨⟨hd0, hd1⟩, ⟨ha0, ha1⟩, ⟨hb0, hb1⟩, hn, hnm⟩ := hf.ok.well _ him
  dsimp only at hd0 hd1 ha0 ha1 hb0 hb1 hn hnm
  obtain ⟨dn, rfl⟩ : ∃ dn : Nat, d = dn := ⟨d.toNat, by omega⟩
  have htl : pn < K.C.tos.length := by rw [hf.ok.tlen]; exact hpn
  have hins : insZ K.C s.pl = ⟨25, dn, a, b, n, nm⟩ := by
    unfold insZ
    rw [hpl, Int.toNat_natCast, List.getElem?_eq_getElem hpn, hi]; rfl
  have hto : toZ K.C s.pl = K.C.tos[pn] := by
    unfold toZ
    rw [hpl, Int.toNat_natCast, List.getElem?_eq_getElem htl]; rfl
  obtain ⟨tt, htt⟩ : ∃ tt, K.C.tos[pn] = tt := ⟨_, rfl⟩
  rw [htt] at hto
  have HST : Hid (stepZ K.C s = (goZ K.C (afterZ K.C { s with pl := (pn : Int) + 1 } ⟨25, dn, a, b, n, nm⟩) ⟨25, dn, a, b, n, nm⟩ tt).setX 0 0) := Lib.hid (by
    show (goZ K.C (afterZ K.C { s with pl := s.pl + 1 } (insZ K.C s.pl)) (insZ K.C s.pl) (toZ K.C s.pl)).setX 0 0 = _
    rw [hins, hto, hpl])
  have hL := h.fr.row hf.list hf.mb hf.wb
  have hT := h.fr.row hf.tos hf.mb hf.wb
  obtain ⟨La, Lc, hvL⟩ := RwOwn.shape hf.list
  obtain ⟨Ta, Tc, hvT⟩ := RwOwn.shape hf.tos
  have hln := hf.ok.len
  have htn := hf.ok.tlen
  have hLI := RwOwn.nilv hL (by omega) insCells_len
  have hTI := RwOwn.nilv hT (by omega) intCells_len
  have cL := h.cL
  have cT := h.cT
  rw [hvL] at cL hLI
  rw [hvT] at cT hTI
  obtain ⟨bL, oL, rfl, hbL, i0, i1, i2, i3, i4, i5⟩ := InsAt.at hLI hpn
  obtain ⟨bT, oT, rfl, hbT, t0⟩ := NumsAt.at hTI htl
  rw [hi] at i0 i1 i2 i3 i4 i5
  rw [htt] at t0
  dsimp only at i0 i1 i2 i3 i4 i5
  have cpl := h.cpl
  rw [hpl] at cpl
  have fpl := h.fz 40
  have hml := h.lt
  have hpI : (pn : Int) < (K.C.list.length : Int) := by omega
  have hpT : (pn : Int) < (K.C.tos.length : Int) := by omega
  have hlI : (K.C.list.length : Int) ≤ 40000 := by omega
  have hal : Below w.heap.size w (w.alloc (.cells (insCells ⟨25, dn, a, b, n, nm⟩).toArray 39)) := (Below.refl _ _).alloc (Nat.le_refl _) _
  have HAT := Lib.hid (((h.setPl hf ((pn : Int) + 1)).old ((Below.refl _ _).alloc (Nat.le_refl _) (.cells (insCells ⟨25, dn, a, b, n, nm⟩).toArray 39))).old (Below.refl _ _).drew)
  have ho := (OwnAt.new (w.setCell ⟨K.M, 40, none⟩ (.int .i64 ((pn : Int) + 1))) (insCells ⟨25, dn, a, b, n, nm⟩) 39).old (Below.refl _ _).drew
  rw [show (w.setCell ⟨K.M, 40, none⟩ (.int .i64 ((pn : Int) + 1))).heap.size = w.heap.size by simp] at ho
  have HI := Lib.hid ho
  have HOK : Hid (MOk { s with pl := (pn : Int) + 1 }) := Lib.hid ⟨hok.x, hok.mem, hok.inp⟩
  have HIM := Lib.hid him
  have HGO : Hid (21 ≤ (25 : Int) → (25 : Int) ≤ 26 → 0 ≤ tt ∧ tt ≤ 40000) := Lib.hid (by
    have := hf.ok.go s.pl
    rw [hins, hto] at this
    exact this)
  clear hal ho h hL hT hLI hTI hvL hvT hins hto htt him hok hi
  obtain ⟨v, hv⟩ : ∃ v, (plainZ K.C { s with pl := (pn : Int) + 1 } ⟨25, dn, a, b, n, nm⟩).getD 0 = v := ⟨_, rfl⟩
  obtain ⟨bo, hbo⟩ : ∃ bo, (plainZ K.C { s with pl := (pn : Int) + 1 } ⟨25, dn, a, b, n, nm⟩).isSome = bo := ⟨_, rfl⟩
  have HPL := Lib.hid (fun w h => plain_any K hf k { s with pl := (pn : Int) + 1 } ⟨25, dn, a, b, n, nm⟩ HIM.out HOK.out w h)
  rw [hv, hbo] at HPL
  have HV := Lib.hid hv
  have HBO := Lib.hid hbo
  clear hv hbo
  go_enter Tryz.func31, Tryz.ntmps31
  go_upto_region 0 with (fail)
  rw [htn] at cT
  refine wp_cut (fun a' w' => RSt0 w K.M bL oL K.C.list.length Lc bT oT Tc pn 25 dn a b n tt nm a' w') ?rest (fun J K' hJ hM => then_any (reg_St0 w K.M bL oL K.C.list.length Lc bT oT Tc pn 25 dn a b n tt nm cL cT cpl i0 i1 i2 i3 i4 i5 t0 hpI hlI hml hbL hbT J K' hJ hM))
  case rest =>
  rintro a' w' ⟨T, hT, rfl, rfl⟩
  have HT := Lib.hid hT.symm
  clear hT
  have hq := OwnAt.new (w.setCell ⟨K.M, 40, none⟩ (.int .i64 ((pn : Int) + 1))) [.int .i64 25, .int .i64 dn, .int .i64 a, .int .i64 b, .int .i64 n, .string (strOf nm)] 39
  rw [show (w.setCell ⟨K.M, 40, none⟩ (.int .i64 ((pn : Int) + 1))).heap.size = w.heap.size by simp, HT.out] at hq
  have p0 := hq.at 0 _ rfl
  have p1 := hq.at 1 _ rfl
  have p2 := hq.at 2 _ rfl
  have p3 := hq.at 3 _ rfl
  have p4 := hq.at 4 _ rfl
  have p5 := hq.at 5 _ rfl
  clear hq
  go_wp2_with fail
  clear p0 p1 p2 p3 p4 p5
  refine (HPL.out _ HAT.out).mono ?_
  rintro e w2 ⟨rfl, hb2⟩
  have HAT2 := Lib.hid (HAT.out.old hb2)
  have HI2 := Lib.hid (HI.out.old hb2)
  have hT' := HT.out
  rw [hT'] at HI2
  have hTM : T ≠ K.M := by omega
  clear hb2 HPL HAT HI hT' HT cL cT cpl fpl hml i0 i1 i2 i3 i4 i5 t0 hbL hbT
  have g0 := HI2.out.at 0 _ rfl
  have g1 := HI2.out.at 1 _ rfl
  have g2 := HI2.out.at 2 _ rfl
  have g3 := HI2.out.at 3 _ rfl
  have g4 := HI2.out.at 4 _ rfl
  have g5 := HI2.out.at 5 _ rfl
  have hil := HI2.out.lt
  have hml := HAT2.out.lt
  have c0 : w2.cell? ⟨K.M, 4, none⟩ = some (.int .i64 (s.x 0)) := HAT2.out.cx 0 (by decide)
  have f0 := HAT2.out.fz 4
  have hdI : (dn : Int) < 32 := by omega
  have hb : bo = false := by rw [← HBO.out, plainZ_high (by show 18 < 25; omega)]; rfl
  subst hb
  rw [after_none (by show 18 < 25; omega)] at HST
  clear HV HBO
  obtain ⟨gb, hgb⟩ : ∃ gb, goesZ { s with pl := (pn : Int) + 1 } ⟨25, dn, a, b, n, nm⟩ = gb := ⟨_, rfl⟩
  have HGO2 := Lib.hid (fun w h => goes_any K hf k { s with pl := (pn : Int) + 1 } ⟨25, dn, a, b, n, nm⟩ HIM.out w h (by show (21 : Int) ≤ 25; omega))
  rw [hgb] at HGO2
  have HST2 : Hid (stepZ K.C s = (if gb = true then { ({ s with pl := (pn : Int) + 1 } : MS) with pl := tt } else { s with pl := (pn : Int) + 1 }).setX 0 0) := Lib.hid (by
    rw [HST.out]
    unfold goZ
    rw [if_neg (by show ¬ ((25 : Int) = 19 ∨ (25 : Int) = 20); omega), if_pos (show (21 : Int) ≤ 25 ∧ (25 : Int) ≤ 25 by omega), hgb])
  clear HST hgb
  cases gb
  · rw [if_neg (by decide)] at HST2
    go_wp2_with fail
    refine (HGO2.out _ HAT2.out).mono ?_
    rintro e w4 ⟨rfl, hb4⟩
    have HAT4 := Lib.hid (HAT2.out.old hb4)
    clear hb4 c0 f0 hml hil g0 g1 g2 g3 g4 g5
    have c0 : w4.cell? ⟨K.M, 4, none⟩ = some (.int .i64 (s.x 0)) := HAT4.out.cx 0 (by decide)
    have f4 := HAT4.out.fz 4
    have hml4 := HAT4.out.lt
    have HW := Lib.hid (HAT4.out.setX hf 0 (by decide) 0)
    go_wp2_with fail
    refine Go.Great.bodyPost_end0 rfl rfl ⟨rfl, ?_⟩
    rw [HST2.out]; exact HW.out.mono (Nat.le_succ k)
  · rw [if_pos rfl] at HST2
    go_wp2_with fail
    refine (HGO2.out _ HAT2.out).mono ?_
    rintro e w4 ⟨rfl, hb4⟩
    have HAT4 := Lib.hid (HAT2.out.old hb4)
    clear hb4 c0 f0 hml hil g0 g1 g2 g3 g4 g5
    have c0 : w4.cell? ⟨K.M, 4, none⟩ = some (.int .i64 (s.x 0)) := HAT4.out.cx 0 (by decide)
    have f4 := HAT4.out.fz 4
    have cp := HAT4.out.cpl
    have fp := HAT4.out.fz 40
    have hml4 := HAT4.out.lt
    have HW := Lib.hid ((HAT4.out.setPl hf tt).setX hf 0 (by decide) 0)
    go_wp2_with fail
    refine Go.Great.bodyPost_end0 rfl rfl ⟨rfl, ?_⟩
    rw [HST2.out]; exact HW.out.mono (Nat.le_succ k)
end Go.Proofs.YtpgjfpphigeliaaGreatDoor
