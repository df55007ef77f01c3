/-
  simple: a store: what it is built of, in whatever order. Conditions: the parser lies in memory.
  simple, at every list of tokens. Conditions: the parser lies in memory.
-/
import Derived.Test.YtcfpfnoldgnloaaGreatDoorPn09
import Derived.Test.YtcfpfnoldgnloaaGreatDoorPn07
set_option linter.unusedVariables false
set_option linter.unusedSimpArgs false
namespace Go.Proofs.YtcfpfnoldgnloaaGreatDoor
open Go.RowKit
set_option maxHeartbeats 8000000
set_option maxRecDepth 100000

structure VY2 (p tb b0 be : Nat) (nm : Bs) (x y : Ex) (xa : Option Addr) (xc : Nat) (l r2 : List Tk) (err : Option Int) (W : World) (L : Nat → Bool) (sa : Option Addr) (sc : Nat) (nb : Nat) (z51 z52 z53 z54 z55 z56 : Value) (wx : World) : Prop where
  ord : L 6 = true → ∀ j, j < 6 → L j = true
  p4_3 : L 4 = true → L 3 = true
  p5_4 : L 5 = true → L 4 = true
  p6_4 : L 6 = true → L 4 = true
  c0 : L 0 = true → z51 = .string (strOf nm)
  c1 : L 1 = true → z52 = exV x (.slice xa x.args.length xc)
  c2 : L 2 = true → z53 = .pointer (some ⟨p, 0, none⟩)
  c3 : L 3 = true → z54 = exV y (.slice sa y.args.length sc)
  c4 : L 4 = true → z55 = .slice (some ⟨nb, 0, none⟩) 2 2
  c5 : L 5 = true → z56 = .agg #[.int .i64 2, .string (strOf nm), .slice (some ⟨nb, 0, none⟩) 2 2, .slice none 0 0, .slice none 0 0]
  fr : AFr p b0 W.heap.size W wx
  pa : L 3 = false → Ps wx p tb l
  pb : L 3 = true → Ps wx p tb r2
  e : OwnAt wx be [.int .i64 x.kind, .int .i64 x.op, .int .i64 x.n, .string (strOf x.name), .slice xa x.args.length xc] 27
  r0 : L 6 = false → OwnAt wx b0 [.int .i64 0, .string ⟨#[]⟩, .slice none 0 0, .slice none 0 0, .slice none 0 0] 60
  r1 : L 6 = true → OwnAt wx b0 [.int .i64 2, .string (strOf nm), .slice (some ⟨nb, 0, none⟩) 2 2, .slice none 0 0, .slice none 0 0] 60
  xx : ExsAt (b0 + 1 ≤ ·) wx x.args (.slice xa x.args.length xc)
  ya : L 3 = true → ExsAt (b0 + 1 ≤ ·) wx y.args (.slice sa y.args.length sc)
  yn : L 3 = true → I64 y.n
  xy : L 4 = true → ExsAt (b0 + 1 ≤ ·) wx [x, y] (.slice (some ⟨nb, 0, none⟩) 2 2)
def IY2 (p tb b0 be : Nat) (nm : Bs) (x y : Ex) (xa : Option Addr) (xc : Nat) (l r2 : List Tk) (err : Option Int) (W : World) (q1 q5 q6 q7 q8 q9 q10 q11 q12 q13 q14 q15 q16 q17 q18 q19 q20 q21 q22 q23 q24 q25 q26 q27 q28 q29 q30 q31 q32 q33 q34 q35 q36 q37 q38 q39 q40 q41 q42 q43 q44 q45 q46 q47 q48 q49 q50 q57 q58 q59 q60 q61 q62 q63 q64 : Value) (L : Nat → Bool) (a' : Act) (w' : World) : Prop :=
  ∃ sa : Option Addr, ∃ sc : Nat, ∃ nb : Nat, ∃ z51 z52 z53 z54 z55 z56 : Value, VY2 p tb b0 be nm x y xa xc l r2 err W L sa sc nb z51 z52 z53 z54 z55 z56 w' ∧ a' = ⟨[.pointer (some ⟨p, 0, none⟩), q1, .pointer (some ⟨b0, 0, none⟩), .string (strOf nm), .pointer (some ⟨be, 0, none⟩), q5, q6, q7, q8, q9, q10, q11, q12, q13, q14, q15, q16, q17, q18, q19, q20, q21, q22, q23, q24, q25, q26, q27, q28, q29, q30, q31, q32, q33, q34, q35, q36, q37, q38, q39, q40, q41, q42, q43, q44, q45, q46, q47, q48, q49, q50, z51, z52, z53, z54, z55, z56, q57, q58, q59, q60, q61, q62, q63, q64].toArray, []⟩
def RY2 (p tb b0 be : Nat) (nm : Bs) (x y : Ex) (xa : Option Addr) (xc : Nat) (l r2 : List Tk) (err : Option Int) (W : World) (q1 q5 q6 q7 q8 q9 q10 q11 q12 q13 q14 q15 q16 q17 q18 q19 q20 q21 q22 q23 q24 q25 q26 q27 q28 q29 q30 q31 q32 q33 q34 q35 q36 q37 q38 q39 q40 q41 q42 q43 q44 q45 q46 q47 q48 q49 q50 q57 q58 q59 q60 q61 q62 q63 q64 : Value) (a' : Act) (w' : World) : Prop :=
  ∃ sa : Option Addr, ∃ sc : Nat, ∃ nb : Nat, (AFr p b0 W.heap.size W w' ∧ Ps w' p tb r2 ∧ OwnAt w' b0 [.int .i64 2, .string (strOf nm), .slice (some ⟨nb, 0, none⟩) 2 2, .slice none 0 0, .slice none 0 0] 60 ∧ ExsAt (b0 + 1 ≤ ·) w' [x, y] (.slice (some ⟨nb, 0, none⟩) 2 2)) ∧ a' = ⟨[.pointer (some ⟨p, 0, none⟩), q1, .pointer (some ⟨b0, 0, none⟩), .string (strOf nm), .pointer (some ⟨be, 0, none⟩), q5, q6, q7, q8, q9, q10, q11, q12, q13, q14, q15, q16, q17, q18, q19, q20, q21, q22, q23, q24, q25, q26, q27, q28, q29, q30, q31, q32, q33, q34, q35, q36, q37, q38, q39, q40, q41, q42, q43, q44, q45, q46, q47, q48, q49, q50, .string (strOf nm), exV x (.slice xa x.args.length xc), .pointer (some ⟨p, 0, none⟩), exV y (.slice sa y.args.length sc), .slice (some ⟨nb, 0, none⟩) 2 2, .agg #[.int .i64 2, .string (strOf nm), .slice (some ⟨nb, 0, none⟩) 2 2, .slice none 0 0, .slice none 0 0], q57, q58, q59, q60, q61, q62, q63, q64].toArray, []⟩
theorem reg_Y2 (p tb b0 be : Nat) (nm : Bs) (x y : Ex) (xa : Option Addr) (xc : Nat) (l r2 : List Tk) (err : Option Int) (W : World) (hps : Ps W p tb l) (he : OwnAt W be [.int .i64 x.kind, .int .i64 x.op, .int .i64 x.n, .string (strOf x.name), .slice xa x.args.length xc] 27) (hr : OwnAt W b0 [.int .i64 0, .string ⟨#[]⟩, .slice none 0 0, .slice none 0 0, .slice none 0 0] 60) (hx : ExsAt (b0 + 1 ≤ ·) W x.args (.slice xa x.args.length xc)) (hxn : I64 x.n) (hpb : p < b0) (hbe : b0 < be) (HE : Hid (∀ w1, Ps w1 p tb l → Calls Tryz.prog 27 #[.pointer (some ⟨p, 0, none⟩)] w1 fun e w' => match err with | some n => e = lineV n ∧ SFr p w1 w' | none => ∃ s, e = .returned (exV y s) ∧ SFr p w1 w' ∧ Ps w' p tb r2 ∧ ExsAt (w1.heap.size ≤ ·) w' y.args s ∧ I64 y.n)) (Q : Exit → Act → World → Prop) (hQ : ∀ n a' w', err = some n → a'.defers = [] → AFr p b0 W.heap.size W w' → Q (.panic [{ v := .iface 110 (.agg #[.int .i64 n]), recovered := false }]) a' w') (q1 q5 q6 q7 q8 q9 q10 q11 q12 q13 q14 q15 q16 q17 q18 q19 q20 q21 q22 q23 q24 q25 q26 q27 q28 q29 q30 q31 q32 q33 q34 q35 q36 q37 q38 q39 q40 q41 q42 q43 q44 q45 q46 q47 q48 q49 q50 q51 q52 q53 q54 q55 q56 q57 q58 q59 q60 q61 q62 q63 q64 : Value) (J K' : Act → World → Prop) (hJ : ∀ a' w', RY2 p tb b0 be nm x y xa xc l r2 err W q1 q5 q6 q7 q8 q9 q10 q11 q12 q13 q14 q15 q16 q17 q18 q19 q20 q21 q22 q23 q24 q25 q26 q27 q28 q29 q30 q31 q32 q33 q34 q35 q36 q37 q38 q39 q40 q41 q42 q43 q44 q45 q46 q47 q48 q49 q50 q57 q58 q59 q60 q61 q62 q63 q64 a' w' → J a' w') (hM : ∀ a' w', Met J a' w' → K' a' w') :
    Code.wp Tryz.prog ((Tryz.f204.body.bind (regOf 17)).getD .skip) (Exit.then K' Q) ⟨[.pointer (some ⟨p, 0, none⟩), q1, .pointer (some ⟨b0, 0, none⟩), .string (strOf nm), .pointer (some ⟨be, 0, none⟩), q5, q6, q7, q8, q9, q10, q11, q12, q13, q14, q15, q16, q17, q18, q19, q20, q21, q22, q23, q24, q25, q26, q27, q28, q29, q30, q31, q32, q33, q34, q35, q36, q37, q38, q39, q40, q41, q42, q43, q44, q45, q46, q47, q48, q49, q50, q51, q52, q53, q54, q55, q56, q57, q58, q59, q60, q61, q62, q63, q64].toArray, []⟩ W := by
  have HPS := Lib.hid hps; have HEX := Lib.hid he; have HRO := Lib.hid hr; have HXX := Lib.hid hx; have HXN := Lib.hid hxn; have HQ := Lib.hid hQ
  have hew : be < W.heap.size := he.lt
  clear hps he hr hx hxn hQ
  conv => arg 2; whnf
  (try dsimp only)
  refine region_by (by kernel_rfl) (by kernel_rfl) (IY2 p tb b0 be nm x y xa xc l r2 err W q1 q5 q6 q7 q8 q9 q10 q11 q12 q13 q14 q15 q16 q17 q18 q19 q20 q21 q22 q23 q24 q25 q26 q27 q28 q29 q30 q31 q32 q33 q34 q35 q36 q37 q38 q39 q40 q41 q42 q43 q44 q45 q46 q47 q48 q49 q50 q57 q58 q59 q60 q61 q62 q63 q64) ?_ ?_ ?_
  · exact ⟨none, 0, 0, q51, q52, q53, q54, q55, q56, ⟨(fun h => by cases h), (fun h => by cases h), (fun h => by cases h), (fun h => by cases h), (fun h => by cases h), (fun h => by cases h), (fun h => by cases h), (fun h => by cases h), (fun h => by cases h), (fun h => by cases h), ((AFr.refl p b0 W.heap.size W).old (Below.refl _ _).drew), (fun _ => HPS.out.old (Below.refl _ _).drew), (fun h => by cases h), (HEX.out.old (Below.refl _ _).drew), (fun _ => HRO.out.old (Below.refl _ _).drew), (fun h => by cases h), (HXX.out.old (Below.refl _ _).drew), (fun h => by cases h), (fun h => by cases h), (fun h => by cases h)⟩, rfl⟩
  · intro L act wx k hI hk hl hd
    obtain ⟨sa, sc, nb, z51, z52, z53, z54, z55, z56, hV, rfl⟩ := hI
    have hk : k = 0 ∨ k = 1 ∨ k = 2 ∨ k = 3 ∨ k = 4 ∨ k = 5 ∨ k = 6 := by
      have : k < 7 := hk
      omega
    rcases hk with rfl | rfl | rfl | rfl | rfl | rfl | rfl
    · have nl := kf hV.ord hl
      refine op_at _ rfl rfl (fun K' hK => ?_)
      conv => arg 2; whnf
      go_wp2_with fail
      exact ⟨sa, sc, nb, .string (strOf nm), z52, z53, z54, z55, z56, ⟨(kl nl), (kq hV.p4_3), (kq hV.p5_4), (kq hV.p6_4), (fun _ => rfl), (kc hV.c1), (kc hV.c2), (kc hV.c3), (kc hV.c4), (kc hV.c5), hV.fr, (fun h0 => hV.pa (kb h0)), (kc hV.pb), hV.e, (fun h0 => hV.r0 (kb h0)), (kl nl), hV.xx, (kc hV.ya), (kc hV.yn), (kc hV.xy)⟩, rfl⟩
    · have nl := kf hV.ord hl
      have hx := hV.e
      have e0 := hx.at 0 _ rfl
      have e1 := hx.at 1 _ rfl
      have e2 := hx.at 2 _ rfl
      have e3 := hx.at 3 _ rfl
      have e4 := hx.at 4 _ rfl
      refine op_at _ rfl rfl (fun K' hK => ?_)
      conv => arg 2; whnf
      go_wp2_with fail
      exact ⟨sa, sc, nb, z51, exV x (.slice xa x.args.length xc), z53, z54, z55, z56, ⟨(kl nl), (kq hV.p4_3), (kq hV.p5_4), (kq hV.p6_4), (kc hV.c0), (fun _ => rfl), (kc hV.c2), (kc hV.c3), (kc hV.c4), (kc hV.c5), hV.fr, (fun h0 => hV.pa (kb h0)), (kc hV.pb), hV.e, (fun h0 => hV.r0 (kb h0)), (kl nl), hV.xx, (kc hV.ya), (kc hV.yn), (kc hV.xy)⟩, rfl⟩
    · have nl := kf hV.ord hl
      refine op_at _ rfl rfl (fun K' hK => ?_)
      conv => arg 2; whnf
      go_wp2_with fail
      exact ⟨sa, sc, nb, z51, z52, .pointer (some ⟨p, 0, none⟩), z54, z55, z56, ⟨(kl nl), (kq hV.p4_3), (kq hV.p5_4), (kq hV.p6_4), (kc hV.c0), (kc hV.c1), (fun _ => rfl), (kc hV.c3), (kc hV.c4), (kc hV.c5), hV.fr, (fun h0 => hV.pa (kb h0)), (kc hV.pb), hV.e, (fun h0 => hV.r0 (kb h0)), (kl nl), hV.xx, (kc hV.ya), (kc hV.yn), (kc hV.xy)⟩, rfl⟩
    · have nl := kf hV.ord hl
      have d2 : L 2 = true := hd _ rfl ⟨2, .data⟩ (by simp) rfl
      obtain rfl := (hV.c2 d2).symm
      have hps := hV.pa hl
      refine op_at _ rfl rfl (fun K' hK => ?_)
      conv => arg 2; whnf
      have HPX := Lib.hid hps
      have HFX := Lib.hid hV.fr
      clear hps
      go_wp2_with fail
      refine (HE.out _ HPX.out).mono ?_
      intro e w7 he
      cases err with
      | some n =>
        obtain ⟨rfl, hf⟩ := he
        unfold lineV
        have HF := Lib.hid (HFX.out.trans (AFr.of_sfr hf))
        clear hf hK hV
        go_wp2_with fail
        exact HQ.out n _ _ rfl rfl HF.out
      | none =>
      obtain ⟨s1, rfl, hf7, hp7, hx7, hn7⟩ := he
      obtain ⟨a7, c7, rfl⟩ := hx7.shape
      go_wp2_with fail
      exact ⟨a7, c7, nb, z51, z52, .pointer (some ⟨p, 0, none⟩), exV y (.slice (a7) y.args.length (c7)), z55, z56, ⟨(kl nl), (fun _ => upd_same L 3), (kq hV.p5_4), (kq hV.p6_4), (kc hV.c0), (kc hV.c1), (kc hV.c2), (fun _ => rfl), (kc hV.c4), (kc hV.c5), (hV.fr.trans (AFr.of_sfr hf7)), (ks), (fun _ => hp7), (hV.e.sfr hf7 (by omega)), (fun h => (hV.r0 (kb h)).sfr hf7 (by omega)), (kl nl), (hV.xx.keep (hf7.fresh (by omega))), (fun _ => hx7.mono (fun b hb => by have h1 : wx.heap.size ≤ b := hb; have h2 := hV.fr.size; omega)), (fun _ => hn7), (kn hV.p4_3 hl)⟩, rfl⟩
    · have nl := kf hV.ord hl
      have d1 : L 1 = true := hd _ rfl ⟨1, .data⟩ (by simp) rfl
      obtain rfl := (hV.c1 d1).symm
      have d3 : L 3 = true := hd _ rfl ⟨3, .data⟩ (by simp) rfl
      obtain rfl := (hV.c3 d3).symm
      have hal : Below wx.heap.size wx (wx.alloc (.cells #[.int .i64 x.kind, .int .i64 x.op, .int .i64 x.n, .string (strOf x.name), .slice xa x.args.length xc, .int .i64 y.kind, .int .i64 y.op, .int .i64 y.n, .string (strOf y.name), .slice sa y.args.length sc] 27)) := (Below.refl _ _).alloc (Nat.le_refl _) _
      have hfs := hV.fr.size
      refine op_at _ rfl rfl (fun K' hK => ?_)
      conv => arg 2; whnf
      go_wp2_with fail
      exact ⟨sa, sc, wx.heap.size, z51, exV x (.slice xa x.args.length xc), z53, exV y (.slice sa y.args.length sc), .slice (some ⟨(wx.heap.size), 0, none⟩) 2 2, z56, ⟨(kl nl), (kd (d3)), (fun _ => upd_same L 4), (fun _ => upd_same L 4), (kc hV.c0), (kc hV.c1), (kc hV.c2), (kc hV.c3), (fun _ => rfl), (kn hV.p5_4 hl), (AFr.old (hV.fr) hal), (fun h0 => Ps.old (hV.pa (kb h0)) hal), (fun h0 => Ps.old (hV.pb (kb h0)) hal), (OwnAt.old (hV.e) hal), (fun h0 => OwnAt.old (hV.r0 (kb h0)) hal), (kl nl), (ExsAt.old hal (hV.xx)), (fun h0 => ExsAt.old hal (hV.ya (kb h0))), (fun h0 => (hV.yn (kb h0))), (fun _ => ex_box2 hV.xx HXN.out (hV.ya d3) (hV.yn d3) (by omega))⟩, rfl⟩
    · have nl := kf hV.ord hl
      have d0 : L 0 = true := hd _ rfl ⟨0, .data⟩ (by simp) rfl
      obtain rfl := (hV.c0 d0).symm
      have d4 : L 4 = true := hd _ rfl ⟨4, .data⟩ (by simp) rfl
      obtain rfl := (hV.c4 d4).symm
      refine op_at _ rfl rfl (fun K' hK => ?_)
      conv => arg 2; whnf
      go_wp2_with fail
      exact ⟨sa, sc, nb, .string (strOf nm), z52, z53, z54, .slice (some ⟨nb, 0, none⟩) 2 2, .agg #[.int .i64 2, .string (strOf nm), .slice (some ⟨nb, 0, none⟩) 2 2, .slice none 0 0, .slice none 0 0], ⟨(kl nl), (kq hV.p4_3), (kd (d4)), (kq hV.p6_4), (kc hV.c0), (kc hV.c1), (kc hV.c2), (kc hV.c3), (kc hV.c4), (fun _ => rfl), hV.fr, (fun h0 => hV.pa (kb h0)), (kc hV.pb), hV.e, (fun h0 => hV.r0 (kb h0)), (kl nl), hV.xx, (kc hV.ya), (kc hV.yn), (kc hV.xy)⟩, rfl⟩
    · have before : ∀ j, j < 6 → L j = true := fun j hj => by
        have hj : j = 0 ∨ j = 1 ∨ j = 2 ∨ j = 3 ∨ j = 4 ∨ j = 5 := by omega
        rcases hj with rfl | rfl | rfl | rfl | rfl | rfl
        · exact hd _ rfl ⟨0, .phase⟩ (by simp) rfl
        · exact hd _ rfl ⟨1, .phase⟩ (by simp) rfl
        · exact hd _ rfl ⟨2, .phase⟩ (by simp) rfl
        · exact hd _ rfl ⟨3, .chain⟩ (by simp) rfl
        · exact hd _ rfl ⟨4, .phase⟩ (by simp) rfl
        · exact hd _ rfl ⟨5, .data⟩ (by simp) rfl
      have d3 : L 3 = true := hd _ rfl ⟨3, .chain⟩ (by simp) rfl
      have d5 : L 5 = true := hd _ rfl ⟨5, .data⟩ (by simp) rfl
      obtain rfl := (hV.c5 d5).symm
      have hr := hV.r0 hl
      have x0 := hr.at 0 _ rfl
      have x1 := hr.at 1 _ rfl
      have x2 := hr.at 2 _ rfl
      have x3 := hr.at 3 _ rfl
      have x4 := hr.at 4 _ rfl
      have f0 := hr.fz 0
      have f1 := hr.fz 1
      have f2 := hr.fz 2
      have f3 := hr.fz 3
      have f4 := hr.fz 4
      have hrl := hr.lt
      refine op_at _ rfl rfl (fun K' hK => ?_)
      conv => arg 2; whnf
      go_wp2_with fail
      exact ⟨sa, sc, nb, z51, z52, z53, z54, z55, .agg #[.int .i64 2, .string (strOf nm), .slice (some ⟨nb, 0, none⟩) 2 2, .slice none 0 0, .slice none 0 0], ⟨(fun _ j hj => by rw [upd_ne L (show j ≠ 6 by omega)]; exact before j hj), (kq hV.p4_3), (kq hV.p5_4), (kd (before 4 (by decide))), (kc hV.c0), (kc hV.c1), (kc hV.c2), (kc hV.c3), (kc hV.c4), (kc hV.c5), (((((hV.fr.set _ _).set _ _).set _ _).set _ _).set _ _), (fun h => by rw [upd_ne L (by decide)] at h; rw [d3] at h; cases h), (fun _ => ps5 (hV.pb d3) hpb _ _ _ _ _), (((((hV.e.other (by omega) _ _).other (by omega) _ _).other (by omega) _ _).other (by omega) _ _).other (by omega) _ _), (ks), (fun _ => own5 hr _ _ _ _ _), (hV.xx.keep (keeps5 _ (by show ¬ b0 + 1 ≤ b0; omega) _ _ _ _ _)), (fun _ => (hV.ya d3).keep (keeps5 _ (by show ¬ b0 + 1 ≤ b0; omega) _ _ _ _ _)), (fun _ => hV.yn d3), (fun _ => (hV.xy (before 4 (by decide))).keep (keeps5 _ (by show ¬ b0 + 1 ≤ b0; omega) _ _ _ _ _))⟩, rfl⟩
  · intro L act wx hI hall
    obtain ⟨sa, sc, nb, z51, z52, z53, z54, z55, z56, hV, rfl⟩ := hI
    obtain rfl := (hV.c0 (hall 0 (by decide))).symm
    obtain rfl := (hV.c1 (hall 1 (by decide))).symm
    obtain rfl := (hV.c2 (hall 2 (by decide))).symm
    obtain rfl := (hV.c3 (hall 3 (by decide))).symm
    obtain rfl := (hV.c4 (hall 4 (by decide))).symm
    obtain rfl := (hV.c5 (hall 5 (by decide))).symm
    exact hM _ _ (Met.intro (hJ _ _ ⟨sa, sc, nb, ⟨hV.fr, hV.pb (hall 3 (by decide)), hV.r1 (hall 6 (by decide)), hV.xy (hall 4 (by decide))⟩, rfl⟩))
end Go.Proofs.YtcfpfnoldgnloaaGreatDoor

namespace Go.Proofs.YtcfpfnoldgnloaaGreatDoor
open Go.RowKit
set_option maxRecDepth 100000
set_option maxHeartbeats 4000000

theorem sfr_afr {p ob base : Nat} {w W w' : World} (h : SFr p w W) (k : AFr p ob base W w') (hb : w.heap.size ≤ base) (ho : w.heap.size ≤ ob) : SFr p w w' :=
  ⟨k.os.trans h.os, k.tape.trans h.tape, k.output.trans h.output, Nat.le_trans h.size k.size, fun i hi hp => (k.block i (Nat.lt_of_lt_of_le hi h.size) (by omega) hp (by omega)).trans (h.block i hi hp)⟩
theorem simple_store (f : Nat) (t : Tk) (r : List Tk) (w : World) (p tb : Nat) (hl : 4 * (t :: r).length ≤ f) (h : Ps w p tb (t :: r)) (n0 : isP [98, 114, 101, 97, 107] t = false) (n1 : isP [99, 111, 110, 116, 105, 110, 117, 101] t = false) (n2 : isP [114, 101, 116, 117, 114, 110] t = false) (n3 : isP [112, 114, 105, 110, 116] t = false) (n4 : isP [116, 114, 97, 112] t = false) (s : Bs) (u : Tk) (q : List Tk) (hnm : nameP (t :: r) = .ok (s, u :: q)) (no : isP [40] u = false) (yi : isP [91] u = true) :
    Calls Tryz.prog 204 #[.pointer (some ⟨p, 0, none⟩)] w (PEnd (StH w.heap.size) w p tb (simpleP f (t :: r))) := by
  have HPW := Lib.hid h.lt
  have HNE : Hid (w.heap.size ≠ p) := by show _ ≠ _; have := h.lt; omega
  have hb0 : Below w.heap.size w (w.alloc (.cells #[.int .i64 0, .string ⟨#[]⟩, .slice none 0 0, .slice none 0 0, .slice none 0 0] 60)) := (Below.refl _ _).alloc (Nat.le_refl _) _
  have HF0 : Hid (SFr p w (w.alloc (.cells #[.int .i64 0, .string ⟨#[]⟩, .slice none 0 0, .slice none 0 0, .slice none 0 0] 60))) := SFr.of_below hb0
  have HR0 := Lib.hid (OwnAt.new w [.int .i64 0, .string ⟨#[]⟩, .slice none 0 0, .slice none 0 0, .slice none 0 0] 60)
  have HP0 := Lib.hid (h.old hb0)
  clear hb0
  obtain ⟨R, hR⟩ : ∃ R, simpleP f (t :: r) = R := ⟨_, rfl⟩
  rw [hR]
  have HRR := Lib.hid hR
  clear hR
  have HN0 := Lib.hid n0
  have HT0 : Hid (∀ w1, Ps w1 p tb (t :: r) → _) := fun w1 h1 => psTake_no p tb t r [98, 114, 101, 97, 107] w1 h1 n0
  have HN1 := Lib.hid n1
  have HT1 : Hid (∀ w1, Ps w1 p tb (t :: r) → _) := fun w1 h1 => psTake_no p tb t r [99, 111, 110, 116, 105, 110, 117, 101] w1 h1 n1
  have HN2 := Lib.hid n2
  have HT2 : Hid (∀ w1, Ps w1 p tb (t :: r) → _) := fun w1 h1 => psTake_no p tb t r [114, 101, 116, 117, 114, 110] w1 h1 n2
  have HN3 := Lib.hid n3
  have HT3 : Hid (∀ w1, Ps w1 p tb (t :: r) → _) := fun w1 h1 => psTake_no p tb t r [112, 114, 105, 110, 116] w1 h1 n3
  have HN4 := Lib.hid n4
  have HT4 : Hid (∀ w1, Ps w1 p tb (t :: r) → _) := fun w1 h1 => psTake_no p tb t r [116, 114, 97, 112] w1 h1 n4
  rw [List.length_cons] at hl
  have HNM : Hid (∀ w1, Ps w1 p tb (t :: r) → _) := fun w1 h1 => psName_any p tb (t :: r) w1 h1
  have HNQ := Lib.hid hnm
  have hql := name_less hnm
  simp only [List.length_cons] at hql
  have HNO := Lib.hid no
  have HYI := Lib.hid yi
  have HTO : Hid (∀ w1, Ps w1 p tb (u :: q) → _) := fun w1 h1 => psTake_no p tb u q [40] w1 h1 no
  have HTI : Hid (∀ w1, Ps w1 p tb (u :: q) → _) := fun w1 h1 => psTake_yes p tb u q [91] w1 h1 yi
  have hE := (yex_all f).2.1
  have HC : Hid (∀ q2 w1, 4 * q2.length + 2 ≤ f → Ps w1 p tb q2 → _) := fun q2 w1 h0 h1 => hE q2 w1 p tb h0 h1
  have HLQ : Hid (4 * (u :: q).length + 4 ≤ f) := by show _ ≤ _; simp only [List.length_cons]; omega
  clear no yi hE
  clear hnm hql
  clear hl n0 n1 n2 n3 n4
  clear h
  go_enter Tryz.func204, Tryz.ntmps204
  go_wp2_with fail
  refine (HT0.out _ HP0.out).mono ?_
  rintro e w1 ⟨rfl, hb⟩
  have HF1 := Lib.hid (HF0.out.trans (SFr.of_below hb))
  have HP1 := Lib.hid (HP0.out.old hb)
  have HR1 := Lib.hid (HR0.out.old hb)
  clear hb
  go_wp2_with fail
  refine (HT1.out _ HP1.out).mono ?_
  rintro e w2 ⟨rfl, hb⟩
  have HF2 := Lib.hid (HF1.out.trans (SFr.of_below hb))
  have HP2 := Lib.hid (HP1.out.old hb)
  have HR2 := Lib.hid (HR1.out.old hb)
  clear hb
  go_wp2_with fail
  refine (HT2.out _ HP2.out).mono ?_
  rintro e w3 ⟨rfl, hb⟩
  have HF3 := Lib.hid (HF2.out.trans (SFr.of_below hb))
  have HP3 := Lib.hid (HP2.out.old hb)
  have HR3 := Lib.hid (HR2.out.old hb)
  clear hb
  go_wp2_with fail
  refine (HT3.out _ HP3.out).mono ?_
  rintro e w4 ⟨rfl, hb⟩
  have HF4 := Lib.hid (HF3.out.trans (SFr.of_below hb))
  have HP4 := Lib.hid (HP3.out.old hb)
  have HR4 := Lib.hid (HR3.out.old hb)
  clear hb
  go_wp2_with fail
  refine (HT4.out _ HP4.out).mono ?_
  rintro e w5 ⟨rfl, hb⟩
  have HF5 := Lib.hid (HF4.out.trans (SFr.of_below hb))
  have HP5 := Lib.hid (HP4.out.old hb)
  have HR5 := Lib.hid (HR4.out.old hb)
  clear hb
  go_wp2_with fail
  refine (HNM.out _ HP5.out).mono ?_
  intro e w6 he
  rw [HNQ.out] at he
  obtain ⟨hf, v, rfl, hp, hv⟩ := he
  have hv : v = .string (strOf s) := hv
  subst hv
  have HF6 := Lib.hid (HF5.out.trans hf)
  have HP6 := Lib.hid hp
  have HR6 := Lib.hid (HR5.out.sfr hf HNE.out)
  clear hf hp
  go_wp2_with fail
  refine (HTO.out _ HP6.out).mono ?_
  rintro e w7 ⟨rfl, hb⟩
  have HF7 := Lib.hid (HF6.out.trans (SFr.of_below hb))
  have HP7 := Lib.hid (HP6.out.old hb)
  have HR7 := Lib.hid (HR6.out.old hb)
  clear hb
  go_wp2_with fail
  refine (HTI.out _ HP7.out).mono ?_
  rintro e w8 ⟨rfl, hf, hp⟩
  have HF8 := Lib.hid (HF7.out.trans hf)
  have HP8 := Lib.hid hp
  have HR8 := Lib.hid (HR7.out.sfr hf HNE.out)
  clear hf hp
  have hlq : 4 * q.length + 2 ≤ f := by have := HLQ.out; simp only [List.length_cons] at this; omega
  go_wp2_with fail
  refine (HC.out q _ hlq HP8.out).mono ?_
  intro e w9 he
  cases hA : climbP f 1 q with
  | error n =>
    rw [hA] at he
    obtain ⟨hf, rfl⟩ := he
    have HF := Lib.hid (HF8.out.trans hf)
    have e1 : simpleP f (t :: r) = .error n := by unfold simpleP; rw [take_no HN0.out]; dsimp only; rw [take_no HN1.out]; dsimp only; rw [take_no HN2.out]; dsimp only; rw [take_no HN3.out]; dsimp only; rw [take_no HN4.out]; dsimp only; rw [HNQ.out]; dsimp only; rw [take_no HNO.out]; dsimp only; rw [take_yes HYI.out]; dsimp only; rw [hA]
    have e2 := HRR.out.symm.trans e1
    subst e2
    clear e1 hf
    unfold lineV
    go_wp2_with fail
    exact ⟨rfl, HF.out, rfl⟩
  | ok q =>
    obtain ⟨x, r1⟩ := q
    rw [hA] at he
    obtain ⟨hf, v, rfl, hp, hv⟩ := he
    obtain ⟨s3, rfl, hx, hn⟩ := hv
    obtain ⟨a1, a2, rfl⟩ := hx.shape
    have HX9 := Lib.hid (hx.up (show w.heap.size + 1 ≤ w8.heap.size from HR8.out.lt))
    have HN := Lib.hid hn
    clear hx hn
    have HF9 := Lib.hid (HF8.out.trans hf)
    have HP9 := Lib.hid hp
    have HR9 := Lib.hid (HR8.out.sfr hf HNE.out)
    clear hf hp
    have HA9 := Lib.hid hA
    clear hA
    clear hlq
    go_upto_region 16 with (fail)
    obtain ⟨W, hW⟩ : ∃ W, w9.alloc (.cells #[.int .i64 x.kind, .int .i64 x.op, .int .i64 x.n, .string (strOf x.name), .slice a1 x.args.length a2] 27) = W := ⟨_, rfl⟩
    rw [hW]
    have hba : Below w9.heap.size w9 W := hW ▸ (Below.refl _ _).alloc (Nat.le_refl _) _
    have HF10 := Lib.hid (HF9.out.trans (SFr.of_below hba))
    have HP10 := Lib.hid (HP9.out.old hba)
    have HR10 := Lib.hid (HR9.out.old hba)
    have HX10 := Lib.hid (HX9.out.old hba)
    have HE10 := Lib.hid (hW ▸ OwnAt.new w9 [.int .i64 x.kind, .int .i64 x.op, .int .i64 x.n, .string (strOf x.name), .slice a1 x.args.length a2] 27)
    have HEP : Hid (w9.heap.size ≠ p) := by show _ ≠ _; have := HP9.out.lt; omega
    clear hba hW
    obtain ⟨w10, hWW⟩ : ∃ w10, w10 = W := ⟨_, rfl⟩
    subst hWW
    have hba : Below w10.heap.size w10 (w10.alloc (.cells #[.string ⟨#[93]⟩, .string ⟨#[61]⟩] 9)) := (Below.refl _ _).alloc (Nat.le_refl _) _
    have hwp : w10.heap.size ≠ p := by have := HP10.out.lt; omega
    have HF11 := Lib.hid (HF10.out.trans (SFr.of_below hba))
    have HP11 := Lib.hid (HP10.out.old hba)
    have HR11 := Lib.hid (HR10.out.old hba)
    have HE11 := Lib.hid (HE10.out.old hba)
    have HX11 := Lib.hid (HX10.out.old hba)
    have HWN := Lib.hid (psWant_two p tb r1 [93] [61] _ HP11.out w10.heap.size 2 ((OwnAt.new w10 [.string ⟨#[93]⟩, .string ⟨#[61]⟩] 9).at 0 _ rfl) ((OwnAt.new w10 [.string ⟨#[93]⟩, .string ⟨#[61]⟩] 9).at 1 _ rfl) hwp)
    clear hba hwp
    go_wp2_with fail
    refine (HWN.out).mono ?_
    intro e w12 he
    cases hA : wantP2 [93] [61] r1 with
    | error n =>
      rw [hA] at he
      obtain ⟨hf, rfl⟩ := he
      have HF := Lib.hid (HF11.out.trans hf)
      have e1 : simpleP f (t :: r) = .error n := by unfold simpleP; rw [take_no HN0.out]; dsimp only; rw [take_no HN1.out]; dsimp only; rw [take_no HN2.out]; dsimp only; rw [take_no HN3.out]; dsimp only; rw [take_no HN4.out]; dsimp only; rw [HNQ.out]; dsimp only; rw [take_no HNO.out]; dsimp only; rw [take_yes HYI.out]; dsimp only; rw [HA9.out]; dsimp only; unfold wantP2 at hA; cases hB : ywantP [93] r1 with
        | error n => rw [hB] at hA; injection hA with hA; subst hA; rfl
        | ok z => rw [hB] at hA; dsimp only at hA ⊢; rw [hA]
      have e2 := HRR.out.symm.trans e1
      subst e2
      clear e1 hf
      unfold lineV
      go_wp2_with fail
      exact ⟨rfl, HF.out, rfl⟩
    | ok q2 =>
      rw [hA] at he
      obtain ⟨hf, rfl, hp⟩ := he
      have HF12 := Lib.hid (HF11.out.trans hf)
      have HP12 := Lib.hid hp
      have HR12 := Lib.hid (HR11.out.sfr hf HNE.out)
      have HE12 := Lib.hid (HE11.out.sfr hf HEP.out)
      have HX12 := Lib.hid (HX11.out.keep (hf.fresh (by have := HPW.out; omega)))
      clear hf hp
      have HA12 := Lib.hid hA
      clear hA
      clear HWN
      go_upto_region 17 with (fail)
      have hlq : 4 * q2.length + 2 ≤ f := by
        have h1 := (parse_less f).1 _ _ _ _ HA9.out
        have h2 := HLQ.out
        have h3 := HA12.out
        unfold wantP2 at h3
        cases hB : ywantP [93] r1 with
        | error n => rw [hB] at h3; cases h3
        | ok z =>
          rw [hB] at h3
          have h4 := want_less hB
          have h5 := want_less h3
          simp only [List.length_cons] at h2
          omega
      have hw2 : ∃ z, ywantP [93] r1 = .ok z ∧ ywantP [61] z = .ok q2 := by
        have h3 := HA12.out
        unfold wantP2 at h3
        cases hB : ywantP [93] r1 with
        | error n => rw [hB] at h3; cases h3
        | ok z => rw [hB] at h3; exact ⟨z, rfl, h3⟩
      obtain ⟨z, hw1, hw2⟩ := hw2
      have hbe : w.heap.size < w9.heap.size := HR9.out.lt
      have hcq := fun w1 h1 => HC.out q2 w1 hlq h1
      cases hy : climbP f 1 q2 with
      | error n =>
        have e1 : simpleP f (t :: r) = .error n := by unfold simpleP; rw [take_no HN0.out]; dsimp only; rw [take_no HN1.out]; dsimp only; rw [take_no HN2.out]; dsimp only; rw [take_no HN3.out]; dsimp only; rw [take_no HN4.out]; dsimp only; rw [HNQ.out]; dsimp only; rw [take_no HNO.out]; dsimp only; rw [take_yes HYI.out]; dsimp only; rw [HA9.out]; dsimp only; rw [hw1]; dsimp only; rw [hw2]; dsimp only; rw [hy]
        have e2 := HRR.out.symm.trans e1
        subst e2
        clear e1
        have hreg : ∀ (K : Act → World → Prop) (Q : Exit → Act → World → Prop), True := fun _ _ => trivial
        refine wp_mono (Q := Exit.then (Met (RY2 p tb w.heap.size w9.heap.size s x x a1 a2 q2 [] (some n) w12 _ _ _ _ _ _ _ _ _ _ _ _ _ _ _ _ _ _ _ _ _ _ _ _ _ _ _ _ _ _ _ _ _ _ _ _ _ _ _ _ _ _ _ _ _ _ _ _ _ _ _ _ _ _ _)) _) (reg_Y2 p tb w.heap.size w9.heap.size s x x a1 a2 q2 [] (some n) w12 HP12.out HE12.out HR12.out HX12.out HN.out HPW.out hbe (fun w1 h1 => by have h2 := hcq w1 h1; rw [hy] at h2; exact h2.mono (fun e w2 h => ⟨h.2, h.1⟩)) (fun e a' w' => ∃ n', e = .panic [{ v := .iface 110 (.agg #[.int .i64 n']), recovered := false }] ∧ n = n' ∧ a'.defers = [] ∧ AFr p w.heap.size w12.heap.size w12 w') (fun n' a' w' hn hd hf => by injection hn with hn; exact ⟨n', rfl, hn, hd, hf⟩) _ _ _ _ _ _ _ _ _ _ _ _ _ _ _ _ _ _ _ _ _ _ _ _ _ _ _ _ _ _ _ _ _ _ _ _ _ _ _ _ _ _ _ _ _ _ _ _ _ _ _ _ _ _ _ _ _ _ _ _ _ _ _ (fun _ _ q => q) (fun _ _ q => q)) ?_
        intro e a' w' hq
        cases e with
        | normal =>
          obtain ⟨sa, sc, nb, ⟨_, hp, _⟩, _⟩ := (show RY2 p tb w.heap.size w9.heap.size s x x a1 a2 q2 [] (some n) w12 _ _ _ _ _ _ _ _ _ _ _ _ _ _ _ _ _ _ _ _ _ _ _ _ _ _ _ _ _ _ _ _ _ _ _ _ _ _ _ _ _ _ _ _ _ _ _ _ _ _ _ _ _ _ _ a' w' from hq)
          exact hp.ends.elim
        | panic ch =>
          obtain ⟨n2, he, rfl, hd, hf⟩ := hq
          injection he with he
          subst he
          exact ⟨hd, sfr_afr HF12.out hf (by have := HR12.out.lt; omega) (Nat.le_refl _), rfl⟩
        | _ =>
          obtain ⟨n2, he, _⟩ := hq
          cases he
      | ok qy =>
        obtain ⟨y, r2⟩ := qy
        have e1 : simpleP f (t :: r) = .ok (.mk 2 s [x, y] [] [], r2) := by unfold simpleP; rw [take_no HN0.out]; dsimp only; rw [take_no HN1.out]; dsimp only; rw [take_no HN2.out]; dsimp only; rw [take_no HN3.out]; dsimp only; rw [take_no HN4.out]; dsimp only; rw [HNQ.out]; dsimp only; rw [take_no HNO.out]; dsimp only; rw [take_yes HYI.out]; dsimp only; rw [HA9.out]; dsimp only; rw [hw1]; dsimp only; rw [hw2]; dsimp only; rw [hy]
        have e2 := HRR.out.symm.trans e1
        subst e2
        clear e1
        refine wp_cut (fun a' w' => RY2 p tb w.heap.size w9.heap.size s x y a1 a2 q2 r2 none w12 _ _ _ _ _ _ _ _ _ _ _ _ _ _ _ _ _ _ _ _ _ _ _ _ _ _ _ _ _ _ _ _ _ _ _ _ _ _ _ _ _ _ _ _ _ _ _ _ _ _ _ _ _ _ _ a' w') ?rest (fun J K' hJ hM => reg_Y2 p tb w.heap.size w9.heap.size s x y a1 a2 q2 r2 none w12 HP12.out HE12.out HR12.out HX12.out HN.out HPW.out hbe (fun w1 h1 => by have h2 := hcq w1 h1; rw [hy] at h2; exact h2.mono (fun e w2 h => by obtain ⟨hf, v, rfl, hp, s4, rfl, hs, hm⟩ := h; exact ⟨s4, rfl, hf, hp, hs, hm⟩)) _ (fun n a1 w1 hn => by cases hn) _ _ _ _ _ _ _ _ _ _ _ _ _ _ _ _ _ _ _ _ _ _ _ _ _ _ _ _ _ _ _ _ _ _ _ _ _ _ _ _ _ _ _ _ _ _ _ _ _ _ _ _ _ _ _ _ _ _ _ _ _ J K' hJ hM)
        case rest =>
          rintro a' w' ⟨sa, sc, nb, ⟨hfr, hp, hr, hxy⟩, rfl⟩
          have HSF := Lib.hid (sfr_afr HF12.out hfr (by have := HR12.out.lt; omega) (Nat.le_refl _))
          have HPP := Lib.hid hp
          have HXY := Lib.hid hxy
          obtain ⟨⟨d0, d1, d2, d3, d4⟩, _⟩ := cells5 hr
          clear hfr hp hr hxy hlq hw1 hw2 hcq hy
          go_wp2_with fail
          exact bodyPost_ret (v := .agg #[.int .i64 2, .string (strOf s), .slice (some ⟨nb, 0, none⟩) 2 2, .slice none 0 0, .slice none 0 0]) (by simp [results, Tryz.results204, go_sem, d0, d1, d2, d3, d4]) rfl ⟨HSF.out, _, rfl, HPP.out, _, _, _, rfl, HXY.out.up (by omega), StsAt.zero, StsAt.zero⟩
theorem simple_of (f : Nat) : SimpleC f := by
  intro l w p tb hl h
  obtain ⟨t, r, rfl⟩ := h.ends.ne
  cases h0 : isP [98, 114, 101, 97, 107] t with
  | true => exact simple_brk f t r w p tb hl h h0
  | false =>
    cases h1 : isP [99, 111, 110, 116, 105, 110, 117, 101] t with
    | true => exact simple_cont f t r w p tb hl h h0 h1
    | false =>
      cases h2 : isP [114, 101, 116, 117, 114, 110] t with
      | true => exact simple_ret f t r w p tb hl h h0 h1 h2
      | false =>
        cases h3 : isP [112, 114, 105, 110, 116] t with
        | true => exact simple_print f t r w p tb hl h h0 h1 h2 h3
        | false =>
          cases h4 : isP [116, 114, 97, 112] t with
          | true => exact simple_trap f t r w p tb hl h h0 h1 h2 h3 h4
          | false =>
            cases hnm : nameP (t :: r) with
            | error n => exact simple_noname f t r w p tb hl h h0 h1 h2 h3 h4 n hnm
            | ok q =>
              obtain ⟨s, q⟩ := q
              have hq : EndsTk q := by
                have h5 := name_ite t r
                rw [hnm] at h5
                by_cases hk : t.kind = 1
                · rw [if_pos hk] at h5
                  injection h5 with h5
                  injection h5 with _ h5
                  rw [h5]
                  exact h.ends.tail (by rw [hk]; decide)
                · rw [if_neg hk] at h5; cases h5
              obtain ⟨u, q, rfl⟩ := hq.ne
              cases h5 : isP [40] u with
              | true => exact simple_call f t r w p tb hl h h0 h1 h2 h3 h4 s u q hnm h5
              | false =>
                cases h6 : isP [91] u with
                | true => exact simple_store f t r w p tb hl h h0 h1 h2 h3 h4 s u q hnm h5 h6
                | false => exact simple_set f t r w p tb hl h h0 h1 h2 h3 h4 s u q hnm h5 h6
end Go.Proofs.YtcfpfnoldgnloaaGreatDoor
