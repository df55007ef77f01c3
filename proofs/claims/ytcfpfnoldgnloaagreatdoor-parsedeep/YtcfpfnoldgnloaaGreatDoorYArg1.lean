/-
  args' closure: one more part, in whatever order it is built. Conditions: the parser and the closure's variables lie in memory; what expr answers.
-/
import Derived.Test.YtcfpfnoldgnloaaGreatDoorYRow
set_option linter.unusedVariables false
set_option linter.unusedSimpArgs false
namespace Go.Proofs.YtcfpfnoldgnloaaGreatDoor
open Go.RowKit
set_option maxHeartbeats 8000000
set_option maxRecDepth 100000

structure VY1 (p tb cb ob base : Nat) (va : Option Addr) (vc : Nat) (ps : List (Ex × Value)) (l r2 : List Tk) (x : Ex) (W : World) (L : Nat → Bool) (sa : Option Addr) (sc : Nat) (nb : Nat) (gn : Nat) (cn : Nat) (z2 z3 z4 z5 z6 z7 z8 : Value) (wx : World) : Prop where
  p5_0 : L 5 = true → L 0 = true
  p5_2 : L 5 = true → L 2 = true
  p5_4 : L 5 = true → L 4 = true
  p6_5 : L 6 = true → L 5 = true
  p7_2 : L 7 = true → L 2 = true
  p7_4 : L 7 = true → L 4 = true
  p7_5 : L 7 = true → L 5 = true
  p8_2 : L 8 = true → L 2 = true
  p8_4 : L 8 = true → L 4 = true
  p8_5 : L 8 = true → L 5 = true
  c0 : L 0 = true → z2 = .slice va ps.length vc
  c1 : L 1 = true → z3 = .pointer (some ⟨p, 0, none⟩)
  c2 : L 2 = true → z4 = exV x (.slice sa x.args.length sc)
  c3 : L 3 = true → z5 = .int .i64 ps.length
  c4 : L 4 = true → z6 = .slice (some ⟨nb, 0, none⟩) 1 1
  c5 : L 5 = true → z7 = .slice (some ⟨gn, 0, none⟩) (ps.length + 1) cn
  c6 : L 6 = true → z8 = .pointer (some ⟨gn, ps.length * 5, none⟩)
  fr : AFr p ob base W wx
  pa : L 2 = false → Ps wx p tb l
  pb : L 2 = true → Ps wx p tb r2
  c : OwnAt wx cb [.pointer (some ⟨p, 0, none⟩)] 64
  oa : L 8 = false → OwnAt wx ob [.slice va ps.length vc] 25
  ob : L 8 = true → OwnAt wx ob [.slice (some ⟨gn, 0, none⟩) (ps.length + 1) cn] 25
  ra : L 5 = false → ExsOwn wx base ps (.slice va ps.length vc)
  g4 : L 4 = true → L 5 = false → OwnAt wx nb (exCells exZ (.slice none 0 0)) 27 ∧ base ≤ nb ∧ (Value.slice va ps.length vc).ownBlock ≠ some nb
  xa : L 2 = true → L 5 = false → ExsAt (fun b => base ≤ b ∧ (Value.slice va ps.length vc).ownBlock ≠ some b) wx x.args (.slice sa x.args.length sc)
  xn : L 2 = true → I64 x.n
  rb : L 5 = true → L 7 = false → ExsOwn wx base (ps ++ [(exZ, .slice none 0 0)]) (.slice (some ⟨gn, 0, none⟩) (ps.length + 1) cn)
  xb : L 5 = true → ExsAt (fun b => base ≤ b ∧ b ≠ gn) wx x.args (.slice sa x.args.length sc)
  rc : L 7 = true → ExsOwn wx base (ps ++ [(x, .slice sa x.args.length sc)]) (.slice (some ⟨gn, 0, none⟩) (ps.length + 1) cn)
  gb : L 5 = true → base ≤ gn ∧ gn < wx.heap.size
def IY1 (p tb cb ob base : Nat) (va : Option Addr) (vc : Nat) (ps : List (Ex × Value)) (l r2 : List Tk) (x : Ex) (W : World)  (L : Nat → Bool) (a' : Act) (w' : World) : Prop :=
  ∃ sa : Option Addr, ∃ sc : Nat, ∃ nb : Nat, ∃ gn : Nat, ∃ cn : Nat, ∃ z2 z3 z4 z5 z6 z7 z8 : Value, VY1 p tb cb ob base va vc ps l r2 x W L sa sc nb gn cn z2 z3 z4 z5 z6 z7 z8 w' ∧ a' = ⟨[.pointer (some ⟨ob, 0, none⟩), .pointer (some ⟨cb, 0, none⟩), z2, z3, z4, z5, z6, z7, z8].toArray, []⟩
def RY1 (p tb cb ob base : Nat) (va : Option Addr) (vc : Nat) (ps : List (Ex × Value)) (l r2 : List Tk) (x : Ex) (W : World)  (a' : Act) (w' : World) : Prop :=
  ∃ sa : Option Addr, ∃ sc : Nat, ∃ nb : Nat, ∃ gn : Nat, ∃ cn : Nat, (AFr p ob base W w' ∧ Ps w' p tb r2 ∧ OwnAt w' cb [.pointer (some ⟨p, 0, none⟩)] 64 ∧ OwnAt w' ob [.slice (some ⟨gn, 0, none⟩) (ps.length + 1) cn] 25 ∧ ExsOwn w' base (ps ++ [(x, .slice sa x.args.length sc)]) (.slice (some ⟨gn, 0, none⟩) (ps.length + 1) cn)) ∧ a' = ⟨[.pointer (some ⟨ob, 0, none⟩), .pointer (some ⟨cb, 0, none⟩), .slice va ps.length vc, .pointer (some ⟨p, 0, none⟩), exV x (.slice sa x.args.length sc), .int .i64 ps.length, .slice (some ⟨nb, 0, none⟩) 1 1, .slice (some ⟨gn, 0, none⟩) (ps.length + 1) cn, .pointer (some ⟨gn, ps.length * 5, none⟩)].toArray, []⟩
theorem reg_Y1 (p tb cb ob base : Nat) (va : Option Addr) (vc : Nat) (ps : List (Ex × Value)) (l r2 : List Tk) (x : Ex) (W : World) (hps : Ps W p tb l) (hc : OwnAt W cb [.pointer (some ⟨p, 0, none⟩)] 64) (ho : OwnAt W ob [.slice va ps.length vc] 25) (hrow : ExsOwn W base ps (.slice va ps.length vc)) (hpc : p < cb) (hco : cb < ob) (hob : ob < base) (hbs : base ≤ W.heap.size) (hll : ps.length ≤ 1000000) (HE : Hid (∀ w1, Ps w1 p tb l → Calls Tryz.prog 27 #[.pointer (some ⟨p, 0, none⟩)] w1 fun e w' => ∃ s, e = .returned (exV x s) ∧ SFr p w1 w' ∧ Ps w' p tb r2 ∧ ExsAt (w1.heap.size ≤ ·) w' x.args s ∧ I64 x.n)) (q2 q3 q4 q5 q6 q7 q8 : Value) (J K' : Act → World → Prop) (hJ : ∀ a' w', RY1 p tb cb ob base va vc ps l r2 x W  a' w' → J a' w') (hM : ∀ a' w', Met J a' w' → K' a' w') :
    Code.wp Tryz.prog ((Tryz.f224.body.bind (regOf 0)).getD .skip) (Exit.then K' (fun _ _ _ => False)) ⟨[.pointer (some ⟨ob, 0, none⟩), .pointer (some ⟨cb, 0, none⟩), q2, q3, q4, q5, q6, q7, q8].toArray, []⟩ W := by
  have HPS := Lib.hid hps; have HC := Lib.hid hc; have HO := Lib.hid ho; have HROW := Lib.hid hrow
  clear hps hc ho hrow
  conv => arg 2; whnf
  (try dsimp only)
  refine region_by (by kernel_rfl) (by kernel_rfl) (IY1 p tb cb ob base va vc ps l r2 x W ) ?_ ?_ ?_
  · exact ⟨none, 0, 0, 0, 0, q2, q3, q4, q5, q6, q7, q8, ⟨(fun h => by cases h), (fun h => by cases h), (fun h => by cases h), (fun h => by cases h), (fun h => by cases h), (fun h => by cases h), (fun h => by cases h), (fun h => by cases h), (fun h => by cases h), (fun h => by cases h), (fun h => by cases h), (fun h => by cases h), (fun h => by cases h), (fun h => by cases h), (fun h => by cases h), (fun h => by cases h), (fun h => by cases h), ((AFr.refl p ob base W).old (Below.refl _ _).drew), (fun _ => HPS.out.old (Below.refl _ _).drew), (fun h => by cases h), (HC.out.old (Below.refl _ _).drew), (fun _ => HO.out.old (Below.refl _ _).drew), (fun h => by cases h), (fun _ => HROW.out.old (Below.refl _ _).drew), (fun h => fun _ => by cases h), (fun h => fun _ => by cases h), (fun h => by cases h), (fun h => fun _ => by cases h), (fun h => by cases h), (fun h => by cases h), (fun h => by cases h)⟩, rfl⟩
  · intro L act wx k hI hk hl hd
    obtain ⟨sa, sc, nb, gn, cn, z2, z3, z4, z5, z6, z7, z8, hV, rfl⟩ := hI
    have hk : k = 0 ∨ k = 1 ∨ k = 2 ∨ k = 3 ∨ k = 4 ∨ k = 5 ∨ k = 6 ∨ k = 7 ∨ k = 8 := by
      have : k < 9 := hk
      omega
    rcases hk with rfl | rfl | rfl | rfl | rfl | rfl | rfl | rfl | rfl
    · have l5 : L 5 = false := by
        cases e : L 5 with
        | false => rfl
        | true => have := hV.p5_0 e; rw [hl] at this; cases this
      have l8 : L 8 = false := by
        cases e : L 8 with
        | false => rfl
        | true => have := hV.p8_5 e; rw [l5] at this; cases this
      have ho := (hV.oa l8).at 0 _ rfl
      refine op_at _ rfl rfl (fun K' hK => ?_)
      conv => arg 2; whnf
      go_wp2_with fail
      exact ⟨sa, sc, nb, gn, cn, .slice va ps.length vc, z3, z4, z5, z6, z7, z8, ⟨(fun _ => upd_same L 0), (kq hV.p5_2), (kq hV.p5_4), (kq hV.p6_5), (kq hV.p7_2), (kq hV.p7_4), (kq hV.p7_5), (kq hV.p8_2), (kq hV.p8_4), (kq hV.p8_5), (fun _ => rfl), (kc hV.c1), (kc hV.c2), (kc hV.c3), (kc hV.c4), (kc hV.c5), (kc hV.c6), hV.fr, (fun h0 => hV.pa (kb h0)), (kc hV.pb), hV.c, (fun h0 => hV.oa (kb h0)), (kc hV.ob), (fun h0 => hV.ra (kb h0)), (fun h0 => fun h1 => hV.g4 (kb h0) (kb h1)), (fun h0 => fun h1 => hV.xa (kb h0) (kb h1)), (kc hV.xn), (fun h0 => fun h1 => hV.rb (kb h0) (kb h1)), (kc hV.xb), (kc hV.rc), (kc hV.gb)⟩, rfl⟩
    · have hc0 := hV.c.at 0 _ rfl
      refine op_at _ rfl rfl (fun K' hK => ?_)
      conv => arg 2; whnf
      go_wp2_with fail
      exact ⟨sa, sc, nb, gn, cn, z2, .pointer (some ⟨p, 0, none⟩), z4, z5, z6, z7, z8, ⟨(kq hV.p5_0), (kq hV.p5_2), (kq hV.p5_4), (kq hV.p6_5), (kq hV.p7_2), (kq hV.p7_4), (kq hV.p7_5), (kq hV.p8_2), (kq hV.p8_4), (kq hV.p8_5), (kc hV.c0), (fun _ => rfl), (kc hV.c2), (kc hV.c3), (kc hV.c4), (kc hV.c5), (kc hV.c6), hV.fr, (fun h0 => hV.pa (kb h0)), (kc hV.pb), hV.c, (fun h0 => hV.oa (kb h0)), (kc hV.ob), (fun h0 => hV.ra (kb h0)), (fun h0 => fun h1 => hV.g4 (kb h0) (kb h1)), (fun h0 => fun h1 => hV.xa (kb h0) (kb h1)), (kc hV.xn), (fun h0 => fun h1 => hV.rb (kb h0) (kb h1)), (kc hV.xb), (kc hV.rc), (kc hV.gb)⟩, rfl⟩
    · have d1 : L 1 = true := hd _ rfl ⟨1, .data⟩ (by simp) rfl
      obtain rfl := (hV.c1 d1).symm
      have l5 : L 5 = false := by
        cases e : L 5 with
        | false => rfl
        | true => have := hV.p5_2 e; rw [hl] at this; cases this
      have l8 : L 8 = false := by
        cases e : L 8 with
        | false => rfl
        | true => have := hV.p8_5 e; rw [l5] at this; cases this
      have l7 : L 7 = false := by
        cases e : L 7 with
        | false => rfl
        | true => have := hV.p7_5 e; rw [l5] at this; cases this
      have hps := hV.pa hl
      refine op_at _ rfl rfl (fun K' hK => ?_)
      conv => arg 2; whnf
      go_wp2_with fail
      refine (HE.out _ hps).mono ?_
      rintro e w7 ⟨s1, rfl, hf7, hp7, hx7, hn7⟩
      obtain ⟨a7, c7, rfl⟩ := hx7.shape
      go_wp2_with fail
      exact ⟨a7, c7, nb, gn, cn, z2, .pointer (some ⟨p, 0, none⟩), exV x (.slice (a7) x.args.length (c7)), z5, z6, z7, z8, ⟨(kq hV.p5_0), (fun _ => upd_same L 2), (kq hV.p5_4), (kq hV.p6_5), (fun _ => upd_same L 2), (kq hV.p7_4), (kq hV.p7_5), (fun _ => upd_same L 2), (kq hV.p8_4), (kq hV.p8_5), (kc hV.c0), (kc hV.c1), (fun _ => rfl), (kc hV.c3), (kc hV.c4), (kc hV.c5), (kc hV.c6), (hV.fr.trans (AFr.of_sfr hf7)), (ks), (fun _ => hp7), (hV.c.sfr hf7 (by omega)), (fun _ => (hV.oa l8).sfr hf7 (by omega)), (fun h => by rw [upd_ne L (by decide)] at h; rw [l8] at h; cases h), (fun _ => (hV.ra l5).sfrB hf7 (by omega)), (fun h1 h2 => ⟨OwnAt.sfr (hV.g4 (kb h1) (kb h2)).1 hf7 (by have := (hV.g4 (kb h1) (kb h2)).2.1; omega), (hV.g4 (kb h1) (kb h2)).2⟩), (fun _ _ => hx7.mono (fun b hb => by have h1 : wx.heap.size ≤ b := hb; have h2 := hV.fr.size; exact ⟨by omega, fun e => by have := (World.ownsRow.lt (hV.ra l5).1 _ e).2; omega⟩)), (fun _ => hn7), (fun h _ => by rw [upd_ne L (by decide)] at h; rw [l5] at h; cases h), (fun h => by rw [upd_ne L (by decide)] at h; rw [l5] at h; cases h), (fun h => by rw [upd_ne L (by decide)] at h; rw [l7] at h; cases h), (fun h => by rw [upd_ne L (by decide)] at h; rw [l5] at h; cases h)⟩, rfl⟩
    · have d0 : L 0 = true := hd _ rfl ⟨0, .data⟩ (by simp) rfl
      obtain rfl := (hV.c0 d0).symm
  
      refine op_at _ rfl rfl (fun K' hK => ?_)
      conv => arg 2; whnf
      go_wp2_with fail
      exact ⟨sa, sc, nb, gn, cn, .slice va ps.length vc, z3, z4, .int .i64 ps.length, z6, z7, z8, ⟨(kq hV.p5_0), (kq hV.p5_2), (kq hV.p5_4), (kq hV.p6_5), (kq hV.p7_2), (kq hV.p7_4), (kq hV.p7_5), (kq hV.p8_2), (kq hV.p8_4), (kq hV.p8_5), (kc hV.c0), (kc hV.c1), (kc hV.c2), (fun _ => rfl), (kc hV.c4), (kc hV.c5), (kc hV.c6), hV.fr, (fun h0 => hV.pa (kb h0)), (kc hV.pb), hV.c, (fun h0 => hV.oa (kb h0)), (kc hV.ob), (fun h0 => hV.ra (kb h0)), (fun h0 => fun h1 => hV.g4 (kb h0) (kb h1)), (fun h0 => fun h1 => hV.xa (kb h0) (kb h1)), (kc hV.xn), (fun h0 => fun h1 => hV.rb (kb h0) (kb h1)), (kc hV.xb), (kc hV.rc), (kc hV.gb)⟩, rfl⟩
    · have hal : Below wx.heap.size wx (wx.alloc (.cells #[.int .i64 0, .int .i64 0, .int .i64 0, .string ⟨#[]⟩, .slice none 0 0] 27)) := (Below.refl _ _).alloc (Nat.le_refl _) _
      have hfs := hV.fr.size
      have l5 : L 5 = false := by
        cases e : L 5 with
        | false => rfl
        | true => have := hV.p5_4 e; rw [hl] at this; cases this
      refine op_at _ rfl rfl (fun K' hK => ?_)
      conv => arg 2; whnf
      go_wp2_with fail
      exact ⟨sa, sc, wx.heap.size, gn, cn, z2, z3, z4, z5, .slice (some ⟨(wx.heap.size), 0, none⟩) 1 1, z7, z8, ⟨(kq hV.p5_0), (kq hV.p5_2), (fun _ => upd_same L 4), (kq hV.p6_5), (kq hV.p7_2), (fun _ => upd_same L 4), (kq hV.p7_5), (kq hV.p8_2), (fun _ => upd_same L 4), (kq hV.p8_5), (kc hV.c0), (kc hV.c1), (kc hV.c2), (kc hV.c3), (fun _ => rfl), (kc hV.c5), (kc hV.c6), (AFr.old (hV.fr) hal), (fun h0 => Ps.old (hV.pa (kb h0)) hal), (fun h0 => Ps.old (hV.pb (kb h0)) hal), (OwnAt.old (hV.c) hal), (fun h0 => OwnAt.old (hV.oa (kb h0)) hal), (kn hV.p8_4 hl), (fun h0 => ExsOwn.old (hV.ra (kb h0)) hal), (fun _ _ => ⟨OwnAt.new wx (exCells exZ (.slice none 0 0)) 27, by omega, fun e => by have := (World.ownsRow.lt (hV.ra l5).1 _ e).2; omega⟩), (fun h0 => fun h1 => ExsAt.old hal (hV.xa (kb h0) (kb h1))), (fun h0 => (hV.xn (kb h0))), (kn hV.p5_4 hl), (kn hV.p5_4 hl), (kn hV.p7_4 hl), (kn hV.p5_4 hl)⟩, rfl⟩
    · have d0 : L 0 = true := hd _ rfl ⟨0, .data⟩ (by simp) rfl
      obtain rfl := (hV.c0 d0).symm
      have d2 : L 2 = true := hd _ rfl ⟨2, .chain⟩ (by simp) rfl
      have d4 : L 4 = true := hd _ rfl ⟨4, .data⟩ (by simp) rfl
      obtain rfl := (hV.c4 d4).symm
      have l8 : L 8 = false := by
        cases e : L 8 with
        | false => rfl
        | true => have := hV.p8_5 e; rw [hl] at this; cases this
      have l7 : L 7 = false := by
        cases e : L 7 with
        | false => rfl
        | true => have := hV.p7_5 e; rw [hl] at this; cases this
      have hg4 := hV.g4 d4 hl
      have hra := hV.ra hl
      have hxa := hV.xa d2 hl
      have hfs := hV.fr.size
      refine op_at _ rfl rfl (fun K' hK => ?_)
      conv => arg 2; whnf
      refine wp_exSnoc wx _ _ rfl base ps (.slice va ps.length vc) rfl hra nb 1 rfl hg4.1 hll (Nat.le_trans hbs hfs) ?_
      intro g2 cap2 w2 hr2 hg2 ha2 hl2
      have hge : base ≤ g2 := by
        rcases ha2 with e | e
        · exact hra.rowGe _ e
        · omega
      go_wp2_with fail
      exact ⟨sa, sc, nb, g2, cap2, .slice va ps.length vc, z3, z4, z5, .slice (some ⟨nb, 0, none⟩) 1 1, .slice (some ⟨(g2), 0, none⟩) (ps.length + 1) (cap2), z8, ⟨(kd (d0)), (kd (d2)), (kd (d4)), (fun _ => upd_same L 5), (kq hV.p7_2), (kq hV.p7_4), (fun _ => upd_same L 5), (kq hV.p8_2), (kq hV.p8_4), (fun _ => upd_same L 5), (kc hV.c0), (kc hV.c1), (kc hV.c2), (kc hV.c3), (kc hV.c4), (fun _ => rfl), (kn hV.p6_5 hl), (hV.fr.grown hg2 hra.rowGe), (fun h => by rw [upd_ne L (by decide)] at h; rw [d2] at h; cases h), (fun _ => (hV.pb d2).grown hg2 hra.rowGe (by omega)), (hV.c.grew hg2 (fun e => by have := hra.rowGe _ e; omega)), (fun _ => (hV.oa l8).grew hg2 (fun e => by have := hra.rowGe _ e; omega)), (fun h => by rw [upd_ne L (by decide)] at h; rw [l8] at h; cases h), (ks), (fun _ => ks), (fun _ => ks), (fun _ => hV.xn d2), (fun _ _ => hr2), (fun _ => by have h1 := hxa.strong.keep (w' := w2) (fun b off y hb hy => hg2.cell hy (fun e => hb.1.2 e.symm)); exact h1.mono (fun b hb => ⟨hb.1.1, by rintro rfl; rcases ha2 with e | e; exact hb.1.2 e; have := hb.2; omega⟩)), (fun h => by rw [upd_ne L (by decide)] at h; rw [l7] at h; cases h), (fun _ => ⟨hge, hl2⟩)⟩, rfl⟩
    · have d3 : L 3 = true := hd _ rfl ⟨3, .data⟩ (by simp) rfl
      obtain rfl := (hV.c3 d3).symm
      have d5 : L 5 = true := hd _ rfl ⟨5, .data⟩ (by simp) rfl
      obtain rfl := (hV.c5 d5).symm
      have hgb := hV.gb d5
      refine op_at _ rfl rfl (fun K' hK => ?_)
      conv => arg 2; whnf
      go_wp2_with fail
      exact ⟨sa, sc, nb, gn, cn, z2, z3, z4, .int .i64 ps.length, z6, .slice (some ⟨gn, 0, none⟩) (ps.length + 1) cn, .pointer (some ⟨gn, ps.length * 5, none⟩), ⟨(kq hV.p5_0), (kq hV.p5_2), (kq hV.p5_4), (kd (d5)), (kq hV.p7_2), (kq hV.p7_4), (kq hV.p7_5), (kq hV.p8_2), (kq hV.p8_4), (kq hV.p8_5), (kc hV.c0), (kc hV.c1), (kc hV.c2), (kc hV.c3), (kc hV.c4), (kc hV.c5), (fun _ => rfl), hV.fr, (fun h0 => hV.pa (kb h0)), (kc hV.pb), hV.c, (fun h0 => hV.oa (kb h0)), (kc hV.ob), (fun h0 => hV.ra (kb h0)), (fun h0 => fun h1 => hV.g4 (kb h0) (kb h1)), (fun h0 => fun h1 => hV.xa (kb h0) (kb h1)), (kc hV.xn), (fun h0 => fun h1 => hV.rb (kb h0) (kb h1)), (kc hV.xb), (kc hV.rc), (kc hV.gb)⟩, rfl⟩
    · have d2 : L 2 = true := hd _ rfl ⟨2, .data⟩ (by simp) rfl
      obtain rfl := (hV.c2 d2).symm
      have d5 : L 5 = true := hd _ rfl ⟨5, .chain⟩ (by simp) rfl
      have d6 : L 6 = true := hd _ rfl ⟨6, .data⟩ (by simp) rfl
      obtain rfl := (hV.c6 d6).symm
      have hrb := hV.rb d5 hl
      have hxb := hV.xb d5
      have hxn := hV.xn d2
      have hgb := hV.gb d5
      have hlr : (ps ++ [(exZ, Value.slice none 0 0)]).length = ps.length + 1 := by simp
      have hrw := hrb.1
      rw [hlr] at hrw
      have k0 := hrw.cellAt (ps.length * 5) (by omega)
      have k1 := hrw.cellAt (ps.length * 5 + 1) (by omega)
      have k2 := hrw.cellAt (ps.length * 5 + 2) (by omega)
      have k3 := hrw.cellAt (ps.length * 5 + 3) (by omega)
      have k4 := hrw.cellAt (ps.length * 5 + 4) (by omega)
      rw [List.getElem?_eq_getElem (by rw [exFlat_len, hlr]; omega)] at k0 k1 k2 k3 k4
      have f0 := hrw.frozenAt (ps.length * 5)
      have f1 := hrw.frozenAt (ps.length * 5 + 1)
      have f2 := hrw.frozenAt (ps.length * 5 + 2)
      have f3 := hrw.frozenAt (ps.length * 5 + 3)
      have f4 := hrw.frozenAt (ps.length * 5 + 4)
      refine op_at _ rfl rfl (fun K' hK => ?_)
      conv => arg 2; whnf
      go_wp2_with fail
      exact ⟨sa, sc, nb, gn, cn, z2, z3, exV x (.slice sa x.args.length sc), z5, z6, z7, .pointer (some ⟨gn, ps.length * 5, none⟩), ⟨(kq hV.p5_0), (kq hV.p5_2), (kq hV.p5_4), (kq hV.p6_5), (kd (d2)), (kd (hV.p5_4 d5)), (kd (d5)), (kq hV.p8_2), (kq hV.p8_4), (kq hV.p8_5), (kc hV.c0), (kc hV.c1), (kc hV.c2), (kc hV.c3), (kc hV.c4), (kc hV.c5), (kc hV.c6), (((((hV.fr.high hgb.1 _ _).high hgb.1 _ _).high hgb.1 _ _).high hgb.1 _ _).high hgb.1 _ _), (fun h => by rw [upd_ne L (by decide)] at h; rw [d2] at h; cases h), (fun _ => ((((((hV.pb d2).other (by omega) _ _).other (by omega) _ _).other (by omega) _ _).other (by omega) _ _).other (by omega) _ _)), (((((hV.c.other (by omega) _ _).other (by omega) _ _).other (by omega) _ _).other (by omega) _ _).other (by omega) _ _), (fun h => ((((((hV.oa (kb h)).other (by omega) _ _).other (by omega) _ _).other (by omega) _ _).other (by omega) _ _).other (by omega) _ _)), (fun h => ((((((hV.ob (kb h)).other (by omega) _ _).other (by omega) _ _).other (by omega) _ _).other (by omega) _ _).other (by omega) _ _)), (fun h => by rw [upd_ne L (by decide)] at h; rw [d5] at h; cases h), (fun _ h => by rw [upd_ne L (by decide)] at h; rw [d5] at h; cases h), (fun _ h => by rw [upd_ne L (by decide)] at h; rw [d5] at h; cases h), (fun _ => hxn), (fun _ => ks), (fun _ => ((((hxb.keep (keeps_set _ (fun e => e.2 rfl) _ _)).keep (keeps_set _ (fun e => e.2 rfl) _ _)).keep (keeps_set _ (fun e => e.2 rfl) _ _)).keep (keeps_set _ (fun e => e.2 rfl) _ _)).keep (keeps_set _ (fun e => e.2 rfl) _ _)), (fun _ => hrb.setLast hxb hxn), (fun _ => by simpa [World.setCell] using hgb)⟩, rfl⟩
    · have d5 : L 5 = true := hd _ rfl ⟨5, .data⟩ (by simp) rfl
      obtain rfl := (hV.c5 d5).symm
      have hx := hV.oa hl
      have x1 := hx.at 0 _ rfl
      have fx := hx.fz 0
      have hxl := hx.lt
      have hgb := hV.gb d5
      refine op_at _ rfl rfl (fun K' hK => ?_)
      conv => arg 2; whnf
      go_wp2_with fail
      exact ⟨sa, sc, nb, gn, cn, z2, z3, z4, z5, z6, .slice (some ⟨gn, 0, none⟩) (ps.length + 1) cn, z8, ⟨(kq hV.p5_0), (kq hV.p5_2), (kq hV.p5_4), (kq hV.p6_5), (kq hV.p7_2), (kq hV.p7_4), (kq hV.p7_5), (kd (hV.p5_2 d5)), (kd (hV.p5_4 d5)), (kd (d5)), (kc hV.c0), (kc hV.c1), (kc hV.c2), (kc hV.c3), (kc hV.c4), (kc hV.c5), (kc hV.c6), (hV.fr.set _ _), (fun h => (hV.pa (kb h)).other (by omega) _ _), (fun h => (hV.pb (kb h)).other (by omega) _ _), (hV.c.other (by omega) _ _), (ks), (fun _ => hx.set 0 (.slice (some ⟨gn, 0, none⟩) (ps.length + 1) cn)), (fun h => (hV.ra (kb h)).low hob _ _), (fun _ h => by rw [upd_ne L (by decide)] at h; rw [d5] at h; cases h), (fun _ h => by rw [upd_ne L (by decide)] at h; rw [d5] at h; cases h), (fun h => hV.xn (kb h)), (fun h1 h2 => (hV.rb (kb h1) (kb h2)).low hob _ _), (fun h => (hV.xb (kb h)).keep (keeps_set _ (fun e => by have := e.1; omega) _ _)), (fun h => (hV.rc (kb h)).low hob _ _), (fun h => by simpa [World.setCell] using hV.gb (kb h))⟩, rfl⟩
  · intro L act wx hI hall
    obtain ⟨sa, sc, nb, gn, cn, z2, z3, z4, z5, z6, z7, z8, hV, rfl⟩ := hI
    obtain rfl := (hV.c0 (hall 0 (by decide))).symm
    obtain rfl := (hV.c1 (hall 1 (by decide))).symm
    obtain rfl := (hV.c2 (hall 2 (by decide))).symm
    obtain rfl := (hV.c3 (hall 3 (by decide))).symm
    obtain rfl := (hV.c4 (hall 4 (by decide))).symm
    obtain rfl := (hV.c5 (hall 5 (by decide))).symm
    obtain rfl := (hV.c6 (hall 6 (by decide))).symm
    exact hM _ _ (Met.intro (hJ _ _ ⟨sa, sc, nb, gn, cn, ⟨hV.fr, hV.pb (hall 2 (by decide)), hV.c, hV.ob (hall 8 (by decide)), hV.rc (hall 7 (by decide))⟩, rfl⟩))
end Go.Proofs.YtcfpfnoldgnloaaGreatDoor
