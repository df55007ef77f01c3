/-
  prog: a program. Conditions: the parser lies in memory.
-/
import Derived.Test.YtcfpfnoldgnloaaGreatDoorPn14
set_option linter.unusedVariables false
set_option linter.unusedSimpArgs false
namespace Go.Proofs.YtcfpfnoldgnloaaGreatDoor
open Go.RowKit
set_option maxRecDepth 100000
set_option maxHeartbeats 8000000

def PrH (B : Nat) (x : Pr) (v : Value) (w : World) : Prop := ∃ av fv, v = .agg #[av, fv] ∧ ArsAt (B ≤ ·) w x.arrays av ∧ FusAt (B ≤ ·) w x.funcs fv
theorem locals_less : ∀ (f : Nat) (a : List Bs) (l : List Tk) (x : List Bs) (r : List Tk), localsP f a l = .ok (x, r) → r.length ≤ l.length
  | 0, a, l, x, r, h => by cases h
  | f + 1, a, l, x, r, h => by
    rw [localsP] at h
    cases h1 : takeP [105, 110, 116] l with
    | none => rw [h1] at h; injection h with h; injection h with _ h; subst h; exact Nat.le_refl _
    | some q =>
      rw [h1] at h
      dsimp only at h
      cases h2 : nameP q with
      | error e => rw [h2] at h; cases h
      | ok z =>
        obtain ⟨s, z⟩ := z
        rw [h2] at h
        dsimp only at h
        cases h3 : ywantP [59] z with
        | error e => rw [h3] at h; cases h
        | ok y => rw [h3] at h; have := locals_less f _ _ _ _ h; have := take_less h1; have := name_less h2; have := want_less h3; omega
theorem head_less {f : Nat} {l r : List Tk} {x : List Bs} (h : yheadP f l = .ok (x, r)) : r.length < l.length := by
  unfold yheadP at h
  cases ht : takeP [41] l with
  | some q => rw [ht] at h; injection h with h; injection h with _ h; subst h; exact take_less ht
  | none => rw [ht] at h; exact pars_less _ _ _ _ _ h
theorem function_less {f : Nat} {s : Bs} {l r : List Tk} {x : Fu} (h : functionP f s l = .ok (x, r)) : r.length < l.length := by
  rw [function_eq] at h
  cases h1 : yheadP f l with
  | error e => rw [h1] at h; cases h
  | ok q =>
    obtain ⟨ps, q⟩ := q
    rw [h1] at h
    dsimp only at h
    cases h2 : ywantP [123] q with
    | error e => rw [h2] at h; cases h
    | ok z =>
      rw [h2] at h
      dsimp only at h
      unfold bodyP at h
      cases h3 : localsP f [] z with
      | error e => rw [h3] at h; cases h
      | ok y =>
        obtain ⟨ls, y⟩ := y
        rw [h3] at h
        dsimp only at h
        cases h4 : stmtsP f [] y with
        | error e => rw [h4] at h; cases h
        | ok v =>
          obtain ⟨b, v⟩ := v
          rw [h4] at h
          injection h with h; injection h with _ h; subst h
          have := head_less h1; have := want_less h2; have := locals_less _ _ _ _ _ h3; have := (stmt_less f).2 _ _ _ _ h4
          omega
structure PgI (W : World) (p tb ob base f : Nat) (R : PR Pr) (g : Nat) (aa : Option Addr) (ac : Nat) (as0 : List Ar) (fa : Option Addr) (fc : Nat) (ps : List YFv) (l : List Tk) (wr : World) : Prop where
  fr : AFr p ob base W wr
  par : Ps wr p tb l
  o : OwnAt wr ob [.slice aa as0.length ac, .slice fa ps.length fc] 34
  ra : YArs wr base as0 (.slice aa as0.length ac)
  rf : YFus wr base ps (.slice fa ps.length fc)
  ap : ∀ g, (Value.slice aa as0.length ac).ownBlock = some g → (Value.slice fa ps.length fc).ownBlock ≠ some g
  nf : ps = [] → fa = none ∧ fc = 0
  len : as0.length + ps.length + l.length ≤ 1000000
  fuel : 4 * l.length + 4 ≤ g
  le : g ≤ f
  res : progP g ⟨as0, ps.map (·.x)⟩ l = R
/-- The same, ahead of the round's end. -/
structure PgS (W : World) (p tb ob base : Nat) (aa : Option Addr) (ac : Nat) (as0 : List Ar) (fa : Option Addr) (fc : Nat) (ps : List YFv) (l : List Tk) (wr : World) : Prop where
  fr : AFr p ob base W wr
  par : Ps wr p tb l
  o : OwnAt wr ob [.slice aa as0.length ac, .slice fa ps.length fc] 34
  ra : YArs wr base as0 (.slice aa as0.length ac)
  rf : YFus wr base ps (.slice fa ps.length fc)
  ap : ∀ g, (Value.slice aa as0.length ac).ownBlock = some g → (Value.slice fa ps.length fc).ownBlock ≠ some g
  nf : ps = [] → fa = none ∧ fc = 0
  len : as0.length + ps.length + l.length ≤ 1000000
section
variable {W : World} {p tb ob base : Nat} {aa : Option Addr} {ac : Nat} {as0 : List Ar} {fa : Option Addr} {fc : Nat} {ps : List YFv} {l r : List Tk} {wx w' : World}
theorem PgS.old (h : PgS W p tb ob base aa ac as0 fa fc ps l wx) (hb : Below wx.heap.size wx w') : PgS W p tb ob base aa ac as0 fa fc ps l w' :=
  ⟨h.fr.old hb, h.par.old hb, h.o.old hb, h.ra.old hb, h.rf.old hb, h.ap, h.nf, h.len⟩
theorem PgS.next (h : PgS W p tb ob base aa ac as0 fa fc ps l wx) (h1 : p < ob) (h2 : ob < base) (hf : SFr p wx w') (hp : Ps w' p tb r) (hl : r.length ≤ l.length) : PgS W p tb ob base aa ac as0 fa fc ps r w' :=
  ⟨h.fr.trans (AFr.of_sfr hf), hp, h.o.sfr hf (by omega), h.ra.sfr hf (by omega), h.rf.sfr hf (by omega), h.ap, h.nf, by have := h.len; omega⟩
end
theorem prog_end {f : Nat} {p : Pr} {t : Tk} {r : List Tk} (hk : t.kind = 5) : progP (f + 1) p (t :: r) = .ok (p, t :: r) := by
  rw [progP]
  have : ((t :: r).head?.map (·.kind)).getD 0 = t.kind := rfl
  rw [this, if_pos hk]
theorem prog_more {f : Nat} {p : Pr} {t : Tk} {r : List Tk} (hk : t.kind ≠ 5) : progP (f + 1) p (t :: r) = match oneP (t :: r) with
    | .error e => .error e
    | .ok (s, r) => match (if p.funcs.isEmpty = true then takeP [91] r else none) with
      | some r => (match kindP 3 r with
        | .error e => .error e
        | .ok (t, r) => match wantP2 [93] [59] r with
          | .error e => .error e
          | .ok r => progP f { p with arrays := p.arrays ++ [⟨s, t.num⟩] } r)
      | none => match ywantP [40] r with
        | .error e => .error e
        | .ok r => match functionP f s r with
          | .error e => .error e
          | .ok (x, r) => progP f { p with funcs := p.funcs ++ [x] } r := by
  rw [progP]
  have : ((t :: r).head?.map (·.kind)).getD 0 = t.kind := rfl
  rw [this, if_neg hk]
  unfold oneP
  cases ywantP [105, 110, 116] (t :: r) with
  | error e => rfl
  | ok q =>
    dsimp only
    cases nameP q with
    | error e => rfl
    | ok z =>
      obtain ⟨s, z⟩ := z
      dsimp only
      cases (if p.funcs.isEmpty = true then takeP [91] z else none) with
      | some y =>
        dsimp only
        cases kindP 3 y with
        | error e => rfl
        | ok v =>
          obtain ⟨t, v⟩ := v
          dsimp only
          unfold wantP2
          cases ywantP [93] v with
          | error e => rfl
          | ok u => rfl
      | none => rfl
theorem kind_ends {k : Int} {l r : List Tk} {t : Tk} (h : kindP k l = .ok (t, r)) : r.length < l.length := kind_less h
theorem want2_less {s u : Bs} {l r : List Tk} (h : wantP2 s u l = .ok r) : r.length < l.length := by
  unfold wantP2 at h
  cases h1 : ywantP s l with
  | error e => rw [h1] at h; cases h
  | ok q => rw [h1] at h; have := want_less h1; have := want_less h; omega
theorem yprog_any (f : Nat) (l : List Tk) (w : World) (p tb : Nat) (hl : 4 * l.length + 4 ≤ f) (h : Ps w p tb l) :
    Calls Tryz.prog 30 #[.pointer (some ⟨p, 0, none⟩)] w (PEnd (PrH w.heap.size) w p tb (progP f ⟨[], []⟩ l)) := by
  obtain ⟨R, hR⟩ : ∃ R, progP f ⟨[], []⟩ l = R := ⟨_, rfl⟩
  rw [hR]
  have hb0 : Below w.heap.size w (w.alloc (.cells #[.slice none 0 0, .slice none 0 0] 34)) := (Below.refl _ _).alloc (Nat.le_refl _) _
  have ho := OwnAt.new w [.slice none 0 0, .slice none 0 0] 34
  have hlen : l.length ≤ 1000000 := by obtain ⟨_, _, h2⟩ := h; exact h2.fit
  have hpo := h.lt
  have hp0 := h.old hb0
  have hws : (w.alloc (.cells #[.slice none 0 0, .slice none 0 0] 34)).heap.size = w.heap.size + 1 := by simp
  have HI0 : Hid (PgI (w.alloc (.cells #[.slice none 0 0, .slice none 0 0] 34)) p tb w.heap.size (w.heap.size + 1) f R f none 0 [] none 0 [] l (w.alloc (.cells #[.slice none 0 0, .slice none 0 0] 34))) :=
    ⟨AFr.refl _ _ _ _, hp0, ho, YOwn.zero _ _ _ _ _, YFus.zero _ _, (fun g e => by cases e), fun _ => ⟨rfl, rfl⟩, by simpa using hlen, hl, Nat.le_refl _, hR⟩
  have HPO := Lib.hid hpo
  have HWS := Lib.hid hws
  have HSF : Hid (∀ w1, AFr p w.heap.size (w.heap.size + 1) (w.alloc (.cells #[.slice none 0 0, .slice none 0 0] 34)) w1 → SFr p w w1) := fun w1 hf => sfr_afr (SFr.of_below hb0) hf (by omega) (Nat.le_refl _)
  clear hR ho hlen hp0 hl h hb0 hws
  go_enter Tryz.func30, Tryz.ntmps30
  go_wp2_with fail
  obtain ⟨W, hW⟩ : ∃ W, w.alloc (.cells #[.slice none 0 0, .slice none 0 0] 34) = W := ⟨_, rfl⟩
  rw [hW] at HI0 HWS HSF ⊢
  clear hW
  go_loopw [] (fun wr => ∃ (g : Nat) (aa : Option Addr) (ac : Nat) (as0 : List Ar) (fa : Option Addr) (fc : Nat) (ps : List YFv) (l : List Tk), Hid (PgI W p tb w.heap.size (w.heap.size + 1) f R g aa ac as0 fa fc ps l wr)) (fun wr => leftLen p wr)
  case atStart => exact ⟨f, none, 0, [], none, 0, [], l, HI0⟩
  case round =>
    obtain ⟨g, aa, ac, as0, fa, fc, ps, l, HI⟩ := hrel
    clear HI0
    obtain ⟨t, r, rfl⟩ := HI.out.par.ends.ne
    obtain ⟨g2, hg2⟩ : ∃ g2, g = g2 + 1 := ⟨g - 1, by have := HI.out.fuel; omega⟩
    subst hg2
    have HNX := Lib.hid (psNext_any p tb t r wr HI.out.par)
    by_cases hk : t.kind = 5
    · have hres : Except.ok (⟨as0, ps.map (·.x)⟩, t :: r) = R := by
        rw [← HI.out.res, prog_end hk]
      subst hres
      have k1 : (t.kind != 5) = false := by simp [hk]
      have k2 : (t.kind == 5) = true := by simp [hk]
      clear hk
      go_wp2_with fail
      refine HNX.out.mono ?_
      rintro e w3 ⟨rfl, hb⟩
      unfold tkV
      have HF := Lib.hid (HSF.out _ (HI.out.fr.old hb))
      have HP := Lib.hid (HI.out.par.old hb)
      have hla : as0.length ≤ 1000000 := by have := HI.out.len; omega
      have hlp : ps.length ≤ 1000000 := by have := HI.out.len; omega
      have HA := Lib.hid (YArs.ars (HI.out.ra.old hb) hla)
      have HU := Lib.hid ((HI.out.rf.old hb).fus hlp)
      have ho := HI.out.o.old hb
      have x0 := ho.at 0 _ rfl
      have x1 := ho.at 1 _ rfl
      clear hb ho hla hlp
      go_wp2_with fail
      have up : ∀ b, w.heap.size + 1 ≤ b → w.heap.size ≤ b := fun b hb => by omega
      exact bodyPost_ret (v := .agg #[.slice aa as0.length ac, .slice fa ps.length fc]) (by simp [results, Tryz.results30, go_sem, x0, x1]) rfl ⟨HF.out, _, rfl, HP.out, _, _, rfl, by
        obtain ⟨a, cap, b, off, hv, h1, h2, h3, h4⟩ := HA.out
        exact ⟨a, cap, b, off, hv, h1, h2, h3.imp id (fun q => ⟨q.1, up _ q.2⟩), h4⟩, by
        obtain ⟨a, cap, b, off, pv, lv, bv, hv, h1, h2, h3, h4⟩ := HU.out
        exact ⟨a, cap, b, off, pv, lv, bv, hv, h1, h2, h3.imp id (fun q => ⟨q.1, up _ q.2⟩), fun i hi => ⟨(h4 i hi).1, (h4 i hi).2.1.mono up, (h4 i hi).2.2.1.mono up, (h4 i hi).2.2.2.mono up⟩⟩⟩
    · have hres := HI.out.res
      rw [prog_more hk] at hres
      have HRES := Lib.hid hres
      have k1 : (t.kind != 5) = true := by simp [hk]
      have k2 : (t.kind == 5) = false := by simp [hk]
      have HK5 := Lib.hid hk
      have HS : Hid (PgS W p tb w.heap.size (w.heap.size + 1) aa ac as0 fa fc ps (t :: r) wr) := ⟨HI.out.fr, HI.out.par, HI.out.o, HI.out.ra, HI.out.rf, HI.out.ap, HI.out.nf, HI.out.len⟩
      have hob : w.heap.size < w.heap.size + 1 := Nat.lt_succ_self _
      have hfu := HI.out.fuel
      have HFU := Lib.hid hfu
      have HLE : Hid (g2 + 1 ≤ f) := HI.out.le
      have HML := Lib.hid HI.out.par.len
      clear hk hres hfu HI
      go_wp2_with fail
      refine HNX.out.mono ?_
      rintro e w3 ⟨rfl, hb⟩
      unfold tkV
      have HS3 := Lib.hid (HS.out.old hb)
      have hba : Below w3.heap.size w3 (w3.alloc (.cells #[.string ⟨#[105, 110, 116]⟩] 9)) := (Below.refl _ _).alloc (Nat.le_refl _) _
      have HS4 := Lib.hid (HS3.out.old hba)
      have HWN := Lib.hid (psWant_one p tb (t :: r) [105, 110, 116] _ HS4.out.par w3.heap.size 1 ((OwnAt.new w3 [.string ⟨#[105, 110, 116]⟩] 9).at 0 _ rfl))
      clear hb hba
      go_wp2_with fail
      refine HWN.out.mono ?_
      intro e w5 he
      cases hw : ywantP [105, 110, 116] (t :: r) with
      | error n =>
        rw [hw] at he
        obtain ⟨hf, rfl⟩ := he
        have e2 := HRES.out
        unfold oneP at e2
        rw [hw] at e2
        dsimp only at e2
        subst e2
        have HF := Lib.hid (HSF.out _ (HS4.out.fr.trans (AFr.of_sfr hf)))
        clear hw hf
        unfold lineV
        go_wp2_with fail
        exact ⟨rfl, HF.out, rfl⟩
      | ok r1 =>
      rw [hw] at he
      obtain ⟨hf, rfl, hp⟩ := he
      have hlw := want_less hw
      have HS5 := Lib.hid (HS4.out.next HPO.out hob hf hp (Nat.le_of_lt hlw))
      have HNM := Lib.hid (psName_any p tb r1 w5 hp)
      have HLW := Lib.hid hlw
      have HW1 := Lib.hid hw
      clear hf hp hw hlw HWN HS3 HS4
      go_wp2_with fail
      refine HNM.out.mono ?_
      intro e w6 he
      cases hn : nameP r1 with
      | error n =>
        rw [hn] at he
        obtain ⟨hf, rfl⟩ := he
        have e2 := HRES.out
        unfold oneP at e2
        rw [HW1.out] at e2
        dsimp only at e2
        rw [hn] at e2
        dsimp only at e2
        subst e2
        have HF := Lib.hid (HSF.out _ (HS5.out.fr.trans (AFr.of_sfr hf)))
        clear hn hf
        unfold lineV
        go_wp2_with fail
        exact ⟨rfl, HF.out, rfl⟩
      | ok q =>
      obtain ⟨s, r2⟩ := q
      rw [hn] at he
      obtain ⟨hf, v, rfl, hp, hv⟩ := he
      have hv : v = .string (strOf s) := hv
      subst hv
      have hln := name_less hn
      have HS6 := Lib.hid (HS5.out.next HPO.out hob hf hp (Nat.le_of_lt hln))
      have e2 := HRES.out
      unfold oneP at e2
      rw [HW1.out] at e2
      dsimp only at e2
      rw [hn] at e2
      dsimp only at e2
      have HRES2 := Lib.hid e2
      have hlr : r2.length + 2 ≤ (t :: r).length := by have := HLW.out; omega
      have HLR := Lib.hid hlr
      clear hf hp hn e2 hlr hln HRES HW1 HLW HNM
      obtain ⟨u, r3, rfl⟩ := HS6.out.par.ends.ne
      have o0 := HS6.out.o.at 0 _ rfl
      have o1 := HS6.out.o.at 1 _ rfl
      by_cases hz : ps = []
      · subst hz
        obtain ⟨rfl, rfl⟩ := HS6.out.nf rfl
        cases hu : isP [91] u with
        | true =>
          have HTK := Lib.hid (psTake_yes p tb u r3 [91] w6 HS6.out.par hu)
          have e2 := HRES2.out
          rw [if_pos (by rfl), take_yes hu] at e2
          dsimp only at e2
          have HR3 := Lib.hid e2
          clear hu e2
          go_wp2_with fail
          refine HTK.out.mono ?_
          rintro e w7 ⟨rfl, hf, hp⟩
          have HS7 := Lib.hid (HS6.out.next HPO.out hob hf hp (by simp))
          clear hf hp o0 o1
          go_upto_region 5 with (fail)
          have hbs : w.heap.size + 1 ≤ w7.heap.size := by have := HS7.out.fr.size; have := HWS.out; omega
          have hll : as0.length ≤ 1000000 := by have := HS7.out.len; omega
          have hpo := HPO.out
          cases hy : kindP 3 r3 with
          | error n =>
            have e2 := HR3.out
            rw [hy] at e2
            dsimp only at e2
            subst e2
            refine wp_mono (Q := Exit.then (Met (RY5 p tb w.heap.size (w.heap.size + 1) s aa ac as0 (.slice none 0 0) t r3 [] (some n) w7 _ _ _ _ _ _ _ _ _ _ _ _ _ _ _ _ _ _ _ _ _ _ _ _ _ _ _ _ _ _ _ _)) _) (reg_Y5 p tb w.heap.size (w.heap.size + 1) s aa ac as0 (.slice none 0 0) t r3 [] (some n) w7 HS7.out.par HS7.out.o HS7.out.ra hpo hob hbs hll (fun w1 h1 => by have h2 := psKind_any p tb r3 3 (by decide) w1 h1; rw [hy] at h2; exact h2.mono (fun e w2 h => ⟨h.2, h.1⟩)) (fun e a' w' => ∃ n', e = .panic [{ v := .iface 110 (.agg #[.int .i64 n']), recovered := false }] ∧ n = n' ∧ a'.defers = [] ∧ AFr p w.heap.size (w.heap.size + 1) w7 w') (fun n' a' w' hn hd hf => by injection hn with hn; exact ⟨n', rfl, hn, hd, hf⟩) _ _ _ _ _ _ _ _ _ _ _ _ _ _ _ _ _ _ _ _ _ _ _ _ _ _ _ _ _ _ _ _ _ _ _ _ _ _ _ _ _ _ _ _ (fun _ _ q => q) (fun _ _ q => q)) ?_
            intro e a' w' hq
            cases e with
            | normal =>
              obtain ⟨nb, gn, cn, ⟨_, hp, _⟩, _⟩ := (show RY5 p tb w.heap.size (w.heap.size + 1) s aa ac as0 (.slice none 0 0) t r3 [] (some n) w7 _ _ _ _ _ _ _ _ _ _ _ _ _ _ _ _ _ _ _ _ _ _ _ _ _ _ _ _ _ _ _ _ a' w' from hq)
              exact hp.ends.elim
            | panic ch =>
              obtain ⟨n2, he, rfl, hd, hf⟩ := hq
              injection he with he
              subst he
              exact ⟨hd, HSF.out _ (HS7.out.fr.trans hf), rfl⟩
            | _ =>
              obtain ⟨n2, he, _⟩ := hq
              cases he
          | ok q =>
            obtain ⟨t4, r4⟩ := q
            have e2 := HR3.out
            rw [hy] at e2
            dsimp only at e2
            have HR4 := Lib.hid e2
            have hl4 := kind_less hy
            have HL4 := Lib.hid hl4
            refine wp_cut (fun a' w' => RY5 p tb w.heap.size (w.heap.size + 1) s aa ac as0 (.slice none 0 0) t4 r3 r4 none w7 _ _ _ _ _ _ _ _ _ _ _ _ _ _ _ _ _ _ _ _ _ _ _ _ _ _ _ _ _ _ _ _ a' w') ?rest (fun J K' hJ hM => reg_Y5 p tb w.heap.size (w.heap.size + 1) s aa ac as0 (.slice none 0 0) t4 r3 r4 none w7 HS7.out.par HS7.out.o HS7.out.ra hpo hob hbs hll (fun w1 h1 => by have h2 := psKind_any p tb r3 3 (by decide) w1 h1; rw [hy] at h2; exact h2.mono (fun e w2 h => by obtain ⟨hf, v, rfl, hp, hv⟩ := h; have hv : v = tkV t4 := hv; subst hv; exact ⟨rfl, hf, hp⟩)) _ (fun n' a' w' hn => by cases hn) _ _ _ _ _ _ _ _ _ _ _ _ _ _ _ _ _ _ _ _ _ _ _ _ _ _ _ _ _ _ _ _ _ _ _ _ _ _ _ _ _ _ J K' hJ hM)
            case rest =>
              rintro a' w8 ⟨nb, gn, cn, ⟨h1, h2, h3, h4⟩, rfl⟩
              have hl1 : (as0 ++ [(⟨s, t4.num⟩ : Ar)]).length = as0.length + 1 := by simp
              have HS8 : Hid (PgS W p tb w.heap.size (w.heap.size + 1) (some ⟨gn, 0, none⟩) cn (as0 ++ [(⟨s, t4.num⟩ : Ar)]) none 0 [] r4 w8) := by
                refine ⟨HS7.out.fr.trans h1, h2, ?_, ?_, YFus.zero _ _, ?_, fun _ => ⟨rfl, rfl⟩, ?_⟩
                · rw [hl1]; exact h3
                · rw [hl1]; exact h4
                · intro g _ e2; cases e2
                · have := HS7.out.len
                  simp only [List.length_nil] at this ⊢
                  rw [hl1]; omega
              have hba : Below w8.heap.size w8 (w8.alloc (.cells #[.string ⟨#[93]⟩, .string ⟨#[59]⟩] 9)) := (Below.refl _ _).alloc (Nat.le_refl _) _
              have HS9 := Lib.hid (HS8.out.old hba)
              have hwp : w8.heap.size ≠ p := by have := HS8.out.par.lt; omega
              have HWN := Lib.hid (psWant_two p tb r4 [93] [59] _ (HS8.out.old hba).par w8.heap.size 2 ((OwnAt.new w8 [.string ⟨#[93]⟩, .string ⟨#[59]⟩] 9).at 0 _ rfl) ((OwnAt.new w8 [.string ⟨#[93]⟩, .string ⟨#[59]⟩] 9).at 1 _ rfl) hwp)
              clear h1 h2 h3 h4 hl1 hba hwp hy e2 hl4 hbs hll hpo
              go_wp2_with fail
              refine HWN.out.mono ?_
              intro e w10 he
              cases hw : wantP2 [93] [59] r4 with
              | error n =>
                rw [hw] at he
                obtain ⟨hf, rfl⟩ := he
                have e2 := HR4.out
                rw [hw] at e2
                dsimp only at e2
                subst e2
                have HF := Lib.hid (HSF.out _ (HS9.out.fr.trans (AFr.of_sfr hf)))
                clear hw hf
                unfold lineV
                go_wp2_with fail
                exact ⟨rfl, HF.out, rfl⟩
              | ok r5 =>
                rw [hw] at he
                obtain ⟨hf, rfl, hp⟩ := he
                have hl5 := want2_less hw
                have hS := HS9.out.next HPO.out hob hf hp (Nat.le_of_lt hl5)
                have e2 := HR4.out
                rw [hw] at e2
                dsimp only at e2
                have HI9 : Hid (PgI W p tb w.heap.size (w.heap.size + 1) f R g2 (some ⟨gn, 0, none⟩) cn (as0 ++ [(⟨s, t4.num⟩ : Ar)]) none 0 [] r5 w10) := ⟨hS.fr, hS.par, hS.o, hS.ra, hS.rf, hS.ap, hS.nf, hS.len, by have := HFU.out; have := HLR.out; have := HL4.out; simp only [List.length_cons] at *; omega, Nat.le_of_succ_le HLE.out, e2⟩
                have hm : leftLen p w10 < leftLen p wr := by
                  rw [HI9.out.par.len, HML.out]; have := HLR.out; have := HL4.out; simp only [List.length_cons] at *; omega
                have HM := Lib.hid hm
                clear hf hp hw hl5 hS e2 hm
                go_wp2_with fail
                go_roundw
                case rel => exact ⟨g2, _, _, _, _, _, _, r5, HI9⟩
                case measure => exact HM.out
        | false =>
          have HTK := Lib.hid (psTake_no p tb u r3 [91] w6 HS6.out.par hu)
          have e2 := HRES2.out
          rw [if_pos (by rfl), take_no hu] at e2
          dsimp only at e2
          have HR3 := Lib.hid e2
          clear hu e2
          go_wp2_with fail
          refine HTK.out.mono ?_
          rintro e w7 ⟨rfl, hb⟩
          have HS7 := Lib.hid (HS6.out.old hb)
          clear hb o0 o1
          have hba : Below w7.heap.size w7 (w7.alloc (.cells #[.string ⟨#[40]⟩] 9)) := (Below.refl _ _).alloc (Nat.le_refl _) _
          have HS8 := Lib.hid (HS7.out.old hba)
          have HWN := Lib.hid (psWant_one p tb (u :: r3) [40] _ (HS7.out.old hba).par w7.heap.size 1 ((OwnAt.new w7 [.string ⟨#[40]⟩] 9).at 0 _ rfl))
          clear hba
          go_wp2_with fail
          refine HWN.out.mono ?_
          intro e w9 he
          cases hw : ywantP [40] (u :: r3) with
          | error n =>
            rw [hw] at he
            obtain ⟨hf, rfl⟩ := he
            have e2 := HR3.out
            rw [hw] at e2
            dsimp only at e2
            subst e2
            have HF := Lib.hid (HSF.out _ (HS8.out.fr.trans (AFr.of_sfr hf)))
            clear hw hf
            unfold lineV
            go_wp2_with fail
            exact ⟨rfl, HF.out, rfl⟩
          | ok r4 =>
          rw [hw] at he
          obtain ⟨hf, rfl, hp⟩ := he
          have hl4 := want_less hw
          have HS9 := Lib.hid (HS8.out.next HPO.out hob hf hp (Nat.le_of_lt hl4))
          have e2 := HR3.out
          rw [hw] at e2
          dsimp only at e2
          have HR4 := Lib.hid e2
          have HL4 := Lib.hid hl4
          clear hf hp hw e2 hl4 HWN HS8
          go_upto_region 8 with (fail)
          have hbs : w.heap.size + 1 ≤ w9.heap.size := by have := HS9.out.fr.size; have := HWS.out; omega
          have hll : ([] : List YFv).length ≤ 1000000 := by have := HS9.out.len; omega
          have hpo := HPO.out
          have hfn : 4 * r4.length + 2 ≤ g2 := by have := HFU.out; have := HLR.out; have := HL4.out; simp only [List.length_cons] at *; omega
          cases hy : functionP g2 s r4 with
          | error n =>
            have e2 := HR4.out
            rw [hy] at e2
            dsimp only at e2
            subst e2
            refine wp_mono (Q := Exit.then (Met (RY8 p tb w.heap.size (w.heap.size + 1) s none 0 ([] : List YFv) (.slice aa as0.length ac) ⟨[], [], [], []⟩ r4 [] (some n) w9 _ _ _ _ _ _ _ _ _ _ _ _ _ _ _ _ _ _ _ _ _ _ _ _ _ _ _ _ _ _ _ _ _ _)) _) (reg_Y8 p tb w.heap.size (w.heap.size + 1) s none 0 ([] : List YFv) (.slice aa as0.length ac) ⟨[], [], [], []⟩ r4 [] (some n) w9 HS9.out.par HS9.out.o HS9.out.rf hpo hob hbs hll (fun w1 h1 => by have h2 := yfun_any g2 s r4 w1 p tb hfn h1; rw [hy] at h2; exact h2.mono (fun e w2 h => ⟨h.2, h.1⟩)) (fun e a' w' => ∃ n', e = .panic [{ v := .iface 110 (.agg #[.int .i64 n']), recovered := false }] ∧ n = n' ∧ a'.defers = [] ∧ AFr p w.heap.size (w.heap.size + 1) w9 w') (fun n' a' w' hn hd hf => by injection hn with hn; exact ⟨n', rfl, hn, hd, hf⟩) _ _ _ _ _ _ _ _ _ _ _ _ _ _ _ _ _ _ _ _ _ _ _ _ _ _ _ _ _ _ _ _ _ _ _ _ _ _ _ _ _ _ _ _ (fun _ _ q => q) (fun _ _ q => q)) ?_
            intro e a' w' hq
            cases e with
            | normal =>
              obtain ⟨_, _, _, _, _, _, nb, gn, cn, ⟨_, hp, _⟩, _⟩ := (show RY8 p tb w.heap.size (w.heap.size + 1) s none 0 ([] : List YFv) (.slice aa as0.length ac) ⟨[], [], [], []⟩ r4 [] (some n) w9 _ _ _ _ _ _ _ _ _ _ _ _ _ _ _ _ _ _ _ _ _ _ _ _ _ _ _ _ _ _ _ _ _ _ a' w' from hq)
              exact hp.ends.elim
            | panic ch =>
              obtain ⟨n2, he, rfl, hd, hf⟩ := hq
              injection he with he
              subst he
              exact ⟨hd, HSF.out _ (HS9.out.fr.trans hf), rfl⟩
            | _ =>
              obtain ⟨n2, he, _⟩ := hq
              cases he
          | ok q =>
            obtain ⟨x, r5⟩ := q
            have e2 := HR4.out
            rw [hy] at e2
            dsimp only at e2
            have HR5 := Lib.hid e2
            have hl5 := function_less hy
            have HL5 := Lib.hid hl5
            refine wp_mono (Q := Exit.then (Met (RY8 p tb w.heap.size (w.heap.size + 1) s none 0 ([] : List YFv) (.slice aa as0.length ac) x r4 r5 none w9 _ _ _ _ _ _ _ _ _ _ _ _ _ _ _ _ _ _ _ _ _ _ _ _ _ _ _ _ _ _ _ _ _ _)) (fun _ _ _ => False)) (reg_Y8 p tb w.heap.size (w.heap.size + 1) s none 0 ([] : List YFv) (.slice aa as0.length ac) x r4 r5 none w9 HS9.out.par HS9.out.o HS9.out.rf hpo hob hbs hll (fun w1 h1 => by have h2 := yfun_any g2 s r4 w1 p tb hfn h1; rw [hy] at h2; exact h2.mono (fun e w2 h => by obtain ⟨hf, v, rfl, hp, pv, lv, bv, rfl, i1, i2, i3⟩ := h; exact ⟨pv, lv, bv, rfl, hf, hp, i1, i2, i3⟩)) (fun _ _ _ => False) (fun n' a' w' hn => by cases hn) _ _ _ _ _ _ _ _ _ _ _ _ _ _ _ _ _ _ _ _ _ _ _ _ _ _ _ _ _ _ _ _ _ _ _ _ _ _ _ _ _ _ _ _ (fun _ _ q => q) (fun _ _ q => q)) ?_
            intro e a' w10 hq
            cases e with
            | normal =>
              obtain ⟨p1, p2, l1, l2, b1, b2, nb, gn, cn, ⟨h1, h2, h3, h4, h5, h6⟩, rfl⟩ := (show RY8 p tb w.heap.size (w.heap.size + 1) s none 0 ([] : List YFv) (.slice aa as0.length ac) x r4 r5 none w9 _ _ _ _ _ _ _ _ _ _ _ _ _ _ _ _ _ _ _ _ _ _ _ _ _ _ _ _ _ _ _ _ _ _ a' w10 from hq)
              have hl1 : (([] : List YFv) ++ [(⟨x, .slice p1 x.params.length p2, .slice l1 x.locals.length l2, .slice b1 x.body.length b2⟩ : YFv)]).length = ([] : List YFv).length + 1 := by simp
              have hra := HS9.out.ra.gr h6 (fun g e e2 => HS9.out.ap g e e2)
              have HI10 : Hid (PgI W p tb w.heap.size (w.heap.size + 1) f R g2 aa ac as0 (some ⟨gn, 0, none⟩) cn (([] : List YFv) ++ [(⟨x, .slice p1 x.params.length p2, .slice l1 x.locals.length l2, .slice b1 x.body.length b2⟩ : YFv)]) r5 w10) := by
                refine ⟨HS9.out.fr.trans h1, h2, ?_, hra, ?_, ?_, ?_, ?_, ?_, Nat.le_of_succ_le HLE.out, ?_⟩
                · rw [hl1]; exact h3
                · rw [hl1]; exact h4
                · intro g e e2
                  rw [hl1] at e2
                  have e2 : gn = g := by injection e2
                  subst e2
                  rcases h5 with h5 | h5
                  · exact HS9.out.ap _ e h5
                  · have := (HS9.out.ra.lt _ e).2; omega
                · intro e
                  exact absurd e (by simp)
                · have := HS9.out.len
                  rw [hl1]; omega
                · have := HFU.out; have := HLR.out; have := HL4.out; simp only [List.length_cons] at *; omega
                · rw [List.map_append]; exact HR5.out
              have hm : leftLen p w10 < leftLen p wr := by
                rw [HI10.out.par.len, HML.out]; have := HLR.out; have := HL4.out; simp only [List.length_cons] at *; omega
              have HM := Lib.hid hm
              clear hq h1 h2 h3 h4 h5 h6 hl1 hra hy e2 hl5 hbs hll hpo hm hfn
              go_wp2_with fail
              go_roundw
              case rel => exact ⟨g2, _, _, _, _, _, _, r5, HI10⟩
              case measure => exact HM.out
            | _ => exact False.elim hq
      · have hzl : ¬ ps.length = 0 := fun e => hz (List.length_eq_zero_iff.1 e)
        have hzI : ((ps.length : Int) == 0) = false := by simp [hz]
        have hzJ : ¬ (ps.length : Int) = 0 := by omega
        have e2 := HRES2.out
        rw [if_neg (by rw [List.isEmpty_iff, List.map_eq_nil_iff]; exact hz)] at e2
        dsimp only at e2
        have HR3 := Lib.hid e2
        have HS7 := HS6
        obtain ⟨w7, hw7⟩ : ∃ w7, w7 = w6 := ⟨_, rfl⟩
        subst hw7
        clear e2 hz
        have hba : Below w7.heap.size w7 (w7.alloc (.cells #[.string ⟨#[40]⟩] 9)) := (Below.refl _ _).alloc (Nat.le_refl _) _
        have HS8 := Lib.hid (HS7.out.old hba)
        have HWN := Lib.hid (psWant_one p tb (u :: r3) [40] _ (HS7.out.old hba).par w7.heap.size 1 ((OwnAt.new w7 [.string ⟨#[40]⟩] 9).at 0 _ rfl))
        clear hba
        go_wp2_with fail
        refine HWN.out.mono ?_
        intro e w9 he
        cases hw : ywantP [40] (u :: r3) with
        | error n =>
          rw [hw] at he
          obtain ⟨hf, rfl⟩ := he
          have e2 := HR3.out
          rw [hw] at e2
          dsimp only at e2
          subst e2
          have HF := Lib.hid (HSF.out _ (HS8.out.fr.trans (AFr.of_sfr hf)))
          clear hw hf
          unfold lineV
          go_wp2_with fail
          exact ⟨rfl, HF.out, rfl⟩
        | ok r4 =>
        rw [hw] at he
        obtain ⟨hf, rfl, hp⟩ := he
        have hl4 := want_less hw
        have HS9 := Lib.hid (HS8.out.next HPO.out hob hf hp (Nat.le_of_lt hl4))
        have e2 := HR3.out
        rw [hw] at e2
        dsimp only at e2
        have HR4 := Lib.hid e2
        have HL4 := Lib.hid hl4
        clear hf hp hw e2 hl4 HWN HS8
        go_upto_region 8 with (fail)
        have hbs : w.heap.size + 1 ≤ w9.heap.size := by have := HS9.out.fr.size; have := HWS.out; omega
        have hll : ps.length ≤ 1000000 := by have := HS9.out.len; omega
        have hpo := HPO.out
        have hfn : 4 * r4.length + 2 ≤ g2 := by have := HFU.out; have := HLR.out; have := HL4.out; simp only [List.length_cons] at *; omega
        cases hy : functionP g2 s r4 with
        | error n =>
          have e2 := HR4.out
          rw [hy] at e2
          dsimp only at e2
          subst e2
          refine wp_mono (Q := Exit.then (Met (RY8 p tb w.heap.size (w.heap.size + 1) s fa fc ps (.slice aa as0.length ac) ⟨[], [], [], []⟩ r4 [] (some n) w9 _ _ _ _ _ _ _ _ _ _ _ _ _ _ _ _ _ _ _ _ _ _ _ _ _ _ _ _ _ _ _ _ _ _)) _) (reg_Y8 p tb w.heap.size (w.heap.size + 1) s fa fc ps (.slice aa as0.length ac) ⟨[], [], [], []⟩ r4 [] (some n) w9 HS9.out.par HS9.out.o HS9.out.rf hpo hob hbs hll (fun w1 h1 => by have h2 := yfun_any g2 s r4 w1 p tb hfn h1; rw [hy] at h2; exact h2.mono (fun e w2 h => ⟨h.2, h.1⟩)) (fun e a' w' => ∃ n', e = .panic [{ v := .iface 110 (.agg #[.int .i64 n']), recovered := false }] ∧ n = n' ∧ a'.defers = [] ∧ AFr p w.heap.size (w.heap.size + 1) w9 w') (fun n' a' w' hn hd hf => by injection hn with hn; exact ⟨n', rfl, hn, hd, hf⟩) _ _ _ _ _ _ _ _ _ _ _ _ _ _ _ _ _ _ _ _ _ _ _ _ _ _ _ _ _ _ _ _ _ _ _ _ _ _ _ _ _ _ _ _ (fun _ _ q => q) (fun _ _ q => q)) ?_
          intro e a' w' hq
          cases e with
          | normal =>
            obtain ⟨_, _, _, _, _, _, nb, gn, cn, ⟨_, hp, _⟩, _⟩ := (show RY8 p tb w.heap.size (w.heap.size + 1) s fa fc ps (.slice aa as0.length ac) ⟨[], [], [], []⟩ r4 [] (some n) w9 _ _ _ _ _ _ _ _ _ _ _ _ _ _ _ _ _ _ _ _ _ _ _ _ _ _ _ _ _ _ _ _ _ _ a' w' from hq)
            exact hp.ends.elim
          | panic ch =>
            obtain ⟨n2, he, rfl, hd, hf⟩ := hq
            injection he with he
            subst he
            exact ⟨hd, HSF.out _ (HS9.out.fr.trans hf), rfl⟩
          | _ =>
            obtain ⟨n2, he, _⟩ := hq
            cases he
        | ok q =>
          obtain ⟨x, r5⟩ := q
          have e2 := HR4.out
          rw [hy] at e2
          dsimp only at e2
          have HR5 := Lib.hid e2
          have hl5 := function_less hy
          have HL5 := Lib.hid hl5
          refine wp_mono (Q := Exit.then (Met (RY8 p tb w.heap.size (w.heap.size + 1) s fa fc ps (.slice aa as0.length ac) x r4 r5 none w9 _ _ _ _ _ _ _ _ _ _ _ _ _ _ _ _ _ _ _ _ _ _ _ _ _ _ _ _ _ _ _ _ _ _)) (fun _ _ _ => False)) (reg_Y8 p tb w.heap.size (w.heap.size + 1) s fa fc ps (.slice aa as0.length ac) x r4 r5 none w9 HS9.out.par HS9.out.o HS9.out.rf hpo hob hbs hll (fun w1 h1 => by have h2 := yfun_any g2 s r4 w1 p tb hfn h1; rw [hy] at h2; exact h2.mono (fun e w2 h => by obtain ⟨hf, v, rfl, hp, pv, lv, bv, rfl, i1, i2, i3⟩ := h; exact ⟨pv, lv, bv, rfl, hf, hp, i1, i2, i3⟩)) (fun _ _ _ => False) (fun n' a' w' hn => by cases hn) _ _ _ _ _ _ _ _ _ _ _ _ _ _ _ _ _ _ _ _ _ _ _ _ _ _ _ _ _ _ _ _ _ _ _ _ _ _ _ _ _ _ _ _ (fun _ _ q => q) (fun _ _ q => q)) ?_
          intro e a' w10 hq
          cases e with
          | normal =>
            obtain ⟨p1, p2, l1, l2, b1, b2, nb, gn, cn, ⟨h1, h2, h3, h4, h5, h6⟩, rfl⟩ := (show RY8 p tb w.heap.size (w.heap.size + 1) s fa fc ps (.slice aa as0.length ac) x r4 r5 none w9 _ _ _ _ _ _ _ _ _ _ _ _ _ _ _ _ _ _ _ _ _ _ _ _ _ _ _ _ _ _ _ _ _ _ a' w10 from hq)
            have hl1 : (ps ++ [(⟨x, .slice p1 x.params.length p2, .slice l1 x.locals.length l2, .slice b1 x.body.length b2⟩ : YFv)]).length = ps.length + 1 := by simp
            have hra := HS9.out.ra.gr h6 (fun g e e2 => HS9.out.ap g e e2)
            have HI10 : Hid (PgI W p tb w.heap.size (w.heap.size + 1) f R g2 aa ac as0 (some ⟨gn, 0, none⟩) cn (ps ++ [(⟨x, .slice p1 x.params.length p2, .slice l1 x.locals.length l2, .slice b1 x.body.length b2⟩ : YFv)]) r5 w10) := by
              refine ⟨HS9.out.fr.trans h1, h2, ?_, hra, ?_, ?_, ?_, ?_, ?_, Nat.le_of_succ_le HLE.out, ?_⟩
              · rw [hl1]; exact h3
              · rw [hl1]; exact h4
              · intro g e e2
                rw [hl1] at e2
                have e2 : gn = g := by injection e2
                subst e2
                rcases h5 with h5 | h5
                · exact HS9.out.ap _ e h5
                · have := (HS9.out.ra.lt _ e).2; omega
              · intro e
                exact absurd e (by simp)
              · have := HS9.out.len
                rw [hl1]; omega
              · have := HFU.out; have := HLR.out; have := HL4.out; simp only [List.length_cons] at *; omega
              · rw [List.map_append]; exact HR5.out
            have hm : leftLen p w10 < leftLen p wr := by
              rw [HI10.out.par.len, HML.out]; have := HLR.out; have := HL4.out; simp only [List.length_cons] at *; omega
            have HM := Lib.hid hm
            clear hq h1 h2 h3 h4 h5 h6 hl1 hra hy e2 hl5 hbs hll hpo hm hfn
            go_wp2_with fail
            go_roundw
            case rel => exact ⟨g2, _, _, _, _, _, _, r5, HI10⟩
            case measure => exact HM.out
          | _ => exact False.elim hq
end Go.Proofs.YtcfpfnoldgnloaaGreatDoor
