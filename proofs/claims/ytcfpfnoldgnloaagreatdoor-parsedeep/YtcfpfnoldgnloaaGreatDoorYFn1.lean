/-
  function's closure, and commas with it: a function's parameters. Conditions: the parser and the variables lie in memory.
-/
import Derived.Test.YtcfpfnoldgnloaaGreatDoorParF
set_option linter.unusedVariables false
set_option linter.unusedSimpArgs false
namespace Go.Proofs.YtcfpfnoldgnloaaGreatDoor
open Go.RowKit
set_option maxRecDepth 100000
set_option maxHeartbeats 4000000

/-- A function that is being parsed: the parser, its variables, its names. -/
structure FnAt (W : World) (p tb cb ob base : Nat) (nm : Bs) (pa : Option Addr) (pc : Nat) (pl : List Bs) (la : Option Addr) (lc : Nat) (ll : List Bs) (l : List Tk) (wx : World) : Prop where
  fr : AFr p ob base W wx
  par : Ps wx p tb l
  c : OwnAt wx cb [.pointer (some ⟨p, 0, none⟩)] 64
  o : OwnAt wx ob [.string (strOf nm), .slice pa pl.length pc, .slice la ll.length lc, .slice none 0 0] 58
  rp : YStrs wx base pl (.slice pa pl.length pc)
  rl : YStrs wx base ll (.slice la ll.length lc)
  ap : ∀ g, (Value.slice pa pl.length pc).ownBlock = some g → (Value.slice la ll.length lc).ownBlock ≠ some g
  len : pl.length + ll.length + l.length ≤ 1000000
section
variable {W : World} {p tb cb ob base : Nat} {nm : Bs} {pa : Option Addr} {pc : Nat} {pl : List Bs} {la : Option Addr} {lc : Nat} {ll : List Bs} {l r : List Tk} {wx w' : World}
theorem FnAt.old (h : FnAt W p tb cb ob base nm pa pc pl la lc ll l wx) (hb : Below wx.heap.size wx w') : FnAt W p tb cb ob base nm pa pc pl la lc ll l w' :=
  ⟨h.fr.old hb, h.par.old hb, h.c.old hb, h.o.old hb, h.rp.old hb, h.rl.old hb, h.ap, h.len⟩
theorem FnAt.next (h : FnAt W p tb cb ob base nm pa pc pl la lc ll l wx) (hn : ArgNo p cb ob base W) (hf : SFr p wx w') (hp : Ps w' p tb r) (hl : r.length ≤ l.length) : FnAt W p tb cb ob base nm pa pc pl la lc ll r w' :=
  have h1 := hn.pc; have h2 := hn.co; have h3 := hn.ob
  ⟨h.fr.trans (AFr.of_sfr hf), hp, h.c.sfr hf (by omega), h.o.sfr hf (by omega), h.rp.sfr hf (by omega), h.rl.sfr hf (by omega), h.ap, by have := h.len; omega⟩
end
theorem YOwn.gr {α : Type} {e : TypeId} {cf : α → List Value} {k : Nat} {w w' : World} {base : Nat} {L : List α} {v : Value} (h : YOwn e cf k w base L v) {v0 : Value} (hk : ∀ b, b < w.heap.size → base ≤ b → v0.ownBlock ≠ some b → w'.heap[b]? = w.heap[b]?) (hne : ∀ g, v.ownBlock = some g → v0.ownBlock ≠ some g) : YOwn e cf k w' base L v := by
  refine ⟨h.1, ?_⟩
  have hlt := h.lt
  rcases h.2 with hn | ⟨g, cap, cur, rfl, hg, hh, r⟩
  · exact .inl hn
  · refine .inr ⟨g, cap, cur, rfl, hg, ?_, r⟩
    rw [hk g (hlt g rfl).2 hg (hne g rfl)]
    exact hh
def oneP (l : List Tk) : PR Bs := match ywantP [105, 110, 116] l with
  | .error e => .error e
  | .ok r => nameP r
theorem one_less {l r : List Tk} {s : Bs} (h : oneP l = .ok (s, r)) : r.length < l.length := by
  unfold oneP at h
  cases h1 : ywantP [105, 110, 116] l with
  | error e => rw [h1] at h; cases h
  | ok q => rw [h1] at h; have := want_less h1; have := name_less h; omega
def OneR (W : World) (p tb cb ob base : Nat) (nm : Bs) (pl : List Bs) (la : Option Addr) (lc : Nat) (ll : List Bs) (R : PR Bs) (e : Ending) (w' : World) : Prop :=
  match R with
  | .ok (s, r) => e = .returned (.tuple #[]) ∧ ∃ gn cn, FnAt W p tb cb ob base nm (some ⟨gn, 0, none⟩) cn (pl ++ [s]) la lc ll r w'
  | .error n => e = lineV n ∧ AFr p ob base W w'
theorem fn1_any (W wx : World) (p tb cb ob base : Nat) (nm : Bs) (pa : Option Addr) (pc : Nat) (pl : List Bs) (la : Option Addr) (lc : Nat) (ll : List Bs) (l : List Tk) (hn : ArgNo p cb ob base W) (h : FnAt W p tb cb ob base nm pa pc pl la lc ll l wx) :
    Calls Tryz.prog 126 #[.pointer (some ⟨cb, 0, none⟩), .pointer (some ⟨ob, 0, none⟩)] wx (OneR W p tb cb ob base nm pl la lc ll (oneP l)) := by
  obtain ⟨R, hR⟩ : ∃ R, oneP l = R := ⟨_, rfl⟩
  rw [hR]
  have HR := Lib.hid hR
  have c0 := h.c.at 0 _ rfl
  have hba : Below wx.heap.size wx (wx.alloc (.cells #[.string ⟨#[105, 110, 116]⟩] 9)) := (Below.refl _ _).alloc (Nat.le_refl _) _
  have HA := Lib.hid (h.old hba)
  have HWN := Lib.hid (psWant_one p tb l [105, 110, 116] _ (h.old hba).par wx.heap.size 1 ((OwnAt.new wx [.string ⟨#[105, 110, 116]⟩] 9).at 0 _ rfl))
  have HN := Lib.hid hn
  clear hR h hba hn
  go_enter Tryz.func126, Tryz.ntmps126
  go_wp2_with fail
  refine HWN.out.mono ?_
  intro e w2 he
  cases hw : ywantP [105, 110, 116] l with
  | error n =>
    rw [hw] at he
    obtain ⟨hf, rfl⟩ := he
    have HF := Lib.hid (HA.out.fr.trans (AFr.of_sfr hf))
    have e1 : R = .error n := by rw [← HR.out]; unfold oneP; rw [hw]
    subst e1
    clear hf hw
    unfold lineV
    go_wp2_with fail
    exact ⟨rfl, rfl, HF.out⟩
  | ok r1 =>
    rw [hw] at he
    obtain ⟨hf, rfl, hp⟩ := he
    have HA2 := Lib.hid (HA.out.next HN.out hf hp (Nat.le_of_lt (want_less hw)))
    have hR2 : nameP r1 = R := by rw [← HR.out]; unfold oneP; rw [hw]
    have hlw := want_less hw
    have HLW := Lib.hid hlw
    clear hf hp hw hlw
    go_upto_region 1 with (fail)
    have hbs : base ≤ w2.heap.size := Nat.le_trans HN.out.bs HA2.out.fr.size
    have hll : pl.length ≤ 1000000 := by have := HA2.out.len; omega
    have n1 := HN.out.pc; have n2 := HN.out.co; have n3 := HN.out.ob
    cases hy : nameP r1 with
    | error n =>
      rw [hy] at hR2
      subst hR2
      refine wp_mono (Q := Exit.then (Met (RY3 p tb cb ob base nm pa pc pl (.slice la ll.length lc) [] r1 [] (some n) w2 _ _ _)) _) (reg_Y3 p tb cb ob base nm pa pc pl (.slice la ll.length lc) [] r1 [] (some n) w2 HA2.out.par HA2.out.c HA2.out.o HA2.out.rp n1 n2 n3 hbs hll (fun w1 h1 => by have h2 := psName_any p tb r1 w1 h1; rw [hy] at h2; exact h2.mono (fun e w2 h => ⟨h.2, h.1⟩)) (fun e a' w' => ∃ n', e = .panic [{ v := .iface 110 (.agg #[.int .i64 n']), recovered := false }] ∧ n = n' ∧ a'.defers = [] ∧ AFr p ob base w2 w') (fun n' a' w' hn hd hf => by injection hn with hn; exact ⟨n', rfl, hn, hd, hf⟩) _ _ _ _ _ _ _ _ _ _ _ _ (fun _ _ q => q) (fun _ _ q => q)) ?_
      intro e a' w' hq
      cases e with
      | normal =>
        obtain ⟨nb, gn, cn, ⟨_, hp, _⟩, _⟩ := (show RY3 p tb cb ob base nm pa pc pl (.slice la ll.length lc) [] r1 [] (some n) w2 _ _ _ a' w' from hq)
        exact hp.ends.elim
      | panic ch =>
        obtain ⟨n2, he, rfl, hd, hf⟩ := hq
        injection he with he
        subst he
        exact ⟨hd, rfl, HA2.out.fr.trans hf⟩
      | _ =>
        obtain ⟨n2, he, _⟩ := hq
        cases he
    | ok q =>
      obtain ⟨s, r⟩ := q
      rw [hy] at hR2
      subst hR2
      have hlr := name_less hy
      refine wp_mono (Q := Exit.then (Met (RY3 p tb cb ob base nm pa pc pl (.slice la ll.length lc) s r1 r none w2 _ _ _)) (fun _ _ _ => False)) (reg_Y3 p tb cb ob base nm pa pc pl (.slice la ll.length lc) s r1 r none w2 HA2.out.par HA2.out.c HA2.out.o HA2.out.rp n1 n2 n3 hbs hll (fun w1 h1 => by have h2 := psName_any p tb r1 w1 h1; rw [hy] at h2; exact h2.mono (fun e w2 h => by obtain ⟨hf, v, rfl, hp, hv⟩ := h; have hv : v = .string (strOf s) := hv; subst hv; exact ⟨rfl, hf, hp⟩)) (fun _ _ _ => False) (fun n' a' w' hn => by cases hn) _ _ _ _ _ _ _ _ _ _ _ _ (fun _ _ q => q) (fun _ _ q => q)) ?_
      intro e a' w' hq
      cases e with
      | normal =>
        obtain ⟨nb, gn, cn, ⟨h1, h2, h3, h4, h5, h6, h7⟩, rfl⟩ := (show RY3 p tb cb ob base nm pa pc pl (.slice la ll.length lc) s r1 r none w2 _ _ _ a' w' from hq)
        have hl1 : (pl ++ [s]).length = pl.length + 1 := by simp
        have hrl := HA2.out.rl.gr h7 (fun g e e2 => HA2.out.ap g e2 e)
        refine bodyPost_end (v := .tuple #[]) (by simp [results, Tryz.results126, go_sem]) rfl ⟨rfl, gn, cn, HA2.out.fr.trans h1, h2, h3, ?_, ?_, hrl, ?_, ?_⟩
        · rw [hl1]; exact h4
        · rw [hl1]; exact h5
        · intro g e e2
          rw [hl1] at e
          have e : gn = g := by injection e
          subst e
          rcases h6 with h6 | h6
          · exact HA2.out.ap _ h6 e2
          · have := (HA2.out.rl.lt _ e2).2; omega
        · rw [hl1]; have := HA2.out.len; omega
      | _ => exact False.elim hq
/-- Behind one parameter: another one, or the end. -/
def ptailP (g : Nat) (a : List Bs) (l : List Tk) : PR (List Bs) := match takeP [44] l with
  | some r => parsP g a r
  | none => match ywantP [41] l with
    | .error e => .error e
    | .ok r => .ok (a, r)
theorem pars_tail {g : Nat} {a : List Bs} {l r : List Tk} {s : Bs} (h : oneP l = .ok (s, r)) : parsP (g + 1) a l = ptailP g (a ++ [s]) r := by
  unfold oneP at h
  rw [parsP]
  cases h1 : ywantP [105, 110, 116] l with
  | error e => rw [h1] at h; cases h
  | ok q => rw [h1] at h; dsimp only at h ⊢; rw [h]; rfl
theorem pars_err {g : Nat} {a : List Bs} {l : List Tk} {n : Int} (h : oneP l = .error n) : parsP (g + 1) a l = .error n := by
  unfold oneP at h
  rw [parsP]
  cases h1 : ywantP [105, 110, 116] l with
  | error e => rw [h1] at h; injection h with h; rw [h]
  | ok q => rw [h1] at h; dsimp only at h ⊢; rw [h]
theorem pars_less : ∀ (f : Nat) (a : List Bs) (l : List Tk) (x : List Bs) (r : List Tk), parsP f a l = .ok (x, r) → r.length < l.length
  | 0, a, l, x, r, h => by cases h
  | f + 1, a, l, x, r, h => by
    cases h1 : oneP l with
    | error n => rw [pars_err h1] at h; cases h
    | ok q =>
      obtain ⟨s, q⟩ := q
      rw [pars_tail h1] at h
      have k1 := one_less h1
      unfold ptailP at h
      cases h2 : takeP [44] q with
      | some z => rw [h2] at h; have := pars_less f _ _ _ _ h; have := take_less h2; omega
      | none =>
        rw [h2] at h
        dsimp only at h
        cases h3 : ywantP [41] q with
        | error e => rw [h3] at h; cases h
        | ok z => rw [h3] at h; injection h with h; injection h with _ h; subst h; have := want_less h3; omega
def yheadP (f : Nat) (l : List Tk) : PR (List Bs) := match takeP [41] l with | some r => .ok ([], r) | none => parsP f [] l
def ParsR (W : World) (p tb cb ob base : Nat) (nm : Bs) (R : PR (List Bs)) (e : Ending) (w' : World) : Prop :=
  match R with
  | .ok (a, r) => e = .returned (.tuple #[]) ∧ ∃ pa pc, FnAt W p tb cb ob base nm pa pc a none 0 [] r w'
  | .error n => e = lineV n ∧ AFr p ob base W w'
def one3 (ob cb : Nat) : Value := .func (.func 126) #[] #[.pointer (some ⟨cb, 0, none⟩), .pointer (some ⟨ob, 0, none⟩)]
theorem commas3_nil (f : Nat) (w : World) (p tb cb ob base : Nat) (nm : Bs) (t : Tk) (r : List Tk) (hn : ArgNo p cb ob base w) (h : FnAt w p tb cb ob base nm none 0 [] none 0 [] (t :: r) w) (y : isP [41] t = true) :
    Calls Tryz.prog 125 #[.pointer (some ⟨p, 0, none⟩), one3 ob cb] w (ParsR w p tb cb ob base nm (yheadP f (t :: r))) := by
  have e1 : yheadP f (t :: r) = .ok ([], r) := by unfold yheadP; rw [take_yes y]
  rw [e1]
  have HT := Lib.hid (psTake_yes p tb t r [41] w h.par y)
  have HA := Lib.hid h
  have HN := Lib.hid hn
  clear e1 y h hn
  unfold one3
  go_enter Tryz.func125, Tryz.ntmps125
  go_wp2_with fail
  refine HT.out.mono ?_
  rintro e w1 ⟨rfl, hf, hp⟩
  have HA1 := Lib.hid (HA.out.next HN.out hf hp (by simp))
  clear hf hp
  go_wp2_with fail
  first
    | (refine bodyPost_ret (results_none rfl _ _ _) rfl ?_)
    | go_end0
  exact ⟨rfl, none, 0, HA1.out⟩
structure ParI (w : World) (p tb cb ob base : Nat) (nm : Bs) (R : PR (List Bs)) (g : Nat) (pa : Option Addr) (pc : Nat) (pl : List Bs) (l : List Tk) (wr : World) : Prop where
  arg : FnAt w p tb cb ob base nm pa pc pl none 0 [] l wr
  fuel : l.length ≤ g
  res : ptailP g pl l = R
theorem commas3_more (f : Nat) (w : World) (p tb cb ob base : Nat) (nm : Bs) (t : Tk) (r : List Tk) (hn : ArgNo p cb ob base w) (h : FnAt w p tb cb ob base nm none 0 [] none 0 [] (t :: r) w) (hl : (t :: r).length ≤ f) (n : isP [41] t = false) :
    Calls Tryz.prog 125 #[.pointer (some ⟨p, 0, none⟩), one3 ob cb] w (ParsR w p tb cb ob base nm (yheadP f (t :: r))) := by
  have e1 : yheadP f (t :: r) = parsP f [] (t :: r) := by unfold yheadP; rw [take_no n]
  rw [e1]
  obtain ⟨g, rfl⟩ : ∃ g, f = g + 1 := ⟨f - 1, by rw [List.length_cons] at hl; omega⟩
  obtain ⟨R, hR⟩ : ∃ R, parsP (g + 1) [] (t :: r) = R := ⟨_, rfl⟩
  rw [hR]
  have HR := Lib.hid hR
  have HT := Lib.hid (psTake_no p tb t r [41] w h.par n)
  have HA := Lib.hid h
  have HN := Lib.hid hn
  have HFU := Lib.hid hl
  clear e1 n h hn hR hl
  unfold one3
  go_enter Tryz.func125, Tryz.ntmps125
  go_wp2_with fail
  refine HT.out.mono ?_
  rintro e w1 ⟨rfl, hb⟩
  have HA1 := Lib.hid (HA.out.old hb)
  clear hb
  have HX : Hid (∀ (pa : Option Addr) (pc : Nat) (pl : List Bs) (l : List Tk) (wx : World), FnAt w p tb cb ob base nm pa pc pl none 0 [] l wx → Calls Tryz.prog 126 #[.pointer (some ⟨cb, 0, none⟩), .pointer (some ⟨ob, 0, none⟩)] wx (OneR w p tb cb ob base nm pl none 0 [] (oneP l))) :=
    fun pa pc pl l wx ha => fn1_any w wx p tb cb ob base nm pa pc pl none 0 [] l HN.out ha
  go_wp2_with fail
  refine (HX.out none 0 [] (t :: r) w1 HA1.out).mono ?_
  intro e w2 he
  cases hc : oneP (t :: r) with
  | error n =>
    rw [hc] at he
    obtain ⟨rfl, hf⟩ := he
    have e2 := HR.out
    rw [pars_err hc] at e2
    subst e2
    have HF := Lib.hid hf
    clear hc hf
    unfold lineV
    go_wp2_with fail
    exact ⟨rfl, rfl, HF.out⟩
  | ok q =>
    obtain ⟨s, q⟩ := q
    rw [hc] at he
    obtain ⟨rfl, gn, cn, ha⟩ := he
    have e2 := HR.out
    rw [pars_tail hc] at e2
    have hlen := one_less hc
    have HI0 : Hid (ParI w p tb cb ob base nm R g (some ⟨gn, 0, none⟩) cn ([] ++ [s]) q w2) := ⟨ha, by have := HFU.out; omega, e2⟩
    clear ha hc hlen e2
    go_wp2_with fail
    go_loopw [] (fun wr => ∃ (g' : Nat) (pa : Option Addr) (pc : Nat) (pl : List Bs) (l : List Tk), Hid (ParI w p tb cb ob base nm R g' pa pc pl l wr)) (fun wr => leftLen p wr)
    case atStart => exact ⟨g, _, _, _, q, HI0⟩
    case round =>
      obtain ⟨g', pa, pc, pl, l, HI⟩ := hrel
      clear HI0
      obtain ⟨u, l, rfl⟩ := HI.out.arg.par.ends.ne
      cases hu : isP [44] u with
      | true =>
        have HTK := Lib.hid (psTake_yes p tb u l [44] wr HI.out.arg.par hu)
        have hres : parsP g' pl l = R := by
          have := HI.out.res
          unfold ptailP at this
          rw [take_yes hu] at this
          exact this
        clear hu
        go_wp2_with fail
        refine HTK.out.mono ?_
        rintro e w3 ⟨rfl, hf, hp⟩
        have HA3 := Lib.hid (HI.out.arg.next HN.out hf hp (by simp))
        have hfu := HI.out.fuel
        rw [List.length_cons] at hfu
        have hne : 0 < l.length := by obtain ⟨t2, r2, rfl⟩ := hp.ends.ne; simp
        clear hf hp
        obtain ⟨g2, hg2⟩ : ∃ g2, g' = g2 + 1 := ⟨g' - 1, by omega⟩
        subst hg2
        go_wp2_with fail
        refine (HX.out pa pc pl l w3 HA3.out).mono ?_
        intro e w4 he
        cases hc : oneP l with
        | error n =>
          rw [hc] at he
          obtain ⟨rfl, hf⟩ := he
          rw [pars_err hc] at hres
          subst hres
          have HF := Lib.hid hf
          clear hc hf
          unfold lineV
          go_wp2_with fail
          exact ⟨rfl, rfl, HF.out⟩
        | ok q2 =>
          obtain ⟨s2, q2⟩ := q2
          rw [hc] at he
          obtain ⟨rfl, gn2, cn2, ha⟩ := he
          rw [pars_tail hc] at hres
          have hlen := one_less hc
          have HI4 : Hid (ParI w p tb cb ob base nm R g2 (some ⟨gn2, 0, none⟩) cn2 (pl ++ [s2]) q2 w4) := ⟨ha, by omega, hres⟩
          have hm : leftLen p w4 < leftLen p wr := by
            rw [HI4.out.arg.par.len, HI.out.arg.par.len, List.length_cons]; omega
          have HM := Lib.hid hm
          clear ha hc hlen hres hm hfu hne
          go_wp2_with fail
          go_roundw
          case rel => exact ⟨g2, _, _, _, q2, HI4⟩
          case measure => exact HM.out
      | false =>
        have HTK := Lib.hid (psTake_no p tb u l [44] wr HI.out.arg.par hu)
        have hres : (match ywantP [41] (u :: l) with | .error e => .error e | .ok r => .ok (pl, r)) = R := by
          have := HI.out.res
          unfold ptailP at this
          rw [take_no hu] at this
          exact this
        clear hu
        go_wp2_with fail
        refine HTK.out.mono ?_
        rintro e w3 ⟨rfl, hb⟩
        have HA3 := Lib.hid (HI.out.arg.old hb)
        have hba : Below w3.heap.size w3 (w3.alloc (.cells #[.string ⟨#[41]⟩] 9)) := (Below.refl _ _).alloc (Nat.le_refl _) _
        have HA4 := Lib.hid (HA3.out.old hba)
        have HWN := Lib.hid (psWant_one p tb (u :: l) [41] _ HA4.out.par w3.heap.size 1 ((OwnAt.new w3 [.string ⟨#[41]⟩] 9).at 0 _ rfl))
        clear hb hba
        go_wp2_with fail
        refine HWN.out.mono ?_
        intro e w5 he
        cases hw : ywantP [41] (u :: l) with
        | error n =>
          rw [hw] at he hres
          obtain ⟨hf, rfl⟩ := he
          have HF := Lib.hid (HA4.out.fr.trans (AFr.of_sfr hf))
          dsimp only at hres
          subst hres
          clear hf hw
          unfold lineV
          go_wp2_with fail
          exact ⟨rfl, rfl, HF.out⟩
        | ok q3 =>
          rw [hw] at he hres
          obtain ⟨hf, rfl, hp⟩ := he
          have HA5 := Lib.hid (HA4.out.next HN.out hf hp (Nat.le_of_lt (want_less hw)))
          dsimp only at hres
          subst hres
          clear hf hw hp
          go_wp2_with fail
          first
            | go_end0
            | (refine bodyPost_ret (results_none rfl _ _ _) rfl ?_)
          exact ⟨rfl, pa, pc, HA5.out⟩
end Go.Proofs.YtcfpfnoldgnloaaGreatDoor
