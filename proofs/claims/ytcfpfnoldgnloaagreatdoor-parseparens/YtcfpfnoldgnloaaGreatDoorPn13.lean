/-
  function's closure, and commas with it: a function's parameters. Conditions: the parser and the variables lie in memory.
  function: behind its name's parenthesis. Conditions: the parser lies in memory.
-/
import Derived.Test.YtcfpfnoldgnloaaGreatDoorPn12
set_option linter.unusedVariables false
set_option linter.unusedSimpArgs false
namespace Go.Proofs.YtcfpfnoldgnloaaGreatDoor
open Go.RowKit
set_option maxRecDepth 100000
set_option maxHeartbeats 4000000

/-- A function that is being parsed: the parser, its variables, its names. -/
structure FnAt (W : World) (p tb cb ob base : Nat) (nm : Bs) (pa : Option Addr) (pc : Nat) (pl : List Bs) (la : Option Addr) (lc : Nat) (ll : List Bs) (l : List Tk) (wx : World) : Prop where
  fr : AFr p ob base W wx
  par : Ps wx p tb l
  c : OwnAt wx cb [.pointer (some ⟨p, 0, none⟩)] 64
  o : OwnAt wx ob [.string (strOf nm), .slice pa pl.length pc, .slice la ll.length lc, .slice none 0 0] 58
  rp : YStrs wx base pl (.slice pa pl.length pc)
  rl : YStrs wx base ll (.slice la ll.length lc)
  ap : ∀ g, (Value.slice pa pl.length pc).ownBlock = some g → (Value.slice la ll.length lc).ownBlock ≠ some g
  len : pl.length + ll.length + l.length ≤ 1000000
section
variable {W : World} {p tb cb ob base : Nat} {nm : Bs} {pa : Option Addr} {pc : Nat} {pl : List Bs} {la : Option Addr} {lc : Nat} {ll : List Bs} {l r : List Tk} {wx w' : World}
theorem FnAt.old (h : FnAt W p tb cb ob base nm pa pc pl la lc ll l wx) (hb : Below wx.heap.size wx w') : FnAt W p tb cb ob base nm pa pc pl la lc ll l w' :=
  ⟨h.fr.old hb, h.par.old hb, h.c.old hb, h.o.old hb, h.rp.old hb, h.rl.old hb, h.ap, h.len⟩
theorem FnAt.next (h : FnAt W p tb cb ob base nm pa pc pl la lc ll l wx) (hn : ArgNo p cb ob base W) (hf : SFr p wx w') (hp : Ps w' p tb r) (hl : r.length ≤ l.length) : FnAt W p tb cb ob base nm pa pc pl la lc ll r w' :=
  have h1 := hn.pc; have h2 := hn.co; have h3 := hn.ob
  ⟨h.fr.trans (AFr.of_sfr hf), hp, h.c.sfr hf (by omega), h.o.sfr hf (by omega), h.rp.sfr hf (by omega), h.rl.sfr hf (by omega), h.ap, by have := h.len; omega⟩
end
theorem YOwn.gr {α : Type} {e : TypeId} {cf : α → List Value} {k : Nat} {w w' : World} {base : Nat} {L : List α} {v : Value} (h : YOwn e cf k w base L v) {v0 : Value} (hk : ∀ b, b < w.heap.size → base ≤ b → v0.ownBlock ≠ some b → w'.heap[b]? = w.heap[b]?) (hne : ∀ g, v.ownBlock = some g → v0.ownBlock ≠ some g) : YOwn e cf k w' base L v := by
  refine ⟨h.1, ?_⟩
  have hlt := h.lt
  rcases h.2 with hn | ⟨g, cap, cur, rfl, hg, hh, r⟩
  · exact .inl hn
  · refine .inr ⟨g, cap, cur, rfl, hg, ?_, r⟩
    rw [hk g (hlt g rfl).2 hg (hne g rfl)]
    exact hh
def oneP (l : List Tk) : PR Bs := match ywantP [105, 110, 116] l with
  | .error e => .error e
  | .ok r => nameP r
theorem one_less {l r : List Tk} {s : Bs} (h : oneP l = .ok (s, r)) : r.length < l.length := by
  unfold oneP at h
  cases h1 : ywantP [105, 110, 116] l with
  | error e => rw [h1] at h; cases h
  | ok q => rw [h1] at h; have := want_less h1; have := name_less h; omega
def OneR (W : World) (p tb cb ob base : Nat) (nm : Bs) (pl : List Bs) (la : Option Addr) (lc : Nat) (ll : List Bs) (R : PR Bs) (e : Ending) (w' : World) : Prop :=
  match R with
  | .ok (s, r) => e = .returned (.tuple #[]) ∧ ∃ gn cn, FnAt W p tb cb ob base nm (some ⟨gn, 0, none⟩) cn (pl ++ [s]) la lc ll r w'
  | .error n => e = lineV n ∧ AFr p ob base W w'
theorem fn1_any (W wx : World) (p tb cb ob base : Nat) (nm : Bs) (pa : Option Addr) (pc : Nat) (pl : List Bs) (la : Option Addr) (lc : Nat) (ll : List Bs) (l : List Tk) (hn : ArgNo p cb ob base W) (h : FnAt W p tb cb ob base nm pa pc pl la lc ll l wx) :
    Calls Tryz.prog 126 #[.pointer (some ⟨cb, 0, none⟩), .pointer (some ⟨ob, 0, none⟩)] wx (OneR W p tb cb ob base nm pl la lc ll (oneP l)) := by
  obtain ⟨R, hR⟩ : ∃ R, oneP l = R := ⟨_, rfl⟩
  rw [hR]
  have HR := Lib.hid hR
  have c0 := h.c.at 0 _ rfl
  have hba : Below wx.heap.size wx (wx.alloc (.cells #[.string ⟨#[105, 110, 116]⟩] 9)) := (Below.refl _ _).alloc (Nat.le_refl _) _
  have HA := Lib.hid (h.old hba)
  have HWN := Lib.hid (psWant_one p tb l [105, 110, 116] _ (h.old hba).par wx.heap.size 1 ((OwnAt.new wx [.string ⟨#[105, 110, 116]⟩] 9).at 0 _ rfl))
  have HN := Lib.hid hn
  clear hR h hba hn
  go_enter Tryz.func126, Tryz.ntmps126
  go_wp2_with fail
  refine HWN.out.mono ?_
  intro e w2 he
  cases hw : ywantP [105, 110, 116] l with
  | error n =>
    rw [hw] at he
    obtain ⟨hf, rfl⟩ := he
    have HF := Lib.hid (HA.out.fr.trans (AFr.of_sfr hf))
    have e1 : R = .error n := by rw [← HR.out]; unfold oneP; rw [hw]
    subst e1
    clear hf hw
    unfold lineV
    go_wp2_with fail
    exact ⟨rfl, rfl, HF.out⟩
  | ok r1 =>
    rw [hw] at he
    obtain ⟨hf, rfl, hp⟩ := he
    have HA2 := Lib.hid (HA.out.next HN.out hf hp (Nat.le_of_lt (want_less hw)))
    have hR2 : nameP r1 = R := by rw [← HR.out]; unfold oneP; rw [hw]
    have hlw := want_less hw
    have HLW := Lib.hid hlw
    clear hf hp hw hlw
    go_upto_region 1 with (fail)
    have hbs : base ≤ w2.heap.size := Nat.le_trans HN.out.bs HA2.out.fr.size
    have hll : pl.length ≤ 1000000 := by have := HA2.out.len; omega
    have n1 := HN.out.pc; have n2 := HN.out.co; have n3 := HN.out.ob
    cases hy : nameP r1 with
    | error n =>
      rw [hy] at hR2
      subst hR2
      refine wp_mono (Q := Exit.then (Met (RY3 p tb cb ob base nm pa pc pl (.slice la ll.length lc) [] r1 [] (some n) w2 _ _ _)) _) (reg_Y3 p tb cb ob base nm pa pc pl (.slice la ll.length lc) [] r1 [] (some n) w2 HA2.out.par HA2.out.c HA2.out.o HA2.out.rp n1 n2 n3 hbs hll (fun w1 h1 => by have h2 := psName_any p tb r1 w1 h1; rw [hy] at h2; exact h2.mono (fun e w2 h => ⟨h.2, h.1⟩)) (fun e a' w' => ∃ n', e = .panic [{ v := .iface 110 (.agg #[.int .i64 n']), recovered := false }] ∧ n = n' ∧ a'.defers = [] ∧ AFr p ob base w2 w') (fun n' a' w' hn hd hf => by injection hn with hn; exact ⟨n', rfl, hn, hd, hf⟩) _ _ _ _ _ _ _ _ _ _ _ _ (fun _ _ q => q) (fun _ _ q => q)) ?_
      intro e a' w' hq
      cases e with
      | normal =>
        obtain ⟨nb, gn, cn, ⟨_, hp, _⟩, _⟩ := (show RY3 p tb cb ob base nm pa pc pl (.slice la ll.length lc) [] r1 [] (some n) w2 _ _ _ a' w' from hq)
        exact hp.ends.elim
      | panic ch =>
        obtain ⟨n2, he, rfl, hd, hf⟩ := hq
        injection he with he
        subst he
        exact ⟨hd, rfl, HA2.out.fr.trans hf⟩
      | _ =>
        obtain ⟨n2, he, _⟩ := hq
        cases he
    | ok q =>
      obtain ⟨s, r⟩ := q
      rw [hy] at hR2
      subst hR2
      have hlr := name_less hy
      refine wp_mono (Q := Exit.then (Met (RY3 p tb cb ob base nm pa pc pl (.slice la ll.length lc) s r1 r none w2 _ _ _)) (fun _ _ _ => False)) (reg_Y3 p tb cb ob base nm pa pc pl (.slice la ll.length lc) s r1 r none w2 HA2.out.par HA2.out.c HA2.out.o HA2.out.rp n1 n2 n3 hbs hll (fun w1 h1 => by have h2 := psName_any p tb r1 w1 h1; rw [hy] at h2; exact h2.mono (fun e w2 h => by obtain ⟨hf, v, rfl, hp, hv⟩ := h; have hv : v = .string (strOf s) := hv; subst hv; exact ⟨rfl, hf, hp⟩)) (fun _ _ _ => False) (fun n' a' w' hn => by cases hn) _ _ _ _ _ _ _ _ _ _ _ _ (fun _ _ q => q) (fun _ _ q => q)) ?_
      intro e a' w' hq
      cases e with
      | normal =>
        obtain ⟨nb, gn, cn, ⟨h1, h2, h3, h4, h5, h6, h7⟩, rfl⟩ := (show RY3 p tb cb ob base nm pa pc pl (.slice la ll.length lc) s r1 r none w2 _ _ _ a' w' from hq)
        have hl1 : (pl ++ [s]).length = pl.length + 1 := by simp
        have hrl := HA2.out.rl.gr h7 (fun g e e2 => HA2.out.ap g e2 e)
        refine bodyPost_end (v := .tuple #[]) (by simp [results, Tryz.results126, go_sem]) rfl ⟨rfl, gn, cn, HA2.out.fr.trans h1, h2, h3, ?_, ?_, hrl, ?_, ?_⟩
        · rw [hl1]; exact h4
        · rw [hl1]; exact h5
        · intro g e e2
          rw [hl1] at e
          have e : gn = g := by injection e
          subst e
          rcases h6 with h6 | h6
          · exact HA2.out.ap _ h6 e2
          · have := (HA2.out.rl.lt _ e2).2; omega
        · rw [hl1]; have := HA2.out.len; omega
      | _ => exact False.elim hq
/-- Behind one parameter: another one, or the end. -/
def ptailP (g : Nat) (a : List Bs) (l : List Tk) : PR (List Bs) := match takeP [44] l with
  | some r => parsP g a r
  | none => match ywantP [41] l with
    | .error e => .error e
    | .ok r => .ok (a, r)
theorem pars_tail {g : Nat} {a : List Bs} {l r : List Tk} {s : Bs} (h : oneP l = .ok (s, r)) : parsP (g + 1) a l = ptailP g (a ++ [s]) r := by
  unfold oneP at h
  rw [parsP]
  cases h1 : ywantP [105, 110, 116] l with
  | error e => rw [h1] at h; cases h
  | ok q => rw [h1] at h; dsimp only at h ⊢; rw [h]; rfl
theorem pars_err {g : Nat} {a : List Bs} {l : List Tk} {n : Int} (h : oneP l = .error n) : parsP (g + 1) a l = .error n := by
  unfold oneP at h
  rw [parsP]
  cases h1 : ywantP [105, 110, 116] l with
  | error e => rw [h1] at h; injection h with h; rw [h]
  | ok q => rw [h1] at h; dsimp only at h ⊢; rw [h]
theorem pars_less : ∀ (f : Nat) (a : List Bs) (l : List Tk) (x : List Bs) (r : List Tk), parsP f a l = .ok (x, r) → r.length < l.length
  | 0, a, l, x, r, h => by cases h
  | f + 1, a, l, x, r, h => by
    cases h1 : oneP l with
    | error n => rw [pars_err h1] at h; cases h
    | ok q =>
      obtain ⟨s, q⟩ := q
      rw [pars_tail h1] at h
      have k1 := one_less h1
      unfold ptailP at h
      cases h2 : takeP [44] q with
      | some z => rw [h2] at h; have := pars_less f _ _ _ _ h; have := take_less h2; omega
      | none =>
        rw [h2] at h
        dsimp only at h
        cases h3 : ywantP [41] q with
        | error e => rw [h3] at h; cases h
        | ok z => rw [h3] at h; injection h with h; injection h with _ h; subst h; have := want_less h3; omega
def yheadP (f : Nat) (l : List Tk) : PR (List Bs) := match takeP [41] l with | some r => .ok ([], r) | none => parsP f [] l
def ParsR (W : World) (p tb cb ob base : Nat) (nm : Bs) (R : PR (List Bs)) (e : Ending) (w' : World) : Prop :=
  match R with
  | .ok (a, r) => e = .returned (.tuple #[]) ∧ ∃ pa pc, FnAt W p tb cb ob base nm pa pc a none 0 [] r w'
  | .error n => e = lineV n ∧ AFr p ob base W w'
def one3 (ob cb : Nat) : Value := .func (.func 126) #[] #[.pointer (some ⟨cb, 0, none⟩), .pointer (some ⟨ob, 0, none⟩)]
theorem commas3_nil (f : Nat) (w : World) (p tb cb ob base : Nat) (nm : Bs) (t : Tk) (r : List Tk) (hn : ArgNo p cb ob base w) (h : FnAt w p tb cb ob base nm none 0 [] none 0 [] (t :: r) w) (y : isP [41] t = true) :
    Calls Tryz.prog 125 #[.pointer (some ⟨p, 0, none⟩), one3 ob cb] w (ParsR w p tb cb ob base nm (yheadP f (t :: r))) := by
  have e1 : yheadP f (t :: r) = .ok ([], r) := by unfold yheadP; rw [take_yes y]
  rw [e1]
  have HT := Lib.hid (psTake_yes p tb t r [41] w h.par y)
  have HA := Lib.hid h
  have HN := Lib.hid hn
  clear e1 y h hn
  unfold one3
  go_enter Tryz.func125, Tryz.ntmps125
  go_wp2_with fail
  refine HT.out.mono ?_
  rintro e w1 ⟨rfl, hf, hp⟩
  have HA1 := Lib.hid (HA.out.next HN.out hf hp (by simp))
  clear hf hp
  go_wp2_with fail
  first
    | (refine bodyPost_ret (results_none rfl _ _ _) rfl ?_)
    | go_end0
  exact ⟨rfl, none, 0, HA1.out⟩
structure ParI (w : World) (p tb cb ob base : Nat) (nm : Bs) (R : PR (List Bs)) (g : Nat) (pa : Option Addr) (pc : Nat) (pl : List Bs) (l : List Tk) (wr : World) : Prop where
  arg : FnAt w p tb cb ob base nm pa pc pl none 0 [] l wr
  fuel : l.length ≤ g
  res : ptailP g pl l = R
theorem commas3_more (f : Nat) (w : World) (p tb cb ob base : Nat) (nm : Bs) (t : Tk) (r : List Tk) (hn : ArgNo p cb ob base w) (h : FnAt w p tb cb ob base nm none 0 [] none 0 [] (t :: r) w) (hl : (t :: r).length ≤ f) (n : isP [41] t = false) :
    Calls Tryz.prog 125 #[.pointer (some ⟨p, 0, none⟩), one3 ob cb] w (ParsR w p tb cb ob base nm (yheadP f (t :: r))) := by
  have e1 : yheadP f (t :: r) = parsP f [] (t :: r) := by unfold yheadP; rw [take_no n]
  rw [e1]
  obtain ⟨g, rfl⟩ : ∃ g, f = g + 1 := ⟨f - 1, by rw [List.length_cons] at hl; omega⟩
  obtain ⟨R, hR⟩ : ∃ R, parsP (g + 1) [] (t :: r) = R := ⟨_, rfl⟩
  rw [hR]
  have HR := Lib.hid hR
  have HT := Lib.hid (psTake_no p tb t r [41] w h.par n)
  have HA := Lib.hid h
  have HN := Lib.hid hn
  have HFU := Lib.hid hl
  clear e1 n h hn hR hl
  unfold one3
  go_enter Tryz.func125, Tryz.ntmps125
  go_wp2_with fail
  refine HT.out.mono ?_
  rintro e w1 ⟨rfl, hb⟩
  have HA1 := Lib.hid (HA.out.old hb)
  clear hb
  have HX : Hid (∀ (pa : Option Addr) (pc : Nat) (pl : List Bs) (l : List Tk) (wx : World), FnAt w p tb cb ob base nm pa pc pl none 0 [] l wx → Calls Tryz.prog 126 #[.pointer (some ⟨cb, 0, none⟩), .pointer (some ⟨ob, 0, none⟩)] wx (OneR w p tb cb ob base nm pl none 0 [] (oneP l))) :=
    fun pa pc pl l wx ha => fn1_any w wx p tb cb ob base nm pa pc pl none 0 [] l HN.out ha
  go_wp2_with fail
  refine (HX.out none 0 [] (t :: r) w1 HA1.out).mono ?_
  intro e w2 he
  cases hc : oneP (t :: r) with
  | error n =>
    rw [hc] at he
    obtain ⟨rfl, hf⟩ := he
    have e2 := HR.out
    rw [pars_err hc] at e2
    subst e2
    have HF := Lib.hid hf
    clear hc hf
    unfold lineV
    go_wp2_with fail
    exact ⟨rfl, rfl, HF.out⟩
  | ok q =>
    obtain ⟨s, q⟩ := q
    rw [hc] at he
    obtain ⟨rfl, gn, cn, ha⟩ := he
    have e2 := HR.out
    rw [pars_tail hc] at e2
    have hlen := one_less hc
    have HI0 : Hid (ParI w p tb cb ob base nm R g (some ⟨gn, 0, none⟩) cn ([] ++ [s]) q w2) := ⟨ha, by have := HFU.out; omega, e2⟩
    clear ha hc hlen e2
    go_wp2_with fail
    go_loopw [] (fun wr => ∃ (g' : Nat) (pa : Option Addr) (pc : Nat) (pl : List Bs) (l : List Tk), Hid (ParI w p tb cb ob base nm R g' pa pc pl l wr)) (fun wr => leftLen p wr)
    case atStart => exact ⟨g, _, _, _, q, HI0⟩
    case round =>
      obtain ⟨g', pa, pc, pl, l, HI⟩ := hrel
      clear HI0
      obtain ⟨u, l, rfl⟩ := HI.out.arg.par.ends.ne
      cases hu : isP [44] u with
      | true =>
        have HTK := Lib.hid (psTake_yes p tb u l [44] wr HI.out.arg.par hu)
        have hres : parsP g' pl l = R := by
          have := HI.out.res
          unfold ptailP at this
          rw [take_yes hu] at this
          exact this
        clear hu
        go_wp2_with fail
        refine HTK.out.mono ?_
        rintro e w3 ⟨rfl, hf, hp⟩
        have HA3 := Lib.hid (HI.out.arg.next HN.out hf hp (by simp))
        have hfu := HI.out.fuel
        rw [List.length_cons] at hfu
        have hne : 0 < l.length := by obtain ⟨t2, r2, rfl⟩ := hp.ends.ne; simp
        clear hf hp
        obtain ⟨g2, hg2⟩ : ∃ g2, g' = g2 + 1 := ⟨g' - 1, by omega⟩
        subst hg2
        go_wp2_with fail
        refine (HX.out pa pc pl l w3 HA3.out).mono ?_
        intro e w4 he
        cases hc : oneP l with
        | error n =>
          rw [hc] at he
          obtain ⟨rfl, hf⟩ := he
          rw [pars_err hc] at hres
          subst hres
          have HF := Lib.hid hf
          clear hc hf
          unfold lineV
          go_wp2_with fail
          exact ⟨rfl, rfl, HF.out⟩
        | ok q2 =>
          obtain ⟨s2, q2⟩ := q2
          rw [hc] at he
          obtain ⟨rfl, gn2, cn2, ha⟩ := he
          rw [pars_tail hc] at hres
          have hlen := one_less hc
          have HI4 : Hid (ParI w p tb cb ob base nm R g2 (some ⟨gn2, 0, none⟩) cn2 (pl ++ [s2]) q2 w4) := ⟨ha, by omega, hres⟩
          have hm : leftLen p w4 < leftLen p wr := by
            rw [HI4.out.arg.par.len, HI.out.arg.par.len, List.length_cons]; omega
          have HM := Lib.hid hm
          clear ha hc hlen hres hm hfu hne
          go_wp2_with fail
          go_roundw
          case rel => exact ⟨g2, _, _, _, q2, HI4⟩
          case measure => exact HM.out
      | false =>
        have HTK := Lib.hid (psTake_no p tb u l [44] wr HI.out.arg.par hu)
        have hres : (match ywantP [41] (u :: l) with | .error e => .error e | .ok r => .ok (pl, r)) = R := by
          have := HI.out.res
          unfold ptailP at this
          rw [take_no hu] at this
          exact this
        clear hu
        go_wp2_with fail
        refine HTK.out.mono ?_
        rintro e w3 ⟨rfl, hb⟩
        have HA3 := Lib.hid (HI.out.arg.old hb)
        have hba : Below w3.heap.size w3 (w3.alloc (.cells #[.string ⟨#[41]⟩] 9)) := (Below.refl _ _).alloc (Nat.le_refl _) _
        have HA4 := Lib.hid (HA3.out.old hba)
        have HWN := Lib.hid (psWant_one p tb (u :: l) [41] _ HA4.out.par w3.heap.size 1 ((OwnAt.new w3 [.string ⟨#[41]⟩] 9).at 0 _ rfl))
        clear hb hba
        go_wp2_with fail
        refine HWN.out.mono ?_
        intro e w5 he
        cases hw : ywantP [41] (u :: l) with
        | error n =>
          rw [hw] at he hres
          obtain ⟨hf, rfl⟩ := he
          have HF := Lib.hid (HA4.out.fr.trans (AFr.of_sfr hf))
          dsimp only at hres
          subst hres
          clear hf hw
          unfold lineV
          go_wp2_with fail
          exact ⟨rfl, rfl, HF.out⟩
        | ok q3 =>
          rw [hw] at he hres
          obtain ⟨hf, rfl, hp⟩ := he
          have HA5 := Lib.hid (HA4.out.next HN.out hf hp (Nat.le_of_lt (want_less hw)))
          dsimp only at hres
          subst hres
          clear hf hw hp
          go_wp2_with fail
          first
            | go_end0
            | (refine bodyPost_ret (results_none rfl _ _ _) rfl ?_)
          exact ⟨rfl, pa, pc, HA5.out⟩
end Go.Proofs.YtcfpfnoldgnloaaGreatDoor

namespace Go.Proofs.YtcfpfnoldgnloaaGreatDoor
open Go.RowKit
set_option maxRecDepth 100000
set_option maxHeartbeats 4000000

def FuH (B : Nat) (x : Fu) (v : Value) (w : World) : Prop := ∃ pv lv bv, v = .agg #[.string (strOf x.name), pv, lv, bv] ∧ StrsAt (B ≤ ·) w x.params pv ∧ StrsAt (B ≤ ·) w x.locals lv ∧ StsAt (B ≤ ·) w x.body bv
/-- Behind the parameters: the locals and the statements. -/
def bodyP (f g : Nat) (s : Bs) (ps ll : List Bs) (l : List Tk) : PR Fu := match localsP g ll l with
  | .error e => .error e
  | .ok (ls, r) => match stmtsP f [] r with
    | .error e => .error e
    | .ok (b, r) => .ok (⟨s, ps, ls, b⟩, r)
theorem function_eq (f : Nat) (s : Bs) (l : List Tk) : functionP f s l = match yheadP f l with
    | .error e => .error e
    | .ok (ps, r) => match ywantP [123] r with
      | .error e => .error e
      | .ok r => bodyP f f s ps [] r := rfl
theorem locals_more {f g : Nat} {s : Bs} {ps ll : List Bs} {u : Tk} {l r : List Tk} {x : Bs} (y : isP [105, 110, 116] u = true) (hn : nameP l = .ok (x, r)) : bodyP f (g + 1) s ps ll (u :: l) = match ywantP [59] r with
    | .error e => .error e
    | .ok r => bodyP f g s ps (ll ++ [x]) r := by
  unfold bodyP
  rw [localsP, take_yes y]
  dsimp only
  rw [hn]
  dsimp only
  cases ywantP [59] r with
  | error e => rfl
  | ok q => rfl
theorem locals_err {f g : Nat} {s : Bs} {ps ll : List Bs} {u : Tk} {l : List Tk} {n : Int} (y : isP [105, 110, 116] u = true) (hn : nameP l = .error n) : bodyP f (g + 1) s ps ll (u :: l) = .error n := by
  unfold bodyP
  rw [localsP, take_yes y]
  dsimp only
  rw [hn]
theorem locals_end {f g : Nat} {s : Bs} {ps ll : List Bs} {u : Tk} {l : List Tk} (y : isP [105, 110, 116] u = false) : bodyP f (g + 1) s ps ll (u :: l) = match stmtsP f [] (u :: l) with
    | .error e => .error e
    | .ok (b, r) => .ok (⟨s, ps, ll, b⟩, r) := by
  unfold bodyP
  rw [localsP, take_no y]
structure LocI (W : World) (p tb cb ob base f : Nat) (nm : Bs) (pa : Option Addr) (pc : Nat) (pl : List Bs) (R : PR Fu) (g : Nat) (la : Option Addr) (lc : Nat) (ll : List Bs) (l : List Tk) (wr : World) : Prop where
  arg : FnAt W p tb cb ob base nm pa pc pl la lc ll l wr
  fuel : l.length ≤ g
  st : 4 * l.length + 2 ≤ f
  res : bodyP f g nm pl ll l = R
theorem yfun_any (f : Nat) (s : Bs) (l : List Tk) (w : World) (p tb : Nat) (hl : 4 * l.length + 2 ≤ f) (h : Ps w p tb l) :
    Calls Tryz.prog 68 #[.pointer (some ⟨p, 0, none⟩), .string (strOf s)] w (PEnd (FuH w.heap.size) w p tb (functionP f s l)) := by
  have hmf : ∀ (fn : Fn) (first cap : Array Value) (w : World), (Instr.makeFunc fn first cap).run Tryz.prog w = .ok (.func fn first cap) w := fun _ _ _ _ => rfl
  obtain ⟨W, hW⟩ : ∃ W, ((w.alloc (.cells #[.pointer (some ⟨p, 0, none⟩)] 64)).alloc (.cells #[.string ⟨#[]⟩, .slice none 0 0, .slice none 0 0, .slice none 0 0] 58)).alloc (.cells #[.string (strOf s), .slice none 0 0, .slice none 0 0, .slice none 0 0] 58) = W := ⟨_, rfl⟩
  have hb1 : Below w.heap.size w W := hW ▸ (((Below.refl _ _).alloc (Nat.le_refl _) _).alloc (by simp) _).alloc (by simp; omega) _
  have hws : W.heap.size = w.heap.size + 3 := by rw [← hW]; simp
  have hc1 : OwnAt W w.heap.size [.pointer (some ⟨p, 0, none⟩)] 64 := hW ▸ ((OwnAt.new w [.pointer (some ⟨p, 0, none⟩)] 64).alloc _).alloc _
  have hr1 : OwnAt W (w.heap.size + 1) [.string ⟨#[]⟩, .slice none 0 0, .slice none 0 0, .slice none 0 0] 58 := by
    have := (OwnAt.new (w.alloc (.cells #[.pointer (some ⟨p, 0, none⟩)] 64)) [.string ⟨#[]⟩, .slice none 0 0, .slice none 0 0, .slice none 0 0] 58).alloc (.cells #[.string (strOf s), .slice none 0 0, .slice none 0 0, .slice none 0 0] 58)
    rw [show (w.alloc (.cells #[.pointer (some ⟨p, 0, none⟩)] 64)).heap.size = w.heap.size + 1 by simp] at this
    exact hW ▸ this
  have ho1 : OwnAt W (w.heap.size + 2) [.string (strOf s), .slice none 0 0, .slice none 0 0, .slice none 0 0] 58 := by
    have := OwnAt.new ((w.alloc (.cells #[.pointer (some ⟨p, 0, none⟩)] 64)).alloc (.cells #[.string ⟨#[]⟩, .slice none 0 0, .slice none 0 0, .slice none 0 0] 58)) [.string (strOf s), .slice none 0 0, .slice none 0 0, .slice none 0 0] 58
    rw [show ((w.alloc (.cells #[.pointer (some ⟨p, 0, none⟩)] 64)).alloc (.cells #[.string ⟨#[]⟩, .slice none 0 0, .slice none 0 0, .slice none 0 0] 58)).heap.size = w.heap.size + 2 by simp] at this
    exact hW ▸ this
  have hpl := h.lt
  have hlen : l.length ≤ 1000000 := by obtain ⟨_, _, h2⟩ := h; exact h2.fit
  have hno : ArgNo p w.heap.size (w.heap.size + 2) (w.heap.size + 3) W := ⟨hpl, by omega, by omega, by omega⟩
  have hat : FnAt W p tb w.heap.size (w.heap.size + 2) (w.heap.size + 3) s none 0 [] none 0 [] l W := ⟨AFr.refl _ _ _ _, h.old hb1, hc1, ho1, YOwn.zero _ _ _ _ _, YOwn.zero _ _ _ _ _, (fun g e => by cases e), by simpa using hlen⟩
  have key : Calls Tryz.prog 125 #[.pointer (some ⟨p, 0, none⟩), one3 (w.heap.size + 2) w.heap.size] W (ParsR W p tb w.heap.size (w.heap.size + 2) (w.heap.size + 3) s (yheadP f l)) := by
    obtain ⟨t, r, rfl⟩ := h.ends.ne
    cases y : isP [41] t with
    | true => exact commas3_nil f W p tb _ _ _ s t r hno hat y
    | false => exact commas3_more f W p tb _ _ _ s t r hno hat (by omega) y
  obtain ⟨R, hR⟩ : ∃ R, functionP f s l = R := ⟨_, rfl⟩
  rw [hR]
  rw [function_eq] at hR
  have HR := Lib.hid hR
  have HK := Lib.hid key
  have HB := Lib.hid hb1
  have HWS := Lib.hid hws
  have HRB := Lib.hid hr1
  have HN := Lib.hid hno
  have HPW := Lib.hid hpl
  have HL := Lib.hid hl
  have hc0 := hc1.at 0 _ rfl
  have hwl : w.heap.size < W.heap.size := by omega
  have HSF : Hid (∀ w1, AFr p (w.heap.size + 2) (w.heap.size + 3) W w1 → SFr p w w1) := fun w1 hf => sfr_afr (SFr.of_below hb1) hf (by omega) (by omega)
  unfold one3 at HK
  have HW := Lib.hid hW
  clear hR key hb1 hws hr1 ho1 hc1 hno hat hpl hlen hl h hW
  go_enter Tryz.func68, Tryz.ntmps68
  go_upto_region 2 with (fail)
  rw [HW.out]
  rw [show w.heap.size + 1 + 1 = w.heap.size + 2 from rfl]
  clear HW
  go_wp2_with fail
  refine HK.out.mono ?_
  intro e w1 he
  cases hh : yheadP f l with
  | error n =>
    rw [hh] at he
    obtain ⟨rfl, hf⟩ := he
    have e2 := HR.out
    rw [hh] at e2
    dsimp only at e2
    subst e2
    have HF := Lib.hid (HSF.out _ hf)
    clear hh hf
    unfold lineV
    go_wp2_with fail
    exact ⟨rfl, HF.out, rfl⟩
  | ok q =>
  obtain ⟨pl, q⟩ := q
  rw [hh] at he
  obtain ⟨rfl, pa, pc, ha⟩ := he
  have e2 := HR.out
  rw [hh] at e2
  dsimp only at e2
  have HR1 := Lib.hid e2
  have hql : q.length < l.length := by
    unfold yheadP at hh
    cases ht : takeP [41] l with
    | some r => rw [ht] at hh; injection hh with hh; injection hh with _ hh; subst hh; exact take_less ht
    | none =>
      rw [ht] at hh
      exact pars_less _ _ _ _ _ hh
  have HQL := Lib.hid hql
  have HA1 := Lib.hid ha
  have c1 := ha.c.at 0 _ rfl
  have hba : Below w1.heap.size w1 (w1.alloc (.cells #[.string ⟨#[123]⟩] 9)) := (Below.refl _ _).alloc (Nat.le_refl _) _
  have HA2 := Lib.hid (ha.old hba)
  have HWN := Lib.hid (psWant_one p tb q [123] _ (ha.old hba).par w1.heap.size 1 ((OwnAt.new w1 [.string ⟨#[123]⟩] 9).at 0 _ rfl))
  have HRX := HR
  clear hh e2 hql ha hba hc0 hwl
  go_wp2_with fail
  refine HWN.out.mono ?_
  intro e w3 he
  cases hw : ywantP [123] q with
  | error n =>
    rw [hw] at he
    obtain ⟨hf, rfl⟩ := he
    have e2 := HR1.out
    rw [hw] at e2
    dsimp only at e2
    subst e2
    have HF := Lib.hid (HSF.out _ (HA2.out.fr.trans (AFr.of_sfr hf)))
    clear hw hf
    unfold lineV
    go_wp2_with fail
    exact ⟨rfl, HF.out, rfl⟩
  | ok q2 =>
  rw [hw] at he
  obtain ⟨hf, rfl, hp⟩ := he
  have HA3 := Lib.hid (HA2.out.next HN.out hf hp (Nat.le_of_lt (want_less hw)))
  have e2 := HR1.out
  rw [hw] at e2
  dsimp only at e2
  have hlw := want_less hw
  have HI0 : Hid (LocI W p tb w.heap.size (w.heap.size + 2) (w.heap.size + 3) f s pa pc pl R f none 0 [] q2 w3) := ⟨HA3.out, by have := HQL.out; have := HL.out; omega, by have := HQL.out; have := HL.out; omega, e2⟩
  clear hf hp hw e2 hlw c1 HWN HRX HR HR1 HK
  go_wp2_with fail
  go_loopw [] (fun wr => ∃ (g : Nat) (la : Option Addr) (lc : Nat) (ll : List Bs) (l : List Tk), Hid (LocI W p tb w.heap.size (w.heap.size + 2) (w.heap.size + 3) f s pa pc pl R g la lc ll l wr)) (fun wr => leftLen p wr)
  case atStart => exact ⟨f, none, 0, [], q2, HI0⟩
  case round =>
    obtain ⟨g, la, lc, ll, l5, HI⟩ := hrel
    clear HI0 HA1 HA2 HA3
    obtain ⟨u, l5, rfl⟩ := HI.out.arg.par.ends.ne
    obtain ⟨g2, hg2⟩ : ∃ g2, g = g2 + 1 := ⟨g - 1, by have := HI.out.fuel; rw [List.length_cons] at this; omega⟩
    subst hg2
    have c5 := HI.out.arg.c.at 0 _ rfl
    cases hu : isP [105, 110, 116] u with
    | true =>
      have HTK := Lib.hid (psTake_yes p tb u l5 [105, 110, 116] wr HI.out.arg.par hu)
      have HU := Lib.hid hu
      clear hu
      go_wp2_with fail
      refine HTK.out.mono ?_
      rintro e w4 ⟨rfl, hf, hp⟩
      have HA4 := Lib.hid (HI.out.arg.next HN.out hf hp (by simp))
      clear hf hp c5
      go_upto_region 5 with (fail)
      have hbs : w.heap.size + 3 ≤ w4.heap.size := Nat.le_trans HN.out.bs HA4.out.fr.size
      have hll : ll.length ≤ 1000000 := by have := HA4.out.len; omega
      have n1 := HN.out.pc; have n2 := HN.out.co; have n3 := HN.out.ob
      cases hy : nameP l5 with
      | error n =>
        have e2 := HI.out.res
        rw [locals_err HU.out hy] at e2
        subst e2
        refine wp_mono (Q := Exit.then (Met (RY4 p tb w.heap.size (w.heap.size + 2) (w.heap.size + 3) s la lc ll (.slice pa pl.length pc) [] l5 [] (some n) w4 _ _ _ _ _ _ _ _ _ _ _ _ _ _ _ _ _ _ _ _ _)) _) (reg_Y4 p tb w.heap.size (w.heap.size + 2) (w.heap.size + 3) s la lc ll (.slice pa pl.length pc) [] l5 [] (some n) w4 HA4.out.par HA4.out.c HA4.out.o HA4.out.rl n1 n2 n3 hbs hll (fun w1 h1 => by have h2 := psName_any p tb l5 w1 h1; rw [hy] at h2; exact h2.mono (fun e w2 h => ⟨h.2, h.1⟩)) (fun e a' w' => ∃ n', e = .panic [{ v := .iface 110 (.agg #[.int .i64 n']), recovered := false }] ∧ n = n' ∧ a'.defers = [] ∧ AFr p (w.heap.size + 2) (w.heap.size + 3) w4 w') (fun n' a' w' hn hd hf => by injection hn with hn; exact ⟨n', rfl, hn, hd, hf⟩) _ _ _ _ _ _ _ _ _ _ _ _ _ _ _ _ _ _ _ _ _ _ _ _ _ _ _ _ _ _ (fun _ _ q => q) (fun _ _ q => q)) ?_
        intro e a' w' hq
        cases e with
        | normal =>
          obtain ⟨nb, gn, cn, ⟨_, hp, _⟩, _⟩ := (show RY4 p tb w.heap.size (w.heap.size + 2) (w.heap.size + 3) s la lc ll (.slice pa pl.length pc) [] l5 [] (some n) w4 _ _ _ _ _ _ _ _ _ _ _ _ _ _ _ _ _ _ _ _ _ a' w' from hq)
          exact hp.ends.elim
        | panic ch =>
          obtain ⟨n2, he, rfl, hd, hf⟩ := hq
          injection he with he
          subst he
          exact ⟨hd, HSF.out _ (HA4.out.fr.trans hf), rfl⟩
        | _ =>
          obtain ⟨n2, he, _⟩ := hq
          cases he
      | ok q5 =>
        obtain ⟨x, r5⟩ := q5
        have e2 := HI.out.res
        rw [locals_more HU.out hy] at e2
        have HR5 := Lib.hid e2
        have hlr := name_less hy
        have HLR := Lib.hid hlr
        refine wp_cut (fun a' w' => RY4 p tb w.heap.size (w.heap.size + 2) (w.heap.size + 3) s la lc ll (.slice pa pl.length pc) x l5 r5 none w4 _ _ _ _ _ _ _ _ _ _ _ _ _ _ _ _ _ _ _ _ _ a' w') ?rest (fun J K' hJ hM => reg_Y4 p tb w.heap.size (w.heap.size + 2) (w.heap.size + 3) s la lc ll (.slice pa pl.length pc) x l5 r5 none w4 HA4.out.par HA4.out.c HA4.out.o HA4.out.rl n1 n2 n3 hbs hll (fun w1 h1 => by have h2 := psName_any p tb l5 w1 h1; rw [hy] at h2; exact h2.mono (fun e w2 h => by obtain ⟨hf, v, rfl, hp, hv⟩ := h; have hv : v = .string (strOf x) := hv; subst hv; exact ⟨rfl, hf, hp⟩)) _ (fun n' a' w' hn => by cases hn) _ _ _ _ _ _ _ _ _ _ _ _ _ _ _ _ _ _ _ _ _ _ _ _ _ _ _ _ J K' hJ hM)
        case rest =>
          rintro a' w6 ⟨nb, gn, cn, ⟨h1, h2, h3, h4, h5, h6, h7⟩, rfl⟩
          have hl1 : (ll ++ [x]).length = ll.length + 1 := by simp
          have hrl := HA4.out.rp.gr h7 (fun g e e2 => HA4.out.ap g e e2)
          have HA6 : Hid (FnAt W p tb w.heap.size (w.heap.size + 2) (w.heap.size + 3) s pa pc pl (some ⟨gn, 0, none⟩) cn (ll ++ [x]) r5 w6) := by
            refine ⟨HA4.out.fr.trans h1, h2, h3, ?_, hrl, ?_, ?_, ?_⟩
            · rw [hl1]; exact h4
            · rw [hl1]; exact h5
            · intro g e e2
              rw [hl1] at e2
              have e2 : gn = g := by injection e2
              subst e2
              rcases h6 with h6 | h6
              · exact HA4.out.ap _ e h6
              · have := (HA4.out.rp.lt _ e).2; omega
            · rw [hl1]; have := HA4.out.len; omega
          have c6 := HA6.out.c.at 0 _ rfl
          have hba : Below w6.heap.size w6 (w6.alloc (.cells #[.string ⟨#[59]⟩] 9)) := (Below.refl _ _).alloc (Nat.le_refl _) _
          have HA7 := Lib.hid (HA6.out.old hba)
          have HWN := Lib.hid (psWant_one p tb r5 [59] _ (HA6.out.old hba).par w6.heap.size 1 ((OwnAt.new w6 [.string ⟨#[59]⟩] 9).at 0 _ rfl))
          clear h1 h2 h3 h4 h5 h6 h7 hl1 hrl hba hy e2 hlr hbs hll n1 n2 n3
          go_wp2_with fail
          refine HWN.out.mono ?_
          intro e w8 he
          cases hw : ywantP [59] r5 with
          | error n =>
            rw [hw] at he
            obtain ⟨hf, rfl⟩ := he
            have e2 := HR5.out
            rw [hw] at e2
            dsimp only at e2
            subst e2
            have HF := Lib.hid (HSF.out _ (HA7.out.fr.trans (AFr.of_sfr hf)))
            clear hw hf
            unfold lineV
            go_wp2_with fail
            exact ⟨rfl, HF.out, rfl⟩
          | ok r8 =>
            rw [hw] at he
            obtain ⟨hf, rfl, hp⟩ := he
            have hlw := want_less hw
            have HA8 := Lib.hid (HA7.out.next HN.out hf hp (Nat.le_of_lt hlw))
            have e2 := HR5.out
            rw [hw] at e2
            dsimp only at e2
            have HI8 : Hid (LocI W p tb w.heap.size (w.heap.size + 2) (w.heap.size + 3) f s pa pc pl R g2 (some ⟨gn, 0, none⟩) cn (ll ++ [x]) r8 w8) := ⟨HA8.out, by have := HLR.out; have := HI.out.fuel; rw [List.length_cons] at this; omega, by have := HLR.out; have := HI.out.st; rw [List.length_cons] at this; omega, e2⟩
            have hm : leftLen p w8 < leftLen p wr := by
              rw [HI8.out.arg.par.len, HI.out.arg.par.len, List.length_cons]; have := HLR.out; omega
            have HM := Lib.hid hm
            clear hf hp hw e2 hlw hm c6
            go_wp2_with fail
            go_roundw
            case rel => exact ⟨g2, _, _, _, r8, HI8⟩
            case measure => exact HM.out
    | false =>
      have HTK := Lib.hid (psTake_no p tb u l5 [105, 110, 116] wr HI.out.arg.par hu)
      have e2 := HI.out.res
      rw [locals_end hu] at e2
      have HR5 := Lib.hid e2
      clear hu e2
      go_wp2_with fail
      refine HTK.out.mono ?_
      rintro e w4 ⟨rfl, hb⟩
      have HA4 := Lib.hid (HI.out.arg.old hb)
      have c6 := HA4.out.c.at 0 _ rfl
      have HS := Lib.hid ((yst_all f).2.1 (u :: l5) w4 p tb HI.out.st HA4.out.par)
      clear hb c5
      go_wp2_with fail
      refine HS.out.mono ?_
      intro e w6 he
      cases hs : stmtsP f [] (u :: l5) with
      | error n =>
        rw [hs] at he
        obtain ⟨hf, rfl⟩ := he
        have e2 := HR5.out
        rw [hs] at e2
        dsimp only at e2
        subst e2
        have HF := Lib.hid (HSF.out _ (HA4.out.fr.trans (AFr.of_sfr hf)))
        clear hs hf
        unfold lineV
        go_wp2_with fail
        exact ⟨rfl, HF.out, rfl⟩
      | ok q6 =>
        obtain ⟨b, r6⟩ := q6
        rw [hs] at he
        obtain ⟨hf, v, rfl, hp, hv⟩ := he
        have hv : StsAt (w4.heap.size ≤ ·) w6 b v := hv
        obtain ⟨b1, b2, rfl⟩ := hv.shape
        have e2 := HR5.out
        rw [hs] at e2
        dsimp only at e2
        subst e2
        have HA6 := Lib.hid (HA4.out.next HN.out hf hp (Nat.le_of_lt ((stmt_less f).2 _ _ _ _ hs)))
        have hbs : w.heap.size + 3 ≤ w4.heap.size := Nat.le_trans HN.out.bs HA4.out.fr.size
        have HV := Lib.hid (hv.up hbs)
        have hro := HRB.out.afr HA6.out.fr (by omega) (by have := HPW.out; omega) (by omega)
        have HRO := Lib.hid hro
        have o0 := HA6.out.o.at 0 _ rfl
        have o1 := HA6.out.o.at 1 _ rfl
        have o2 := HA6.out.o.at 2 _ rfl
        have o3 := HA6.out.o.at 3 _ rfl
        have of3 := HA6.out.o.fz 3
        have olt := HA6.out.o.lt
        clear hf hp hv hs c6 hbs hro HI HTK HA4 HS
        go_upto_region 8 with (fail)
        have HO7 := Lib.hid (HA6.out.o.set 3 (.slice b1 b.length b2))
        have HR7 := Lib.hid (HRO.out.other (show w.heap.size + 1 ≠ w.heap.size + 2 by omega) 3 (.slice b1 b.length b2))
        have HF7 := Lib.hid ((HSF.out _ HA6.out.fr).setNew (show w.heap.size ≤ w.heap.size + 2 by omega) 3 (.slice b1 b.length b2))
        have HP7 := Lib.hid (HA6.out.par.other (show p < w.heap.size + 2 by have := HPW.out; omega) 3 (.slice b1 b.length b2))
        have hkp : Keeps (w.heap.size + 3 ≤ ·) w6 (w6.setCell ⟨w.heap.size + 2, 3, none⟩ (.slice b1 b.length b2)) := keeps_set w6 (by show ¬ w.heap.size + 3 ≤ w.heap.size + 2; omega) 3 _
        have hpl2 : pl.length ≤ 1000000 := by have := HA6.out.len; omega
        have hll2 : ll.length ≤ 1000000 := by have := HA6.out.len; omega
        have HSP := Lib.hid ((HA6.out.rp.strs hpl2).keep hkp)
        have HSL := Lib.hid ((HA6.out.rl.strs hll2).keep hkp)
        have HSV := Lib.hid (HV.out.keep hkp)
        clear o0 o1 o2 o3 of3 olt hkp hpl2 hll2 HA6 HV HRO
        generalize w6.setCell ⟨w.heap.size + 2, 3, none⟩ (.slice b1 b.length b2) = V at *
        have o0 := HO7.out.at 0 _ rfl
        have o1 := HO7.out.at 1 _ rfl
        have o2 := HO7.out.at 2 _ rfl
        have o3 := HO7.out.at 3 _ rfl
        have x0 := HR7.out.at 0 _ rfl
        have x1 := HR7.out.at 1 _ rfl
        have x2 := HR7.out.at 2 _ rfl
        have x3 := HR7.out.at 3 _ rfl
        have z0 := HR7.out.fz 0
        have z1 := HR7.out.fz 1
        have z2 := HR7.out.fz 2
        have z3 := HR7.out.fz 3
        have xlt := HR7.out.lt
        go_wp2_with fail
        have HR8 := Lib.hid ((((HR7.out.set 0 (.string (strOf s))).set 1 (.slice pa pl.length pc)).set 2 (.slice la ll.length lc)).set 3 (.slice b1 b.length b2))
        have d0 := HR8.out.at 0 _ rfl
        have d1 := HR8.out.at 1 _ rfl
        have d2 := HR8.out.at 2 _ rfl
        have d3 := HR8.out.at 3 _ rfl
        have hk : ∀ (V : World) (i : Nat) (x : Value), Keeps (w.heap.size + 3 ≤ ·) V (V.setCell ⟨w.heap.size + 1, i, none⟩ x) := fun V i x => keeps_set V (by show ¬ w.heap.size + 3 ≤ w.heap.size + 1; omega) i x
        have hk4 := (((hk V 0 (.string (strOf s))).trans (hk _ 1 (.slice pa pl.length pc))).trans (hk _ 2 (.slice la ll.length lc))).trans (hk _ 3 (.slice b1 b.length b2))
        have up : ∀ b, w.heap.size + 3 ≤ b → w.heap.size ≤ b := fun b hb => by omega
        have hpr : p < w.heap.size + 1 := by have := HPW.out; omega
        exact bodyPost_ret (v := .agg #[.string (strOf s), .slice pa pl.length pc, .slice la ll.length lc, .slice b1 b.length b2]) (by simp [results, Tryz.results68, go_sem, d0, d1, d2, d3]) rfl ⟨(((HF7.out.setNew (by omega) _ _).setNew (by omega) _ _).setNew (by omega) _ _).setNew (by omega) _ _, _, rfl, (((HP7.out.other hpr _ _).other hpr _ _).other hpr _ _).other hpr _ _, _, _, _, rfl, (HSP.out.keep hk4).mono up, (HSL.out.keep hk4).mono up, (HSV.out.keep hk4).mono up⟩
end Go.Proofs.YtcfpfnoldgnloaaGreatDoor
