/-
  args: a call's parts. Conditions: the parser lies in memory; the contract of expr.
  commas, args: a call's parts, up to the parenthesis. Conditions: the parser lies in memory; the contract of expr.
  args, and so expr, climb, tight, named at every list of tokens. Condition: the parser lies in memory.
  inside: an expression in parentheses; the contracts of block, stmts, stmt, simple. Conditions: the parser lies in memory.
-/
import Derived.Test.YtcfpfnoldgnloaaGreatDoorPn07
set_option linter.unusedVariables false
set_option linter.unusedSimpArgs false
namespace Go.Proofs.YtcfpfnoldgnloaaGreatDoor
open Go.RowKit
set_option maxRecDepth 100000
set_option maxHeartbeats 4000000

/-- What the closure and its caller hold: the parser, the closure's two variables, the row. -/
structure YArgAt (W : World) (p tb cb ob base : Nat) (va : Option Addr) (vc : Nat) (ps : List (Ex × Value)) (l : List Tk) (wx : World) : Prop where
  fr : AFr p ob base W wx
  par : Ps wx p tb l
  c : OwnAt wx cb [.pointer (some ⟨p, 0, none⟩)] 64
  o : OwnAt wx ob [.slice va ps.length vc] 25
  row : ExsOwn wx base ps (.slice va ps.length vc)
  len : ps.length + l.length ≤ 1000000
structure ArgNo (p cb ob base : Nat) (W : World) : Prop where
  pc : p < cb
  co : cb < ob
  ob : ob < base
  bs : base ≤ W.heap.size
theorem YArgAt.old {W : World} {p tb cb ob base : Nat} {va : Option Addr} {vc : Nat} {ps : List (Ex × Value)} {l : List Tk} {wx w' : World} (h : YArgAt W p tb cb ob base va vc ps l wx) (hb : Below wx.heap.size wx w') : YArgAt W p tb cb ob base va vc ps l w' :=
  ⟨h.fr.old hb, h.par.old hb, h.c.old hb, h.o.old hb, h.row.old hb, h.len⟩
theorem YArgAt.next {W : World} {p tb cb ob base : Nat} {va : Option Addr} {vc : Nat} {ps : List (Ex × Value)} {l r : List Tk} {wx w' : World} (h : YArgAt W p tb cb ob base va vc ps l wx) (hn : ArgNo p cb ob base W) (hf : SFr p wx w') (hp : Ps w' p tb r) (hl : r.length ≤ l.length) : YArgAt W p tb cb ob base va vc ps r w' :=
  ⟨h.fr.trans (AFr.of_sfr hf), hp, h.c.sfr hf (by have := hn.pc; omega), h.o.sfr hf (by have := hn.pc; have := hn.co; omega), h.row.sfrB hf (by have := hn.pc; have := hn.co; have := hn.ob; omega), by have := h.len; omega⟩
/-- The closure gives one more part. -/
theorem args1_ok (f : Nat) (hE : ExprC f) (W wx : World) (p tb cb ob base : Nat) (va : Option Addr) (vc : Nat) (ps : List (Ex × Value)) (l r : List Tk) (x : Ex) (hn : ArgNo p cb ob base W) (h : YArgAt W p tb cb ob base va vc ps l wx) (hl : 4 * l.length + 2 ≤ f) (hx : climbP f 1 l = .ok (x, r)) :
    Calls Tryz.prog 224 #[.pointer (some ⟨ob, 0, none⟩), .pointer (some ⟨cb, 0, none⟩)] wx fun e w' => e = .returned (.tuple #[]) ∧ ∃ sa sc gn cn, YArgAt W p tb cb ob base (some ⟨gn, 0, none⟩) cn (ps ++ [(x, .slice sa x.args.length sc)]) r w' := by
  have hz : base ≤ wx.heap.size := Nat.le_trans hn.bs h.fr.size
  have hlen : r.length < l.length := (parse_less f).1 _ _ _ _ hx
  have key := reg_Y1 p tb cb ob base va vc ps l r x wx h.par h.c h.o h.row hn.pc hn.co hn.ob hz (by have := h.len; omega) (fun w1 h1 => by
    have h2 := hE l w1 p tb hl h1
    rw [hx] at h2
    refine h2.mono ?_
    rintro e w' ⟨hf, v, rfl, hp, s, rfl, hs, hm⟩
    exact ⟨s, rfl, hf, hp, hs, hm⟩) undef undef undef undef undef undef undef _ _ (fun _ _ q => q) (fun _ _ q => q)
  have HFR := Lib.hid h.fr
  have HLN := Lib.hid h.len
  have HLL := Lib.hid hlen
  clear h hE hl hx hz hlen hn
  go_enter Tryz.func224, Tryz.ntmps224
  refine wp_mono key ?_
  intro e a' w' hq
  cases e with
  | normal =>
    obtain ⟨sa, sc, nb, gn, cn, ⟨h1, h2, h3, h4, h5⟩, rfl⟩ := hq
    have hl1 : (ps ++ [(x, Value.slice sa x.args.length sc)]).length = ps.length + 1 := by simp
    refine bodyPost_end (v := .tuple #[]) (by simp [results, Tryz.results224, go_sem]) rfl ⟨rfl, sa, sc, gn, cn, HFR.out.trans h1, h2, h3, ?_, ?_, ?_⟩
    · rw [hl1]; exact h4
    · rw [hl1]; exact h5
    · rw [hl1]; have := HLN.out; have := HLL.out; omega
  | _ => exact False.elim hq
/-- Before the panic: what is done. -/
structure ErrI (W : World) (p tb cb ob base : Nat) (va : Option Addr) (vc : Nat) (ps : List (Ex × Value)) (l : List Tk) (L : Nat → Bool) (z2 z3 : Value) (wx : World) : Prop where
  at0 : YArgAt W p tb cb ob base va vc ps l wx
  l2 : L 2 = false
  l5 : L 5 = false
  c0 : L 0 = true → z2 = .slice va ps.length vc
  c1 : L 1 = true → z3 = .pointer (some ⟨p, 0, none⟩)
theorem args1_err (f : Nat) (hE : ExprC f) (W wx : World) (p tb cb ob base : Nat) (va : Option Addr) (vc : Nat) (ps : List (Ex × Value)) (l : List Tk) (n : Int) (hn : ArgNo p cb ob base W) (h : YArgAt W p tb cb ob base va vc ps l wx) (hl : 4 * l.length + 2 ≤ f) (hx : climbP f 1 l = .error n) :
    Calls Tryz.prog 224 #[.pointer (some ⟨ob, 0, none⟩), .pointer (some ⟨cb, 0, none⟩)] wx fun e w' => e = lineV n ∧ AFr p ob base W w' := by
  have HE : Hid (∀ w1, Ps w1 p tb l → Calls Tryz.prog 27 #[.pointer (some ⟨p, 0, none⟩)] w1 fun e w' => e = lineV n ∧ SFr p w1 w') := fun w1 h1 => by
    have h2 := hE l w1 p tb hl h1
    rw [hx] at h2
    refine h2.mono ?_
    rintro e w' ⟨hf, rfl⟩
    exact ⟨rfl, hf⟩
  have HN := Lib.hid hn
  have HA := Lib.hid h
  clear hE hl hx hn h
  go_enter Tryz.func224, Tryz.ntmps224
  refine region_by (by kernel_rfl) (by kernel_rfl) (fun L a' w' => ∃ z2 z3 z4 z5 z6 z7 z8 : Value, ErrI W p tb cb ob base va vc ps l L z2 z3 w' ∧ a' = ⟨[.pointer (some ⟨ob, 0, none⟩), .pointer (some ⟨cb, 0, none⟩), z2, z3, z4, z5, z6, z7, z8].toArray, []⟩) ?_ ?_ ?_
  · exact ⟨undef, undef, undef, undef, undef, undef, undef, ⟨HA.out.old (Below.refl _ _).drew, rfl, rfl, (fun h => by cases h), (fun h => by cases h)⟩, rfl⟩
  · intro L act wx k hI hk hl hd
    obtain ⟨z2, z3, z4, z5, z6, z7, z8, hV, rfl⟩ := hI
    have hk : k = 0 ∨ k = 1 ∨ k = 2 ∨ k = 3 ∨ k = 4 ∨ k = 5 ∨ k = 6 ∨ k = 7 ∨ k = 8 := by
      have : k < 9 := hk
      omega
    rcases hk with rfl | rfl | rfl | rfl | rfl | rfl | rfl | rfl | rfl
    · have h0 := hV.at0.o.at 0 _ rfl
      refine op_at _ rfl rfl (fun K' hK => ?_)
      conv => arg 2; whnf
      go_wp2_with fail
      exact ⟨.slice va ps.length vc, z3, z4, z5, z6, z7, z8, ⟨hV.at0, (upd_ne L (by decide)).trans hV.l2, (upd_ne L (by decide)).trans hV.l5, (fun _ => rfl), (kc hV.c1)⟩, rfl⟩
    · have h0 := hV.at0.c.at 0 _ rfl
      refine op_at _ rfl rfl (fun K' hK => ?_)
      conv => arg 2; whnf
      go_wp2_with fail
      exact ⟨z2, .pointer (some ⟨p, 0, none⟩), z4, z5, z6, z7, z8, ⟨hV.at0, (upd_ne L (by decide)).trans hV.l2, (upd_ne L (by decide)).trans hV.l5, (kc hV.c0), (fun _ => rfl)⟩, rfl⟩
    · have d1 : L 1 = true := hd _ rfl ⟨1, .data⟩ (by simp) rfl
      obtain rfl := (hV.c1 d1).symm
      have HV := Lib.hid hV.at0
      clear hV hd
      refine op_at _ rfl rfl (fun K' hK => ?_)
      clear hK
      conv => arg 2; whnf
      go_wp2_with fail
      refine (HE.out _ HV.out.par).mono ?_
      rintro e w7 ⟨rfl, hf⟩
      unfold lineV
      have HF := Lib.hid (HV.out.fr.trans (AFr.of_sfr hf))
      clear hf
      go_wp2_with fail
      exact ⟨rfl, rfl, HF.out⟩
    · have d0 : L 0 = true := hd _ rfl ⟨0, .data⟩ (by simp) rfl
      obtain rfl := (hV.c0 d0).symm
      refine op_at _ rfl rfl (fun K' hK => ?_)
      conv => arg 2; whnf
      go_wp2_with fail
      exact ⟨.slice va ps.length vc, z3, z4, .int .i64 ps.length, z6, z7, z8, ⟨hV.at0, (upd_ne L (by decide)).trans hV.l2, (upd_ne L (by decide)).trans hV.l5, (kc hV.c0), (kc hV.c1)⟩, rfl⟩
    · have hal : Below wx.heap.size wx (wx.alloc (.cells #[.int .i64 0, .int .i64 0, .int .i64 0, .string ⟨#[]⟩, .slice none 0 0] 27)) := (Below.refl _ _).alloc (Nat.le_refl _) _
      refine op_at _ rfl rfl (fun K' hK => ?_)
      conv => arg 2; whnf
      go_wp2_with fail
      exact ⟨z2, z3, z4, z5, .slice (some ⟨wx.heap.size, 0, none⟩) 1 1, z7, z8, ⟨hV.at0.old hal, (upd_ne L (by decide)).trans hV.l2, (upd_ne L (by decide)).trans hV.l5, (kc hV.c0), (kc hV.c1)⟩, rfl⟩
    · have d2 : L 2 = true := hd _ rfl ⟨2, .chain⟩ (by simp) rfl
      rw [hV.l2] at d2; cases d2
    · have d5 : L 5 = true := hd _ rfl ⟨5, .data⟩ (by simp) rfl
      rw [hV.l5] at d5; cases d5
    · have d2 : L 2 = true := hd _ rfl ⟨2, .data⟩ (by simp) rfl
      rw [hV.l2] at d2; cases d2
    · have d5 : L 5 = true := hd _ rfl ⟨5, .data⟩ (by simp) rfl
      rw [hV.l5] at d5; cases d5
  · intro L act wx hI hall
    obtain ⟨z2, z3, z4, z5, z6, z7, z8, hV, rfl⟩ := hI
    have := hall 2 (by decide)
    rw [hV.l2] at this; cases this
end Go.Proofs.YtcfpfnoldgnloaaGreatDoor

namespace Go.Proofs.YtcfpfnoldgnloaaGreatDoor
open Go.RowKit
set_option maxRecDepth 100000
set_option maxHeartbeats 4000000

/-- Behind one part: another one, or the end. -/
def tailP (g : Nat) (a : List Ex) (l : List Tk) : PR (List Ex) := match takeP [44] l with
  | some r => moreP g a r
  | none => match ywantP [41] l with
    | .error e => .error e
    | .ok r => .ok (a, r)
theorem more_tail {g : Nat} {a : List Ex} {l r : List Tk} {x : Ex} (h : climbP g 1 l = .ok (x, r)) : moreP (g + 1) a l = tailP g (a ++ [x]) r := by
  rw [moreP, h]; rfl
theorem more_err {g : Nat} {a : List Ex} {l : List Tk} {n : Int} (h : climbP g 1 l = .error n) : moreP (g + 1) a l = .error n := by
  rw [moreP, h]
def CommasR (W : World) (p tb cb ob base : Nat) (R : PR (List Ex)) (e : Ending) (w' : World) : Prop :=
  match R with
  | .ok (a, r) => e = .returned (.tuple #[]) ∧ ∃ va vc ps, ps.map (·.1) = a ∧ YArgAt W p tb cb ob base va vc ps r w'
  | .error n => e = lineV n ∧ AFr p ob base W w'
def one1 (ob cb : Nat) : Value := .func (.func 224) #[] #[.pointer (some ⟨ob, 0, none⟩), .pointer (some ⟨cb, 0, none⟩)]
theorem commas1_nil (f : Nat) (w : World) (p tb cb ob base : Nat) (t : Tk) (r : List Tk) (hn : ArgNo p cb ob base w) (h : YArgAt w p tb cb ob base none 0 [] (t :: r) w) (y : isP [41] t = true) :
    Calls Tryz.prog 125 #[.pointer (some ⟨p, 0, none⟩), one1 ob cb] w (CommasR w p tb cb ob base (argsP (f + 1) (t :: r))) := by
  have e1 : argsP (f + 1) (t :: r) = .ok ([], r) := by rw [argsP, take_yes y]
  rw [e1]
  have HT := Lib.hid (psTake_yes p tb t r [41] w h.par y)
  have HA := Lib.hid h
  have HN := Lib.hid hn
  clear e1 y h hn
  unfold one1
  go_enter Tryz.func125, Tryz.ntmps125
  go_wp2_with fail
  refine HT.out.mono ?_
  rintro e w1 ⟨rfl, hf, hp⟩
  have HA1 := Lib.hid (HA.out.next HN.out hf hp (by simp))
  clear hf hp
  go_wp2_with fail
  first
    | (refine bodyPost_ret (results_none rfl _ _ _) rfl ?_)
    | go_end0
  exact ⟨rfl, none, 0, [], rfl, HA1.out⟩
/-- What commas holds at the head of its loop. -/
structure CommI (w : World) (p tb cb ob base : Nat) (f : Nat) (R : PR (List Ex)) (g : Nat) (va : Option Addr) (vc : Nat) (ps : List (Ex × Value)) (l : List Tk) (wr : World) : Prop where
  arg : YArgAt w p tb cb ob base va vc ps l wr
  le : g ≤ f
  fuel : 4 * l.length + 2 ≤ g
  res : tailP g (ps.map (·.1)) l = R
theorem commas1_more (f : Nat) (ih : ∀ g, g ≤ f → ExprC g) (w : World) (p tb cb ob base : Nat) (t : Tk) (r : List Tk) (hn : ArgNo p cb ob base w) (h : YArgAt w p tb cb ob base none 0 [] (t :: r) w) (hl : 4 * (t :: r).length + 4 ≤ f + 1) (n : isP [41] t = false) :
    Calls Tryz.prog 125 #[.pointer (some ⟨p, 0, none⟩), one1 ob cb] w (CommasR w p tb cb ob base (argsP (f + 1) (t :: r))) := by
  have e1 : argsP (f + 1) (t :: r) = moreP f [] (t :: r) := by rw [argsP, take_no n]
  rw [e1]
  obtain ⟨g, rfl⟩ : ∃ g, f = g + 1 := ⟨f - 1, by omega⟩
  obtain ⟨R, hR⟩ : ∃ R, moreP (g + 1) [] (t :: r) = R := ⟨_, rfl⟩
  rw [hR]
  have HR := Lib.hid hR
  have HT := Lib.hid (psTake_no p tb t r [41] w h.par n)
  have HA := Lib.hid h
  have HN := Lib.hid hn
  have HFU := Lib.hid hl
  have IH := Lib.hid ih
  clear e1 n h hn hR hl ih
  unfold one1
  go_enter Tryz.func125, Tryz.ntmps125
  go_wp2_with fail
  refine HT.out.mono ?_
  rintro e w1 ⟨rfl, hb⟩
  have HA1 := Lib.hid (HA.out.old hb)
  clear hb
  have HX : Hid (∀ g', g' ≤ g + 1 → ∀ (va : Option Addr) (vc : Nat) (ps : List (Ex × Value)) (l : List Tk) (wx : World), YArgAt w p tb cb ob base va vc ps l wx → 4 * l.length + 2 ≤ g' → (∀ n, climbP g' 1 l = .error n → Calls Tryz.prog 224 #[.pointer (some ⟨ob, 0, none⟩), .pointer (some ⟨cb, 0, none⟩)] wx fun e w' => e = lineV n ∧ AFr p ob base w w') ∧
      (∀ x q, climbP g' 1 l = .ok (x, q) → Calls Tryz.prog 224 #[.pointer (some ⟨ob, 0, none⟩), .pointer (some ⟨cb, 0, none⟩)] wx fun e w' => e = .returned (.tuple #[]) ∧ ∃ sa sc gn cn, YArgAt w p tb cb ob base (some ⟨gn, 0, none⟩) cn (ps ++ [(x, .slice sa x.args.length sc)]) q w')) :=
    fun g' hg va vc ps l wx ha hl => ⟨fun n hx => args1_err g' (IH.out g' hg) w wx p tb cb ob base va vc ps l n HN.out ha hl hx, fun x q hx => args1_ok g' (IH.out g' hg) w wx p tb cb ob base va vc ps l q x HN.out ha hl hx⟩
  go_wp2_with fail
  cases hc : climbP g 1 (t :: r) with
  | error n =>
    have hq := (HX.out g (by omega) none 0 [] (t :: r) w1 HA1.out (by have := HFU.out; omega)).1 n hc
    have e2 := HR.out
    rw [more_err hc] at e2
    subst e2
    clear hc
    refine hq.mono ?_
    rintro e w2 ⟨rfl, hf⟩
    have HF := Lib.hid hf
    clear hf
    unfold lineV
    go_wp2_with fail
    exact ⟨rfl, rfl, HF.out⟩
  | ok q =>
    obtain ⟨x, q⟩ := q
    have hq := (HX.out g (by omega) none 0 [] (t :: r) w1 HA1.out (by have := HFU.out; omega)).2 x q hc
    have e2 := HR.out
    rw [more_tail hc] at e2
    have hlen := (parse_less g).1 _ _ _ _ hc
    refine hq.mono ?_
    rintro e w2 ⟨rfl, sa, sc, gn, cn, ha⟩
    have HI0 : Hid (CommI w p tb cb ob base (g + 1) R g (some ⟨gn, 0, none⟩) cn [(x, .slice sa x.args.length sc)] q w2) := ⟨ha, by omega, by have := HFU.out; omega, e2⟩
    clear ha hc hlen e2
    go_wp2_with fail
    go_loopw [] (fun wr => ∃ (g' : Nat) (va : Option Addr) (vc : Nat) (ps : List (Ex × Value)) (l : List Tk), Hid (CommI w p tb cb ob base (g + 1) R g' va vc ps l wr)) (fun wr => leftLen p wr)
    case atStart => exact ⟨g, _, _, _, q, HI0⟩
    case round =>
      obtain ⟨g', va, vc, ps, l, HI⟩ := hrel
      clear HI0
      obtain ⟨u, l, rfl⟩ := HI.out.arg.par.ends.ne
      cases hu : isP [44] u with
      | true =>
        have HTK := Lib.hid (psTake_yes p tb u l [44] wr HI.out.arg.par hu)
        have hres : moreP g' (ps.map (·.1)) l = R := by
          have := HI.out.res
          unfold tailP at this
          rw [take_yes hu] at this
          exact this
        clear hu
        go_wp2_with fail
        refine HTK.out.mono ?_
        rintro e w3 ⟨rfl, hf, hp⟩
        have HA3 := Lib.hid (HI.out.arg.next HN.out hf hp (by simp))
        clear hf hp
        obtain ⟨g2, hg2⟩ : ∃ g2, g' = g2 + 1 := ⟨g' - 1, by have := HI.out.fuel; omega⟩
        subst hg2
        have hfu := HI.out.fuel
        rw [List.length_cons] at hfu
        have hle := HI.out.le
        go_wp2_with fail
        cases hc : climbP g2 1 l with
        | error n =>
          have hq := (HX.out g2 (by omega) va vc ps l w3 HA3.out (by omega)).1 n hc
          rw [more_err hc] at hres
          subst hres
          clear hc
          refine hq.mono ?_
          rintro e w4 ⟨rfl, hf⟩
          have HF := Lib.hid hf
          clear hf
          unfold lineV
          go_wp2_with fail
          exact ⟨rfl, rfl, HF.out⟩
        | ok q2 =>
          obtain ⟨y, q2⟩ := q2
          have hq := (HX.out g2 (by omega) va vc ps l w3 HA3.out (by omega)).2 y q2 hc
          rw [more_tail hc] at hres
          have hlen := (parse_less g2).1 _ _ _ _ hc
          refine hq.mono ?_
          rintro e w4 ⟨rfl, sa2, sc2, gn2, cn2, ha⟩
          have HI4 : Hid (CommI w p tb cb ob base (g + 1) R g2 (some ⟨gn2, 0, none⟩) cn2 (ps ++ [(y, .slice sa2 y.args.length sc2)]) q2 w4) := ⟨ha, by omega, by omega, by rw [List.map_append]; exact hres⟩
          have hm : leftLen p w4 < leftLen p wr := by
            rw [HI4.out.arg.par.len, HI.out.arg.par.len, List.length_cons]; omega
          have HM := Lib.hid hm
          clear ha hc hlen hres hm hfu hle hq
          go_wp2_with fail
          go_roundw
          case rel => exact ⟨g2, _, _, _, q2, HI4⟩
          case measure => exact HM.out
      | false =>
        have HTK := Lib.hid (psTake_no p tb u l [44] wr HI.out.arg.par hu)
        have hres : (match ywantP [41] (u :: l) with | .error e => .error e | .ok r => .ok (ps.map (·.1), r)) = R := by
          have := HI.out.res
          unfold tailP at this
          rw [take_no hu] at this
          exact this
        clear hu
        go_wp2_with fail
        refine HTK.out.mono ?_
        rintro e w3 ⟨rfl, hb⟩
        have HA3 := Lib.hid (HI.out.arg.old hb)
        have hba : Below w3.heap.size w3 (w3.alloc (.cells #[.string ⟨#[41]⟩] 9)) := (Below.refl _ _).alloc (Nat.le_refl _) _
        have HA4 := Lib.hid (HA3.out.old hba)
        have HWN := Lib.hid (psWant_one p tb (u :: l) [41] _ HA4.out.par w3.heap.size 1 ((OwnAt.new w3 [.string ⟨#[41]⟩] 9).at 0 _ rfl))
        clear hb hba
        go_wp2_with fail
        refine HWN.out.mono ?_
        intro e w5 he
        cases hw : ywantP [41] (u :: l) with
        | error n =>
          rw [hw] at he hres
          obtain ⟨hf, rfl⟩ := he
          have HF := Lib.hid (HA4.out.fr.trans (AFr.of_sfr hf))
          dsimp only at hres
          subst hres
          clear hf hw
          unfold lineV
          go_wp2_with fail
          exact ⟨rfl, rfl, HF.out⟩
        | ok q3 =>
          rw [hw] at he hres
          obtain ⟨hf, rfl, hp⟩ := he
          have HA5 := Lib.hid (HA4.out.next HN.out hf hp (Nat.le_of_lt (want_less hw)))
          dsimp only at hres
          subst hres
          clear hf hw hp
          go_wp2_with fail
          first
            | go_end0
            | (refine bodyPost_ret (results_none rfl _ _ _) rfl ?_)
          exact ⟨rfl, va, vc, ps, rfl, HA5.out⟩
end Go.Proofs.YtcfpfnoldgnloaaGreatDoor

namespace Go.Proofs.YtcfpfnoldgnloaaGreatDoor
open Go.RowKit
set_option maxRecDepth 100000
set_option maxHeartbeats 4000000

theorem args_step (f : Nat) (ih : ∀ g, g ≤ f → ExprC g) : ArgsC (f + 1) := by
  intro l w p tb hl h
  have hmf : ∀ (fn : Fn) (first cap : Array Value) (w : World), (Instr.makeFunc fn first cap).run Tryz.prog w = .ok (.func fn first cap) w := fun _ _ _ _ => rfl
  have hb1 : Below w.heap.size w ((w.alloc (.cells #[.pointer (some ⟨p, 0, none⟩)] 64)).alloc (.cells #[.slice none 0 0] 25)) := ((Below.refl _ _).alloc (Nat.le_refl _) _).alloc (by simp) _
  have hc1 := (OwnAt.new w [.pointer (some ⟨p, 0, none⟩)] 64).alloc (.cells #[.slice none 0 0] 25)
  have ho1 := OwnAt.new (w.alloc (.cells #[.pointer (some ⟨p, 0, none⟩)] 64)) [.slice none 0 0] 25
  rw [show (w.alloc (.cells #[.pointer (some ⟨p, 0, none⟩)] 64)).heap.size = w.heap.size + 1 by simp] at ho1
  have hp1 := h.old hb1
  have hlen : l.length ≤ 1000000 := by obtain ⟨_, _, h2⟩ := h; exact h2.fit
  have HB := Lib.hid hb1
  have hpl := h.lt
  obtain ⟨W, hW⟩ : ∃ W, (w.alloc (.cells #[.pointer (some ⟨p, 0, none⟩)] 64)).alloc (.cells #[.slice none 0 0] 25) = W := ⟨_, rfl⟩
  have hws : W.heap.size = w.heap.size + 2 := by rw [← hW]; simp
  rw [hW] at hc1 ho1 hp1 HB
  have hno : ArgNo p w.heap.size (w.heap.size + 1) (w.heap.size + 2) W := ⟨hpl, by omega, by omega, by omega⟩
  have hat : YArgAt W p tb w.heap.size (w.heap.size + 1) (w.heap.size + 2) none 0 [] l W := ⟨AFr.refl _ _ _ _, hp1, hc1, ho1, ExsOwn.zero _ _, by simpa using hlen⟩
  have key : Calls Tryz.prog 125 #[.pointer (some ⟨p, 0, none⟩), one1 (w.heap.size + 1) w.heap.size] W (CommasR W p tb w.heap.size (w.heap.size + 1) (w.heap.size + 2) (argsP (f + 1) l)) := by
    obtain ⟨t, r, rfl⟩ := hp1.ends.ne
    cases y : isP [41] t with
    | true => exact commas1_nil f W p tb _ _ _ t r hno hat y
    | false => exact commas1_more f ih W p tb _ _ _ t r hno hat hl y
  have HK := Lib.hid key
  have HPL := Lib.hid hpl
  have HLN := Lib.hid hlen
  have HWS := Lib.hid hws
  have hc0 := hc1.at 0 _ rfl
  have HPS := Lib.hid h
  have hwl : w.heap.size < W.heap.size := by omega
  clear key hno hat hp1 hb1 hc1 ho1 h hlen hpl hws
  unfold one1 at HK
  obtain ⟨R, hR⟩ : ∃ R, argsP (f + 1) l = R := ⟨_, rfl⟩
  rw [hR] at HK ⊢
  have HRR := Lib.hid hR
  clear hR
  go_enter Tryz.func201, Tryz.ntmps201
  go_upto_region 1 with (fail)
  clear hW
  go_wp2_with fail
  refine HK.out.mono ?_
  intro e w1 he
  cases R with
  | error n =>
    obtain ⟨rfl, hf⟩ := he
    have HF : Hid (SFr p w w1) := ⟨hf.os.trans HB.out.os, hf.tape.trans HB.out.tape, hf.output.trans HB.out.output, Nat.le_trans HB.out.size hf.size, fun k hk hp => (hf.block k (by have := HWS.out; omega) (by omega) hp (by omega)).trans (HB.out.block k hk)⟩
    clear hf
    unfold lineV
    go_wp2_with fail
    exact ⟨rfl, HF.out, rfl⟩
  | ok q =>
    obtain ⟨a, r⟩ := q
    obtain ⟨rfl, va, vc, ps, rfl, ha⟩ := he
    have hf := ha.fr
    have HF : Hid (SFr p w w1) := ⟨hf.os.trans HB.out.os, hf.tape.trans HB.out.tape, hf.output.trans HB.out.output, Nat.le_trans HB.out.size hf.size, fun k hk hp => (hf.block k (by have := HWS.out; omega) (by omega) hp (by omega)).trans (HB.out.block k hk)⟩
    have HA := Lib.hid ha
    clear hf ha
    go_wp2_with fail
    have d0 := HA.out.o.at 0 _ rfl
    have hex := HA.out.row.exs (show ps.length ≤ 140737488355328 by have := HA.out.len; omega)
    exact bodyPost_ret (v := .slice va ps.length vc) (by simp [results, Tryz.results201, go_sem, d0]) rfl ⟨HF.out, _, rfl, HA.out.par, hex.up (by omega)⟩
/-- Every method for expressions. -/
theorem yex_all : ∀ f : Nat, ClimbC f ∧ ExprC f ∧ TightC f ∧ NamedC f ∧ ArgsC f
  | 0 => ⟨fun lv l w p tb h => by omega, fun l w p tb h => by omega, fun l w p tb h => by omega, fun s l w p tb h => by omega, fun l w p tb h => by omega⟩
  | f + 1 => by
    have ih : ∀ g, g ≤ f → ClimbC g ∧ ExprC g ∧ TightC g ∧ NamedC g ∧ ArgsC g := fun g hg => yex_all g
    obtain ⟨hC, hE, hT, hN, hA⟩ := ih f (Nat.le_refl _)
    have hc := climb_step f hT (fun g hg => (ih g hg).1)
    exact ⟨hc, expr_of (f + 1) hc, tight_step f hT hE hN, named_step f hA hE, args_step f (fun g hg => (ih g hg).2.1)⟩
end Go.Proofs.YtcfpfnoldgnloaaGreatDoor

namespace Go.Proofs.YtcfpfnoldgnloaaGreatDoor
open Go.RowKit
set_option maxRecDepth 100000
set_option maxHeartbeats 4000000

/-- New statements; a new statement. -/
abbrev ystV (x : St) (a t e : Value) : Value := .agg #[.int .i64 x.kind, .string (strOf x.name), a, t, e]
def StsH (B : Nat) (l : List St) (v : Value) (w : World) : Prop := StsAt (B ≤ ·) w l v
def StH (B : Nat) (x : St) (v : Value) (w : World) : Prop := ∃ a t e, v = ystV x a t e ∧ ExsAt (B ≤ ·) w x.args a ∧ StsAt (B ≤ ·) w x.thn t ∧ StsAt (B ≤ ·) w x.els e
def InH (B : Nat) (x : Ex) (v : Value) (w : World) : Prop := ExsAt (B ≤ ·) w [x] v
def blockP (f : Nat) (l : List Tk) : PR (List St) := match ywantP [123] l with
  | .error e => .error e
  | .ok r => stmtsP f [] r
def InsideC (f : Nat) : Prop := ∀ l w p tb, 4 * l.length ≤ f → Ps w p tb l → Calls Tryz.prog 202 #[.pointer (some ⟨p, 0, none⟩)] w (PEnd (InH w.heap.size) w p tb (insideP f l))
def SimpleC (f : Nat) : Prop := ∀ l w p tb, 4 * l.length ≤ f → Ps w p tb l → Calls Tryz.prog 204 #[.pointer (some ⟨p, 0, none⟩)] w (PEnd (StH w.heap.size) w p tb (simpleP f l))
def BlockC (f : Nat) : Prop := ∀ l w p tb, 4 * l.length ≤ f → Ps w p tb l → Calls Tryz.prog 203 #[.pointer (some ⟨p, 0, none⟩)] w (PEnd (StsH w.heap.size) w p tb (blockP f l))
def StmtC (f : Nat) : Prop := ∀ l w p tb, 4 * l.length + 1 ≤ f → Ps w p tb l → Calls Tryz.prog 165 #[.pointer (some ⟨p, 0, none⟩)] w (PEnd (StH w.heap.size) w p tb (stmtP f l))
def StmtsC (f : Nat) : Prop := ∀ l w p tb, 4 * l.length + 2 ≤ f → Ps w p tb l → Calls Tryz.prog 127 #[.pointer (some ⟨p, 0, none⟩)] w (PEnd (StsH w.heap.size) w p tb (stmtsP f [] l))
theorem StsAt.up {B B' : Nat} {w : World} {l : List St} {v : Value} (h : StsAt (B ≤ ·) w l v) (hb : B' ≤ B) : StsAt (B' ≤ ·) w l v := h.mono (fun b hx => Nat.le_trans hb hx)
theorem inside_of (f : Nat) : InsideC f := by
  intro l w p tb hl h
  have HPW := Lib.hid h.lt
  have HNE : Hid (w.heap.size ≠ p) := by show _ ≠ _; have := h.lt; omega
  have HF0 := Lib.hid (SFr.refl p w)
  have HP0 := Lib.hid h
  obtain ⟨R, hR⟩ : ∃ R, insideP f l = R := ⟨_, rfl⟩
  rw [hR]
  have HRR := Lib.hid hR
  clear hR
  have hE := (yex_all f).2.1
  have HE := Lib.hid hE
  have HL := Lib.hid hl
  clear hl hE
  clear h
  go_enter Tryz.func202, Tryz.ntmps202
  have hba : Below w.heap.size w (w.alloc (.cells #[.string ⟨#[40]⟩] 9)) := (Below.refl _ _).alloc (Nat.le_refl _) _
  have HF1 := Lib.hid (HF0.out.trans (SFr.of_below hba))
  have HP1 := Lib.hid (HP0.out.old hba)
  have HWN := Lib.hid (psWant_one p tb l [40] _ HP1.out w.heap.size 1 ((OwnAt.new w [.string ⟨#[40]⟩] 9).at 0 _ rfl))
  clear hba
  go_wp2_with fail
  refine (HWN.out).mono ?_
  intro e w2 he
  cases hA : ywantP [40] l with
  | error n =>
    rw [hA] at he
    obtain ⟨hf, rfl⟩ := he
    have HF := Lib.hid (HF1.out.trans hf)
    have e1 : insideP f l = .error n := by unfold insideP; rw [hA]
    have e2 := HRR.out.symm.trans e1
    subst e2
    clear e1 hf
    unfold lineV
    go_wp2_with fail
    exact ⟨rfl, HF.out, rfl⟩
  | ok r =>
    rw [hA] at he
    obtain ⟨hf, rfl, hp⟩ := he
    have HF2 := Lib.hid (HF1.out.trans hf)
    have HP2 := Lib.hid hp
    clear hf hp
    have HA2 := Lib.hid hA
    clear hA
    clear HWN
    have hlr := want_less HA2.out
    have HC : Hid (∀ w1, Ps w1 p tb r → _) := fun w1 h1 => HE.out r w1 p tb (by have := HL.out; omega) h1
    clear hlr
    go_wp2_with fail
    refine (HC.out _ HP2.out).mono ?_
    intro e w3 he
    cases hA : climbP f 1 r with
    | error n =>
      rw [hA] at he
      obtain ⟨hf, rfl⟩ := he
      have HF := Lib.hid (HF2.out.trans hf)
      have e1 : insideP f l = .error n := by unfold insideP; rw [HA2.out]; dsimp only; rw [hA]
      have e2 := HRR.out.symm.trans e1
      subst e2
      clear e1 hf
      unfold lineV
      go_wp2_with fail
      exact ⟨rfl, HF.out, rfl⟩
    | ok q =>
      obtain ⟨x, r2⟩ := q
      rw [hA] at he
      obtain ⟨hf, v, rfl, hp, hv⟩ := he
      obtain ⟨s3, rfl, hx, hn⟩ := hv
      obtain ⟨a1, a2, rfl⟩ := hx.shape
      have HX3 := Lib.hid (hx.up HF2.out.size)
      have HN := Lib.hid hn
      clear hx hn
      have HF3 := Lib.hid (HF2.out.trans hf)
      have HP3 := Lib.hid hp
      clear hf hp
      have HA3 := Lib.hid hA
      clear hA
      go_upto_region 3 with (fail)
      obtain ⟨W, hW⟩ : ∃ W, w3.alloc (.cells #[.int .i64 x.kind, .int .i64 x.op, .int .i64 x.n, .string (strOf x.name), .slice a1 x.args.length a2] 27) = W := ⟨_, rfl⟩
      rw [hW]
      have hba : Below w3.heap.size w3 W := hW ▸ (Below.refl _ _).alloc (Nat.le_refl _) _
      have HF4 := Lib.hid (HF3.out.trans (SFr.of_below hba))
      have HP4 := Lib.hid (HP3.out.old hba)
      have HX4 := Lib.hid (HX3.out.old hba)
      have HE4 := Lib.hid (hW ▸ OwnAt.new w3 [.int .i64 x.kind, .int .i64 x.op, .int .i64 x.n, .string (strOf x.name), .slice a1 x.args.length a2] 27)
      have HEP : Hid (w3.heap.size ≠ p) := by show _ ≠ _; have := HP3.out.lt; omega
      clear hba hW
      obtain ⟨w4, hWW⟩ : ∃ w4, w4 = W := ⟨_, rfl⟩
      subst hWW
      have hba : Below w4.heap.size w4 (w4.alloc (.cells #[.string ⟨#[41]⟩] 9)) := (Below.refl _ _).alloc (Nat.le_refl _) _
      have HF5 := Lib.hid (HF4.out.trans (SFr.of_below hba))
      have HP5 := Lib.hid (HP4.out.old hba)
      have HE5 := Lib.hid (HE4.out.old hba)
      have HX5 := Lib.hid (HX4.out.old hba)
      have HWN := Lib.hid (psWant_one p tb r2 [41] _ HP5.out w4.heap.size 1 ((OwnAt.new w4 [.string ⟨#[41]⟩] 9).at 0 _ rfl))
      clear hba
      go_wp2_with fail
      refine (HWN.out).mono ?_
      intro e w6 he
      cases hA : ywantP [41] r2 with
      | error n =>
        rw [hA] at he
        obtain ⟨hf, rfl⟩ := he
        have HF := Lib.hid (HF5.out.trans hf)
        have e1 : insideP f l = .error n := by unfold insideP; rw [HA2.out]; dsimp only; rw [HA3.out]; dsimp only; rw [hA]
        have e2 := HRR.out.symm.trans e1
        subst e2
        clear e1 hf
        unfold lineV
        go_wp2_with fail
        exact ⟨rfl, HF.out, rfl⟩
      | ok r3 =>
        rw [hA] at he
        obtain ⟨hf, rfl, hp⟩ := he
        have HF6 := Lib.hid (HF5.out.trans hf)
        have HP6 := Lib.hid hp
        have HE6 := Lib.hid (HE5.out.sfr hf HEP.out)
        have HX6 := Lib.hid (HX5.out.keep (hf.fresh (by have := HPW.out; omega)))
        clear hf hp
        have HA6 := Lib.hid hA
        clear hA
        clear HWN
        obtain ⟨⟨e0, e1, e2, e3, e4⟩, ef0, ef1, ef2, ef3, ef4⟩ := cells5 HE6.out
        have elt := HE6.out.lt
        have HB := Lib.hid (ex_box HX6.out HN.out HF6.out.size)
        have HF7 : Hid (SFr p w (w6.alloc (.cells #[.int .i64 x.kind, .int .i64 x.op, .int .i64 x.n, .string (strOf x.name), .slice a1 x.args.length a2] 27))) := HF6.out.trans (SFr.of_below ((Below.refl _ _).alloc (Nat.le_refl _) _))
        have HP7 := Lib.hid (HP6.out.alloc (.cells #[.int .i64 x.kind, .int .i64 x.op, .int .i64 x.n, .string (strOf x.name), .slice a1 x.args.length a2] 27))
        go_wp2_with fail
        have e1 : insideP f l = .ok (x, r3) := by unfold insideP; rw [HA2.out]; dsimp only; rw [HA3.out]; dsimp only; rw [HA6.out]
        have e2 := HRR.out.symm.trans e1
        subst e2
        go_ret
        exact ⟨HF7.out, _, rfl, HP7.out, HB.out⟩
theorem block_of (f : Nat) (hS : StmtsC f) : BlockC f := by
  intro l w p tb hl h
  have HPW := Lib.hid h.lt
  have HNE : Hid (w.heap.size ≠ p) := by show _ ≠ _; have := h.lt; omega
  have HF0 := Lib.hid (SFr.refl p w)
  have HP0 := Lib.hid h
  obtain ⟨R, hR⟩ : ∃ R, blockP f l = R := ⟨_, rfl⟩
  rw [hR]
  have HRR := Lib.hid hR
  clear hR
  have HS := Lib.hid hS
  have HL := Lib.hid hl
  clear hl hS
  clear h
  go_enter Tryz.func203, Tryz.ntmps203
  have hba : Below w.heap.size w (w.alloc (.cells #[.string ⟨#[123]⟩] 9)) := (Below.refl _ _).alloc (Nat.le_refl _) _
  have HF1 := Lib.hid (HF0.out.trans (SFr.of_below hba))
  have HP1 := Lib.hid (HP0.out.old hba)
  have HWN := Lib.hid (psWant_one p tb l [123] _ HP1.out w.heap.size 1 ((OwnAt.new w [.string ⟨#[123]⟩] 9).at 0 _ rfl))
  clear hba
  go_wp2_with fail
  refine (HWN.out).mono ?_
  intro e w2 he
  cases hA : ywantP [123] l with
  | error n =>
    rw [hA] at he
    obtain ⟨hf, rfl⟩ := he
    have HF := Lib.hid (HF1.out.trans hf)
    have e1 : blockP f l = .error n := by unfold blockP; rw [hA]
    have e2 := HRR.out.symm.trans e1
    subst e2
    clear e1 hf
    unfold lineV
    go_wp2_with fail
    exact ⟨rfl, HF.out, rfl⟩
  | ok r =>
    rw [hA] at he
    obtain ⟨hf, rfl, hp⟩ := he
    have HF2 := Lib.hid (HF1.out.trans hf)
    have HP2 := Lib.hid hp
    clear hf hp
    have HA2 := Lib.hid hA
    clear hA
    clear HWN
    have hlr := want_less HA2.out
    have HC : Hid (∀ w1, Ps w1 p tb r → _) := fun w1 h1 => HS.out r w1 p tb (by have := HL.out; omega) h1
    clear hlr
    go_wp2_with fail
    refine (HC.out _ HP2.out).mono ?_
    intro e w3 he
    cases hA : stmtsP f [] r with
    | error n =>
      rw [hA] at he
      obtain ⟨hf, rfl⟩ := he
      have HF := Lib.hid (HF2.out.trans hf)
      have e1 : blockP f l = .error n := by unfold blockP; rw [HA2.out]; exact hA
      have e2 := HRR.out.symm.trans e1
      subst e2
      clear e1 hf
      unfold lineV
      go_wp2_with fail
      exact ⟨rfl, HF.out, rfl⟩
    | ok q =>
      obtain ⟨x, r2⟩ := q
      rw [hA] at he
      obtain ⟨hf, v, rfl, hp, hv⟩ := he
      have hv : StsAt (w2.heap.size ≤ ·) w3 x v := hv
      obtain ⟨a1, a2, rfl⟩ := hv.shape
      have HX3 := Lib.hid (hv.up HF2.out.size)
      clear hv
      have HF3 := Lib.hid (HF2.out.trans hf)
      have HP3 := Lib.hid hp
      clear hf hp
      have HA3 := Lib.hid hA
      clear hA
      go_wp2_with fail
      have e1 : blockP f l = .ok (x, r2) := by unfold blockP; rw [HA2.out]; exact HA3.out
      have e2 := HRR.out.symm.trans e1
      subst e2
      go_ret
      exact ⟨HF3.out, _, rfl, HP3.out, HX3.out⟩
end Go.Proofs.YtcfpfnoldgnloaaGreatDoor
