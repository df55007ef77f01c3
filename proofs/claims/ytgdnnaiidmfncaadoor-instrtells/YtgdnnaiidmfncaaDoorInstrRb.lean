/-
  The document's Label. Condition: the text is no longer than an int tells.
  The document's Right. Condition: the name is no longer than an int tells.
-/
import Derived.Test.YtgdnnaiidmfncaaDoorInstrA
import Derived.Test.YtgdnnaiidmfncaaDoorInstrB
import Derived.Test.YtgdnnaiidmfncaaDoorInstrRa
import Derived.Test.YtgdnnaiidmfncaaDoorInstrC
import Derived.Test.YtgdnnaiidmfncaaDoorInstrH
set_option linter.unusedVariables false
set_option linter.unusedSimpArgs false
namespace Go.Proofs.YtgdnnaiidmfncaaDoor
open Go.RowKit
set_option maxHeartbeats 4000000
set_option maxRecDepth 100000

theorem label_false (c : UInt8) (l : Bs) (h : isDigit c = false) : labelAt true (c :: l) = labelAt false (c :: l) := by
  unfold labelAt
  rw [h]; rfl
def okC (c : UInt8) : Bool := isDigit c || labC c
theorem okC_of (c : UInt8) : okC c = true ↔ (97 ≤ c.toNat ∧ c.toNat ≤ 122) ∨ (65 ≤ c.toNat ∧ c.toNat ≤ 90) ∨ (48 ≤ c.toNat ∧ c.toNat ≤ 57) ∨ c.toNat = 95 ∨ c.toNat = 46 := by
  simp [okC, isDigit, labC, isLetter, UInt8.le_iff_toNat_le, ← UInt8.toNat_inj]
  omega
theorem reflabel_any (l : Bs) (hsz : l.length ≤ 9223372036854775807) (w : World) :
    Calls Tryd.prog 19 #[.string (strOf l)] w fun e w' => e = .returned (.bool (labelB l)) ∧ w = w' := by
  have hszI : (l.length : Int) ≤ 9223372036854775807 := by omega
  by_cases he : l = []
  · subst he
    go_enter Tryd.func19, Tryd.ntmps19
    go_wp2_with fail
    go_ret
    exact ⟨rfl, rfl⟩
  · have hp : 0 < l.length := List.length_pos_iff.2 he
    have hpI : (1 : Int) ≤ (l.length : Int) := by omega
    by_cases h40 : l.length ≤ 40
    · have h40I : (l.length : Int) ≤ 40 := by omega
      have hb : labelB l = labelAt true l := by
        unfold labelB
        rw [decide_eq_true h40, show l.isEmpty = false by simpa using he]
        simp
      rw [hb]
      clear hb he
      have hdr : l = l[0] :: l.drop 1 := by
        have := List.drop_eq_getElem_cons hp
        simpa using this
      by_cases hd : isDigit l[0] = true
      · have hr := digit_range hd
        have hbad : labelAt true l = false := by
          rw [hdr]
          unfold labelAt
          have : labC l[0] = false := by rw [← Bool.not_eq_true]; simp [labC, isLetter, UInt8.le_iff_toNat_le, ← UInt8.toNat_inj]; omega
          rw [this]; simp
        have HBAD := Lib.hid hbad
        have h0 : ∀ h, (strOf l)[0]'h = l[0] := fun _ => rfl
        have hr0 : (48 : Int) ≤ (l[0].toNat : Int) := by omega
        have hr1 : (l[0].toNat : Int) ≤ 57 := by omega
        clear hbad hdr hd hr
        go_enter Tryd.func19, Tryd.ntmps19
        go_wp2_with fail
        go_ret
        exact ⟨ret_bool HBAD.out.symm, rfl⟩
      · have hd' : isDigit l[0] = false := by simpa using hd
        have hlf : labelAt true l = labelAt false l := by
          rw [hdr]; exact label_false _ _ hd'
        have HLF := Lib.hid hlf
        have h0 : ∀ h, (strOf l)[0]'h = l[0] := fun _ => rfl
        have hnd : (l[0].toNat : Int) < 48 ∨ 57 < (l[0].toNat : Int) := by
          apply Classical.byContradiction
          intro hn
          have : isDigit l[0] = true := by simp [isDigit, UInt8.le_iff_toNat_le]; omega
          rw [hd'] at this; cases this
        have HC : Hid (∀ i (h : i < l.length), labelAt false (l.drop i) = (okC l[i] && labelAt false (l.drop (i + 1)))) := by
          intro i h
          rw [List.drop_eq_getElem_cons h]
          have e1 : labelAt false (l[i] :: l.drop (i + 1)) = (((isDigit l[i] && !false) || labC l[i]) && labelAt false (l.drop (i + 1))) := rfl
          rw [e1]
          unfold okC
          simp only [Bool.not_false, Bool.and_true]
        clear hdr hd hd' hlf
        rcases hnd with hnd | hnd
        all_goals
          go_enter Tryd.func19, Tryd.ntmps19
          go_wp2_with fail
          go_loopw [3] (fun s3 wr => ∃ i : Nat, s3 = .int .i64 i ∧ i ≤ l.length ∧ wr = w ∧ Hid (labelAt true l = labelAt false (l.drop i))) (fun s3 _ => l.length - (intOf s3).toNat)
          case atStart => exact ⟨0, rfl, Nat.zero_le _, rfl, Lib.hid (by rw [HLF.out]; rfl)⟩
          case round =>
            obtain ⟨i, rfl, hi, rfl, HI⟩ := hrel
            by_cases hlt : i < l.length
            · have hiI : (i : Int) < (l.length : Int) := by omega
              have hci : ∀ h, (strOf l)[i]'h = l[i] := fun _ => rfl
              have HN := Lib.hid (HC.out i hlt)
              by_cases hok : okC l[i] = true
              · have hnx : Hid (labelAt true l = labelAt false (l.drop (i + 1))) := by
                  show _ = _
                  rw [HI.out, HN.out, hok]; simp
                have hz := (okC_of l[i]).1 hok
                clear HN HI hok
                have hzz : (97 ≤ (l[i].toNat : Int) ∧ (l[i].toNat : Int) ≤ 122) ∨ ((l[i].toNat : Int) < 97 ∧ 65 ≤ (l[i].toNat : Int) ∧ (l[i].toNat : Int) ≤ 90) ∨ ((l[i].toNat : Int) < 65 ∧ 48 ≤ (l[i].toNat : Int) ∧ (l[i].toNat : Int) ≤ 57) ∨ (((l[i].toNat : Int) < 97 ∧ 90 < (l[i].toNat : Int)) ∧ ((l[i].toNat : Int) == 95) = true) ∨ ((l[i].toNat : Int) < 48 ∧ ((l[i].toNat : Int) == 46) = true) := by
                  simp only [beq_iff_eq]
                  omega
                clear hz
                rcases hzz with ⟨a1, a2⟩ | ⟨a1, a2, a3⟩ | ⟨a1, a2, a3⟩ | ⟨⟨a1, a2⟩, a3⟩ | ⟨a1, a2⟩
                all_goals
                  go_wp2
                  all_goals first
                    | exact ⟨⟨i + 1, rfl, by omega, rfl, hnx⟩, by simp [intOf]; omega⟩
                    | exact ⟨⟨i + 1, by first | rfl | trivial, by omega, by first | rfl | trivial, hnx⟩, by simp [intOf]; omega⟩
                    | (exfalso; omega)
                    | (exfalso; simp at *; omega)
              · have hbad : Hid (labelAt true l = false) := by
                  show _ = _
                  rw [HI.out, HN.out, show okC l[i] = false by simpa using hok]; rfl
                have hz : ¬ ((97 ≤ l[i].toNat ∧ l[i].toNat ≤ 122) ∨ (65 ≤ l[i].toNat ∧ l[i].toNat ≤ 90) ∨ (48 ≤ l[i].toNat ∧ l[i].toNat ≤ 57) ∨ l[i].toNat = 95 ∨ l[i].toNat = 46) := fun hq => hok ((okC_of l[i]).2 hq)
                clear HN HI hok
                have b4 : ((l[i].toNat : Int) == 95) = false := by rw [beq_eq_false_iff_ne]; omega
                have b5 : ((l[i].toNat : Int) == 46) = false := by rw [beq_eq_false_iff_ne]; omega
                go_wp2
                all_goals first
                  | (go_ret; exact ⟨ret_bool hbad.out.symm, rfl⟩)
                  | (exfalso; omega)
                  | (exfalso; simp at *; omega)
            · have hiI : (l.length : Int) ≤ (i : Int) := by omega
              have hfin : Hid (labelAt true l = true) := by
                show _ = _
                rw [HI.out, List.drop_eq_nil_of_le (by omega)]; rfl
              clear HI
              go_wp2_with fail
              go_ret
              exact ⟨ret_bool hfin.out.symm, rfl⟩
    · have hb : labelB l = false := by
        unfold labelB
        rw [decide_eq_false h40]
        simp
      rw [hb]
      clear hb he
      have h40I : (40 : Int) < (l.length : Int) := by omega
      clear h40
      go_enter Tryd.func19, Tryd.ntmps19
      go_wp2_with fail
      go_ret
      exact ⟨rfl, rfl⟩
end Go.Proofs.YtgdnnaiidmfncaaDoor

namespace Go.Proofs.YtgdnnaiidmfncaaDoor
open Go.RowKit
set_option maxHeartbeats 4000000
set_option maxRecDepth 100000

/-- What the document's Right makes of a form: the instruction of the form's parts alone, or none. -/
def foldQ (x : Ins) : Bs → Ins → Option Ins
  | [], o => some o
  | c :: f, o =>
    if c = 68 then foldQ x f { o with d := x.d } else if c = 65 then foldQ x f { o with a := x.a } else if c = 66 then foldQ x f { o with b := x.b } else if c = 78 then foldQ x f { o with n := x.n }
    else if c = 83 then (if -2047 ≤ x.n ∧ x.n ≤ 2047 then foldQ x f { o with n := x.n } else none)
    else if c = 76 then (if labelB x.name = true then foldQ x f { o with name := x.name } else none)
    else foldQ x f o
def regsOk (x : Ins) : Bool := decide (0 ≤ x.d ∧ x.d < 32 ∧ 0 ≤ x.a ∧ x.a < 32 ∧ 0 ≤ x.b ∧ x.b < 32)
def rightQ (x : Ins) : Bool :=
  if (rowI x.op).1 = [] then false else
  match foldQ x (rowI x.op).2 (zeroI x.op) with
  | none => false
  | some o => insEq o x && regsOk x
theorem foldQ_spec (x : Ins) : ∀ (f : Bs) (o o' : Ins), foldQ x f o = some o' ↔ ((83 ∈ f → -2047 ≤ x.n ∧ x.n ≤ 2047) ∧ (76 ∈ f → labelB x.name = true) ∧
    o' = ⟨o.op, if 68 ∈ f then x.d else o.d, if 65 ∈ f then x.a else o.a, if 66 ∈ f then x.b else o.b, if 78 ∈ f ∨ 83 ∈ f then x.n else o.n, if 76 ∈ f then x.name else o.name⟩)
  | [], o, o' => by
    constructor
    · intro h
      have h : some o = some o' := h
      cases h
      exact ⟨(fun h => by cases h), (fun h => by cases h), rfl⟩
    · rintro ⟨_, _, h⟩
      show some o = some o'
      rw [h]; rfl
  | c :: f, o, o' => by
    have ih := foldQ_spec x f
    unfold foldQ
    by_cases h1 : c = 68
    · subst h1; rw [if_pos rfl, ih]; simp
    rw [if_neg h1]
    by_cases h2 : c = 65
    · subst h2; rw [if_pos rfl, ih]; simp
    rw [if_neg h2]
    by_cases h3 : c = 66
    · subst h3; rw [if_pos rfl, ih]; simp
    rw [if_neg h3]
    by_cases h4 : c = 78
    · subst h4; rw [if_pos rfl, ih]; simp
    rw [if_neg h4]
    by_cases h5 : c = 83
    · subst h5
      rw [if_pos rfl]
      by_cases hn : -2047 ≤ x.n ∧ x.n ≤ 2047
      · rw [if_pos hn, ih]; simp [hn]
      · rw [if_neg hn]
        constructor
        · intro h; cases h
        · rintro ⟨h, _⟩
          exact absurd (h List.mem_cons_self) hn
    rw [if_neg h5]
    by_cases h6 : c = 76
    · subst h6
      rw [if_pos rfl]
      by_cases hn : labelB x.name = true
      · rw [if_pos hn, ih]; simp [hn]
      · rw [if_neg hn]
        constructor
        · intro h; cases h
        · rintro ⟨_, h, _⟩
          exact absurd (h List.mem_cons_self) hn
    rw [if_neg h6, ih]
    have g1 : ¬ (68 = c) := fun h => h1 h.symm
    have g2 : ¬ (65 = c) := fun h => h2 h.symm
    have g3 : ¬ (66 = c) := fun h => h3 h.symm
    have g4 : ¬ (78 = c) := fun h => h4 h.symm
    have g5 : ¬ (83 = c) := fun h => h5 h.symm
    have g6 : ¬ (76 = c) := fun h => h6 h.symm
    simp [g1, g2, g3, g4, g5, g6]
theorem reg_rangeQ {X : Ins} (h : rightI X = true) : (0 ≤ X.d ∧ X.d < 32) ∧ (0 ≤ X.a ∧ X.a < 32) ∧ (0 ≤ X.b ∧ X.b < 32) := by
  obtain ⟨hm, he⟩ := (foldR_spec X _ _ _).1 (right_open h).1
  have hd := congrArg Ins.d he
  have ha := congrArg Ins.a he
  have hb := congrArg Ins.b he
  dsimp only at hd ha hb
  refine ⟨?_, ?_, ?_⟩
  · by_cases hc : (68 : UInt8) ∈ (rowI X.op).2
    · simpa [mayI] using hm 68 hc (by decide) X.d rfl
    · rw [if_neg hc] at hd
      have : X.d = 0 := hd
      omega
  · by_cases hc : (65 : UInt8) ∈ (rowI X.op).2
    · simpa [mayI] using hm 65 hc (by decide) X.a rfl
    · rw [if_neg hc] at ha
      have : X.a = 0 := ha
      omega
  · by_cases hc : (66 : UInt8) ∈ (rowI X.op).2
    · simpa [mayI] using hm 66 hc (by decide) X.b rfl
    · rw [if_neg hc] at hb
      have : X.b = 0 := hb
      omega
/-- Both say the same of what may be. -/
theorem rightQ_eq (x : Ins) : rightQ x = rightI x := by
  rw [Bool.eq_iff_iff]
  constructor
  · intro h
    unfold rightQ at h
    split at h
    · cases h
    · rename_i hw
      cases hf : foldQ x (rowI x.op).2 (zeroI x.op) with
      | none => rw [hf] at h; cases h
      | some o =>
        rw [hf] at h
        simp only [Bool.and_eq_true, insEq_iff] at h
        obtain ⟨rfl, hr⟩ := h
        obtain ⟨hs, hl, he⟩ := (foldQ_spec o _ _ _).1 hf
        have hr' : 0 ≤ o.d ∧ o.d < 32 ∧ 0 ≤ o.a ∧ o.a < 32 ∧ 0 ≤ o.b ∧ o.b < 32 := by simpa [regsOk] using hr
        obtain ⟨r1, r2, r3, r4, r5, r6⟩ := hr'
        refine right_of (x := o) (w := (rowI o.op).1) (f := (rowI o.op).2) rfl hw ?_ he ?_
        · intro c hc h76 v hv
          rcases ((row_ok o.op).2.1 c hc).1 with hk | hk
          · have e : c = 32 ∨ c = 44 ∨ c = 40 ∨ c = 41 := by
              simp only [sepB, Bool.or_eq_true, beq_iff_eq] at hk
              rcases hk with ((h | h) | h) | h <;> simp [h]
            rcases e with rfl | rfl | rfl | rfl <;> cases hv
          · rcases keys_cases hk with rfl | rfl | rfl | rfl | rfl | rfl
            · cases hv; simp [mayI]; omega
            · cases hv; simp [mayI]; omega
            · cases hv; simp [mayI]; omega
            · cases hv; rfl
            · cases hv
              have := hs hc
              simp [mayI]; omega
            · exact absurd rfl h76
        · constructor
          · exact hl
          · intro hlb
            apply Classical.byContradiction
            intro hn
            have hnm := congrArg Ins.name he
            dsimp only at hnm
            rw [if_neg hn] at hnm
            have : o.name = [] := hnm
            rw [this] at hlb
            exact absurd hlb (by decide)
  · intro h
    obtain ⟨hf, hw, hl⟩ := right_open h
    obtain ⟨hm, he⟩ := (foldR_spec x _ _ _).1 hf
    obtain ⟨⟨d1, d2⟩, ⟨a1, a2⟩, ⟨b1, b2⟩⟩ := reg_rangeQ h
    unfold rightQ
    rw [if_neg hw]
    have hq : foldQ x (rowI x.op).2 (zeroI x.op) = some x := (foldQ_spec x _ _ _).2 ⟨fun hc => by
      have := hm 83 hc (by decide) x.n rfl
      simpa [mayI] using this, fun hc => hl.1 hc, he⟩
    rw [hq]
    have h1 : insEq x x = true := (insEq_iff x x).2 rfl
    simp [h1, regsOk]
    omega
end Go.Proofs.YtgdnnaiidmfncaaDoor
