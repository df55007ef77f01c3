/-
  The document's read: the instruction of a kind that a text tells. Condition: the text is no longer than an int tells.
-/
import Derived.Test.YtgdnnaiidmfncaaDoorInstrRe
import Derived.Test.YtgdnnaiidmfncaaDoorInstrRa
import Derived.Test.YtgdnnaiidmfncaaDoorInstrE
import Derived.Test.YtgdnnaiidmfncaaDoorInstrH2
set_option linter.unusedVariables false
set_option linter.unusedSimpArgs false
namespace Go.Proofs.YtgdnnaiidmfncaaDoor
open Go.RowKit
set_option maxHeartbeats 4000000
set_option maxRecDepth 100000

theorem valL_le (m : Bool) : ∀ (s : Bs) (n : Int) (i : Nat), i ≤ (valL m n i s).2 ∧ (valL m n i s).2 ≤ i + s.length
  | [], n, i => ⟨Nat.le_refl _, Nat.le_refl _⟩
  | c :: s, n, i => by
    unfold valL
    split
    · have := valL_le m s (valN m n c) (i + 1)
      rw [List.length_cons]; omega
    · exact ⟨Nat.le_refl _, Nat.le_add_right _ _⟩
theorem valQ_le (s : Bs) : (valQ s).2 ≤ s.length := by
  unfold valQ
  split
  · rename_i h
    have := (valL_le true (s.drop 1) 0 1).2
    have hs : 1 ≤ s.length := by cases s with | nil => cases h | cons c r => simp
    rw [List.length_drop] at this; omega
  · have := (valL_le false s 0 0).2; omega
theorem ext_drop (l : Bs) (k : Nat) : (strOf l).extract k l.length = strOf (l.drop k) := by
  apply ByteArray.ext
  rw [ByteArray.data_extract]
  apply Array.toList_inj.1
  show (l.toArray.extract k l.length).toList = l.drop k
  rw [Array.toList_extract, List.extract_eq_take_drop]
  show (l.drop k).take (l.length - k) = l.drop k
  rw [← List.length_drop, List.take_length]
theorem foldRd_cons (c : UInt8) (f : Bs) (o : Ins) (s : Bs) : foldRd (c :: f) o s = foldRd f (stepRd o c s).1 (stepRd o c s).2 := rfl
theorem refread_any (op : Int) (s : Bs) (hs : s.length ≤ 9223372036854775807) (w : World) :
    Calls Tryd.prog 39 #[.int .i64 op, .string (strOf s)] w fun e w' => e = .returned (insV (readQ op s)) ∧ Below w.heap.size w w' := by
  have hsI : (s.length : Int) ≤ 9223372036854775807 := by omega
  have HFM := Lib.hid (fun w' => form_any op w')
  unfold formsV at HFM
  have hlens := form_len op
  have HVA := Lib.hid (fun s hs w => value_any s hs w)
  unfold valV at HVA
  obtain ⟨RQ, hRQ⟩ : ∃ RQ, readQ op s = RQ := ⟨_, rfl⟩
  have hq := hRQ
  unfold readQ at hq
  rw [hRQ]
  clear hRQ
  obtain ⟨r, hr⟩ : ∃ r, rowI op = r := ⟨_, rfl⟩
  obtain ⟨word, form⟩ := r
  rw [hr] at HFM hlens hq
  clear hr
  dsimp only at HFM hlens hq
  obtain ⟨hw5, hf7⟩ := hlens
  have hf7I : (form.length : Int) ≤ 7 := by omega
  have hw5I : (word.length : Int) ≤ 5 := by omega
  have HO1 := Lib.hid (OwnAt.new w (insCells (zeroI 0)) 23)
  have HB1 := Lib.hid ((Below.refl w.heap.size w).alloc (Nat.le_refl _) (.cells (insCells (zeroI 0)).toArray 23))
  have HQ := Lib.hid hq
  clear hq
  unfold insV
  go_enter Tryd.func39, Tryd.ntmps39
  go_wp2_with fail
  refine (HFM.out _).mono ?_
  rintro e w2 ⟨rfl, hb2⟩
  have HO2 := Lib.hid (HO1.out.old hb2)
  have HB2 := Lib.hid (HB1.out.trans (hb2.mono HB1.out.size))
  have hx2 := HO2.out.lt
  clear hb2 HO1 HB1 HFM
  have hb3 : Below w2.heap.size w2 (w2.alloc (.cells #[.int .i64 op, .int .i64 0, .int .i64 0, .int .i64 0, .int .i64 0, .string ⟨#[]⟩] 23)) := (Below.refl _ _).alloc (Nat.le_refl _) _
  have HO3 := Lib.hid (HO2.out.old hb3)
  have HX3 := Lib.hid (show OwnAt (w2.alloc (.cells #[.int .i64 op, .int .i64 0, .int .i64 0, .int .i64 0, .int .i64 0, .string ⟨#[]⟩] 23)) w2.heap.size (insCells (zeroI op)) 23 from OwnAt.new w2 (insCells (zeroI op)) 23)
  have HB3 := Lib.hid (HB2.out.trans (hb3.mono HB2.out.size))
  clear hb3 HO2 HB2
  go_upto_region 3 with (fail)
  obtain ⟨w3, hw3⟩ : ∃ w3, (w2.alloc (.cells #[.int .i64 op, .int .i64 0, .int .i64 0, .int .i64 0, .int .i64 0, .string ⟨#[]⟩] 23)) = w3 := ⟨_, rfl⟩
  obtain ⟨X7, hX7⟩ : ∃ X7, w2.heap.size = X7 := ⟨_, rfl⟩
  have hX47 : w.heap.size ≠ X7 := by omega
  have hXge : w.heap.size ≤ X7 := by omega
  rw [hw3, hX7] at HX3
  rw [hw3] at HO3 HB3
  rw [hw3, hX7]
  clear hw3 hX7 hx2
  by_cases hpre : s.take word.length = word
  · have hwl : word.length ≤ s.length := by rw [← hpre, List.length_take]; omega
    have hwlI : (word.length : Int) ≤ (s.length : Int) := by omega
    have hwlN : ¬ (s.length : Int) < (word.length : Int) := by omega
    have hE1 : (strOf s).extract 0 word.length = strOf word := by rw [strOf_take, hpre]
    have hE2 := ext_drop s word.length
    obtain ⟨R0, hR0⟩ : ∃ R0, s.drop word.length = R0 := ⟨_, rfl⟩
    have hR0l : R0.length ≤ s.length := by rw [← hR0, List.length_drop]; omega
    have hq2 : RQ = foldRd form (zeroI op) (if form ≠ [] then R0.drop 1 else R0) := by
      rw [← HQ.out, if_neg (fun h => h hpre), hR0]
    rw [hR0] at hE2
    have HQ2 := Lib.hid hq2
    clear hq2 hR0 HQ hpre
    by_cases hfe : form = []
    case' pos =>
      have HFE := Lib.hid hfe
      have HST : Hid (foldRd form (zeroI op) R0 = RQ ∧ R0.length ≤ s.length) := Lib.hid ⟨by rw [HQ2.out, if_neg (fun h => h hfe)], hR0l⟩
      have hfe2 : form.isEmpty = true := by rw [hfe]; rfl
      clear hfe
      go_upto_region 8 with (fail)
      clear hE1 hE2 hwlN hR0l HQ2 hfe2
    case' neg =>
      have hfe2 : form.isEmpty = false := by simpa using hfe
      by_cases hR0e : R0 = []
      case' pos =>
        subst hR0e
        have HST : Hid (foldRd form (zeroI op) [] = RQ ∧ ([] : Bs).length ≤ s.length) := Lib.hid ⟨by rw [HQ2.out, if_pos hfe]; rfl, Nat.zero_le _⟩
        go_upto_region 8 with (fail)
        clear hE1 hE2 hwlN hR0l HQ2 hfe2
      case' neg =>
        have hR0e2 : R0.isEmpty = false := by simpa using hR0e
        have hE3 := ext_drop R0 1
        have hR1 : 1 ≤ R0.length := List.length_pos_iff.2 hR0e
        have hR1I : (1 : Int) ≤ (R0.length : Int) := by omega
        have HST : Hid (foldRd form (zeroI op) R0.tail = RQ ∧ R0.tail.length ≤ s.length) := Lib.hid ⟨by rw [HQ2.out, if_pos hfe, List.drop_one], by rw [← List.drop_one, List.length_drop]; omega⟩
        go_upto_region 8 with (fail)
        clear hE1 hE2 hE3 hwlN hR0l HQ2 hfe2 hR0e hR0e2 hR1 hR1I
    all_goals
      go_wp2_with fail
      go_loopw [1, 8] (fun s1 s8 wr => ∃ (k : Nat) (o : Ins) (r : Bs), s8 = .int .i64 k ∧ k ≤ form.length ∧ s1 = .string (strOf r) ∧ r.length ≤ s.length ∧ Hid (OwnAt wr w.heap.size (insCells (zeroI 0)) 23) ∧ Hid (OwnAt wr X7 (insCells o) 23) ∧ Hid (Below w.heap.size w wr) ∧ Hid (foldRd (form.drop k) o r = RQ)) (fun _ s8 _ => form.length - (intOf s8).toNat)
      case atStart =>
        first
          | exact ⟨0, zeroI op, _, rfl, Nat.zero_le _, rfl, HST.out.2, HO3, HX3, HB3, Lib.hid HST.out.1⟩
          | exact ⟨0, zeroI op, [], rfl, Nat.zero_le _, rfl, HST.out.2, HO3, HX3, HB3, Lib.hid HST.out.1⟩
      case round =>
        obtain ⟨k, o, r, rfl, hk, rfl, hrl, G4, G7, GB, GQ⟩ := hrel
        by_cases hlt : k < form.length
        · have hkI : (k : Int) < (form.length : Int) := by omega
          have hrI : (r.length : Int) ≤ 9223372036854775807 := by omega
          have hgq := GQ.out
          rw [List.drop_eq_getElem_cons hlt, foldRd_cons] at hgq
          obtain ⟨c, hc⟩ : ∃ c, form[k] = c := ⟨_, rfl⟩
          have hci : ∀ h, (strOf form)[k]'h = c := fun _ => by rw [← hc]; rfl
          rw [hc] at hgq
          clear hc
          have y7 := G7.out.lt
          by_cases h68 : c = 68
          · subst h68
            have c1 := G7.out.at 1 _ rfl
            have f1 := G7.out.fz 1
            by_cases hre : r = []
            · subst hre
              have hst : stepRd o 68 [] = (setI o 68 0, []) := rfl
              rw [hst] at hgq
              have HGQ := Lib.hid hgq
              clear hst hgq
              go_wp2_with fail
              exact ⟨⟨k + 1, setI o 68 0, [], by first | rfl | (simp; done) | go_num, hlt, by first | rfl | (simp; done), Nat.zero_le _, Lib.hid (G4.out.other hX47 1 (.int .i64 0)), Lib.hid (show OwnAt _ X7 (insCells (setI o 68 0)) _ from G7.out.set 1 (.int .i64 0)), Lib.hid (zbelow_set GB.out hXge 1 (.int .i64 0)), HGQ⟩, by simp [intOf]; omega⟩
            · have hre2 : r.isEmpty = false := by simpa using hre
              have hst : stepRd o 68 r = (setI o 68 (valQ (r.drop 1)).1, r.drop ((valQ (r.drop 1)).2 + 1)) := by
                unfold stepRd
                rw [if_pos (by decide), if_neg hre]
              rw [hst] at hgq
              have HGQ := Lib.hid hgq
              have hr1 : 1 ≤ r.length := List.length_pos_iff.2 hre
              have hr1I : (1 : Int) ≤ (r.length : Int) := by omega
              have hv := valQ_le (r.drop 1)
              rw [List.length_drop] at hv
              have HVR := Lib.hid (fun w' => HVA.out (r.drop 1) (by rw [List.length_drop]; omega) w')
              have hE1 := ext_drop r 1
              have hE := ext_drop r ((valQ (r.drop 1)).2 + 1)
              obtain ⟨r1, hr1e⟩ : ∃ r1, r.drop 1 = r1 := ⟨_, rfl⟩
              rw [hr1e] at HGQ HVR hE1 hE hv
              obtain ⟨vn, hvn⟩ : ∃ vn, (valQ r1).1 = vn := ⟨_, rfl⟩
              obtain ⟨vk, hvk⟩ : ∃ vk, (valQ r1).2 = vk := ⟨_, rfl⟩
              rw [hvn, hvk] at HGQ HVR
              rw [hvk] at hv hE
              have hmin : min ((vk : Int) + 1) (r.length : Int) = (vk : Int) + 1 := by omega
              have hvI : (vk : Int) + 1 ≤ (r.length : Int) := by omega
              have hdl : (r.drop (vk + 1)).length ≤ s.length := by rw [List.length_drop]; omega
              clear hst hgq hvn hvk hr1e
              go_wp2_with fail
              refine (HVR.out _).mono ?_
              rintro e w6 ⟨rfl, rfl⟩
              go_wp2_with fail
              exact ⟨⟨k + 1, setI o 68 vn, r.drop (vk + 1), by first | rfl | (simp; done) | go_num, hlt, by first | rfl | exact congrArg Value.string hE, hdl, Lib.hid (G4.out.other hX47 1 (.int .i64 vn)), Lib.hid (show OwnAt _ X7 (insCells (setI o 68 vn)) _ from G7.out.set 1 (.int .i64 vn)), Lib.hid (zbelow_set GB.out hXge 1 (.int .i64 vn)), HGQ⟩, by simp [intOf]; omega⟩
          by_cases h65 : c = 65
          · subst h65
            have c2 := G7.out.at 2 _ rfl
            have f2 := G7.out.fz 2
            by_cases hre : r = []
            · subst hre
              have hst : stepRd o 65 [] = (setI o 65 0, []) := rfl
              rw [hst] at hgq
              have HGQ := Lib.hid hgq
              clear hst hgq
              go_wp2_with fail
              exact ⟨⟨k + 1, setI o 65 0, [], by first | rfl | (simp; done) | go_num, hlt, by first | rfl | (simp; done), Nat.zero_le _, Lib.hid (G4.out.other hX47 2 (.int .i64 0)), Lib.hid (show OwnAt _ X7 (insCells (setI o 65 0)) _ from G7.out.set 2 (.int .i64 0)), Lib.hid (zbelow_set GB.out hXge 2 (.int .i64 0)), HGQ⟩, by simp [intOf]; omega⟩
            · have hre2 : r.isEmpty = false := by simpa using hre
              have hst : stepRd o 65 r = (setI o 65 (valQ (r.drop 1)).1, r.drop ((valQ (r.drop 1)).2 + 1)) := by
                unfold stepRd
                rw [if_pos (by decide), if_neg hre]
              rw [hst] at hgq
              have HGQ := Lib.hid hgq
              have hr1 : 1 ≤ r.length := List.length_pos_iff.2 hre
              have hr1I : (1 : Int) ≤ (r.length : Int) := by omega
              have hv := valQ_le (r.drop 1)
              rw [List.length_drop] at hv
              have HVR := Lib.hid (fun w' => HVA.out (r.drop 1) (by rw [List.length_drop]; omega) w')
              have hE1 := ext_drop r 1
              have hE := ext_drop r ((valQ (r.drop 1)).2 + 1)
              obtain ⟨r1, hr1e⟩ : ∃ r1, r.drop 1 = r1 := ⟨_, rfl⟩
              rw [hr1e] at HGQ HVR hE1 hE hv
              obtain ⟨vn, hvn⟩ : ∃ vn, (valQ r1).1 = vn := ⟨_, rfl⟩
              obtain ⟨vk, hvk⟩ : ∃ vk, (valQ r1).2 = vk := ⟨_, rfl⟩
              rw [hvn, hvk] at HGQ HVR
              rw [hvk] at hv hE
              have hmin : min ((vk : Int) + 1) (r.length : Int) = (vk : Int) + 1 := by omega
              have hvI : (vk : Int) + 1 ≤ (r.length : Int) := by omega
              have hdl : (r.drop (vk + 1)).length ≤ s.length := by rw [List.length_drop]; omega
              clear hst hgq hvn hvk hr1e
              go_wp2_with fail
              refine (HVR.out _).mono ?_
              rintro e w6 ⟨rfl, rfl⟩
              go_wp2_with fail
              exact ⟨⟨k + 1, setI o 65 vn, r.drop (vk + 1), by first | rfl | (simp; done) | go_num, hlt, by first | rfl | exact congrArg Value.string hE, hdl, Lib.hid (G4.out.other hX47 2 (.int .i64 vn)), Lib.hid (show OwnAt _ X7 (insCells (setI o 65 vn)) _ from G7.out.set 2 (.int .i64 vn)), Lib.hid (zbelow_set GB.out hXge 2 (.int .i64 vn)), HGQ⟩, by simp [intOf]; omega⟩
          by_cases h66 : c = 66
          · subst h66
            have c3 := G7.out.at 3 _ rfl
            have f3 := G7.out.fz 3
            by_cases hre : r = []
            · subst hre
              have hst : stepRd o 66 [] = (setI o 66 0, []) := rfl
              rw [hst] at hgq
              have HGQ := Lib.hid hgq
              clear hst hgq
              go_wp2_with fail
              exact ⟨⟨k + 1, setI o 66 0, [], by first | rfl | (simp; done) | go_num, hlt, by first | rfl | (simp; done), Nat.zero_le _, Lib.hid (G4.out.other hX47 3 (.int .i64 0)), Lib.hid (show OwnAt _ X7 (insCells (setI o 66 0)) _ from G7.out.set 3 (.int .i64 0)), Lib.hid (zbelow_set GB.out hXge 3 (.int .i64 0)), HGQ⟩, by simp [intOf]; omega⟩
            · have hre2 : r.isEmpty = false := by simpa using hre
              have hst : stepRd o 66 r = (setI o 66 (valQ (r.drop 1)).1, r.drop ((valQ (r.drop 1)).2 + 1)) := by
                unfold stepRd
                rw [if_pos (by decide), if_neg hre]
              rw [hst] at hgq
              have HGQ := Lib.hid hgq
              have hr1 : 1 ≤ r.length := List.length_pos_iff.2 hre
              have hr1I : (1 : Int) ≤ (r.length : Int) := by omega
              have hv := valQ_le (r.drop 1)
              rw [List.length_drop] at hv
              have HVR := Lib.hid (fun w' => HVA.out (r.drop 1) (by rw [List.length_drop]; omega) w')
              have hE1 := ext_drop r 1
              have hE := ext_drop r ((valQ (r.drop 1)).2 + 1)
              obtain ⟨r1, hr1e⟩ : ∃ r1, r.drop 1 = r1 := ⟨_, rfl⟩
              rw [hr1e] at HGQ HVR hE1 hE hv
              obtain ⟨vn, hvn⟩ : ∃ vn, (valQ r1).1 = vn := ⟨_, rfl⟩
              obtain ⟨vk, hvk⟩ : ∃ vk, (valQ r1).2 = vk := ⟨_, rfl⟩
              rw [hvn, hvk] at HGQ HVR
              rw [hvk] at hv hE
              have hmin : min ((vk : Int) + 1) (r.length : Int) = (vk : Int) + 1 := by omega
              have hvI : (vk : Int) + 1 ≤ (r.length : Int) := by omega
              have hdl : (r.drop (vk + 1)).length ≤ s.length := by rw [List.length_drop]; omega
              clear hst hgq hvn hvk hr1e
              go_wp2_with fail
              refine (HVR.out _).mono ?_
              rintro e w6 ⟨rfl, rfl⟩
              go_wp2_with fail
              exact ⟨⟨k + 1, setI o 66 vn, r.drop (vk + 1), by first | rfl | (simp; done) | go_num, hlt, by first | rfl | exact congrArg Value.string hE, hdl, Lib.hid (G4.out.other hX47 3 (.int .i64 vn)), Lib.hid (show OwnAt _ X7 (insCells (setI o 66 vn)) _ from G7.out.set 3 (.int .i64 vn)), Lib.hid (zbelow_set GB.out hXge 3 (.int .i64 vn)), HGQ⟩, by simp [intOf]; omega⟩
          by_cases h78 : c = 78
          · subst h78
            have hst : stepRd o 78 r = (setI o 78 (valQ r).1, r.drop (valQ r).2) := rfl
            rw [hst] at hgq
            have HGQ := Lib.hid hgq
            have hv := valQ_le r
            have HVR := Lib.hid (fun w' => HVA.out r (by omega) w')
            have hE := ext_drop r (valQ r).2
            obtain ⟨vn, hvn⟩ : ∃ vn, (valQ r).1 = vn := ⟨_, rfl⟩
            obtain ⟨vk, hvk⟩ : ∃ vk, (valQ r).2 = vk := ⟨_, rfl⟩
            rw [hvn, hvk] at HGQ HVR
            rw [hvk] at hv hE
            have hmin : min (vk : Int) (r.length : Int) = (vk : Int) := by omega
            have hvI : (vk : Int) ≤ (r.length : Int) := by omega
            have hdl : (r.drop vk).length ≤ s.length := by rw [List.length_drop]; omega
            clear hst hgq hvn hvk
            have c4 := G7.out.at 4 _ rfl
            have f4 := G7.out.fz 4
            go_wp2_with fail
            refine (HVR.out _).mono ?_
            rintro e w6 ⟨rfl, rfl⟩
            go_wp2_with fail
            exact ⟨⟨k + 1, setI o 78 vn, r.drop vk, by first | rfl | (simp; done) | go_num, hlt, by first | rfl | exact congrArg Value.string hE, hdl, Lib.hid (G4.out.other hX47 4 (.int .i64 vn)), Lib.hid (show OwnAt _ X7 (insCells (setI o 78 vn)) _ from G7.out.set 4 (.int .i64 vn)), Lib.hid (zbelow_set GB.out hXge 4 (.int .i64 vn)), HGQ⟩, by simp [intOf]; omega⟩
          by_cases h83 : c = 83
          · subst h83
            have hst : stepRd o 83 r = (setI o 83 (valQ r).1, r.drop (valQ r).2) := rfl
            rw [hst] at hgq
            have HGQ := Lib.hid hgq
            have hv := valQ_le r
            have HVR := Lib.hid (fun w' => HVA.out r (by omega) w')
            have hE := ext_drop r (valQ r).2
            obtain ⟨vn, hvn⟩ : ∃ vn, (valQ r).1 = vn := ⟨_, rfl⟩
            obtain ⟨vk, hvk⟩ : ∃ vk, (valQ r).2 = vk := ⟨_, rfl⟩
            rw [hvn, hvk] at HGQ HVR
            rw [hvk] at hv hE
            have hmin : min (vk : Int) (r.length : Int) = (vk : Int) := by omega
            have hvI : (vk : Int) ≤ (r.length : Int) := by omega
            have hdl : (r.drop vk).length ≤ s.length := by rw [List.length_drop]; omega
            clear hst hgq hvn hvk
            have c4 := G7.out.at 4 _ rfl
            have f4 := G7.out.fz 4
            go_wp2_with fail
            refine (HVR.out _).mono ?_
            rintro e w6 ⟨rfl, rfl⟩
            go_wp2_with fail
            exact ⟨⟨k + 1, setI o 83 vn, r.drop vk, by first | rfl | (simp; done) | go_num, hlt, by first | rfl | exact congrArg Value.string hE, hdl, Lib.hid (G4.out.other hX47 4 (.int .i64 vn)), Lib.hid (show OwnAt _ X7 (insCells (setI o 83 vn)) _ from G7.out.set 4 (.int .i64 vn)), Lib.hid (zbelow_set GB.out hXge 4 (.int .i64 vn)), HGQ⟩, by simp [intOf]; omega⟩
          by_cases h76 : c = 76
          · subst h76
            have hst : stepRd o 76 r = ({ o with name := r }, []) := rfl
            rw [hst] at hgq
            have HGQ := Lib.hid hgq
            have hE := ext_drop r r.length
            rw [List.drop_length] at hE
            clear hst hgq
            have c5 := G7.out.at 5 _ rfl
            have f5 := G7.out.fz 5
            go_wp2_with fail
            exact ⟨⟨k + 1, { o with name := r }, [], by first | rfl | (simp; done) | go_num, hlt, by first | rfl | exact congrArg Value.string hE, Nat.zero_le _, Lib.hid (G4.out.other hX47 5 (.string (strOf r))), Lib.hid (show OwnAt _ X7 (insCells { o with name := r }) _ from G7.out.set 5 (.string (strOf r))), Lib.hid (zbelow_set GB.out hXge 5 (.string (strOf r))), HGQ⟩, by simp [intOf]; omega⟩
          · have hst : stepRd o c r = (o, r.drop 1) := by
              unfold stepRd
              rw [if_neg (by rintro (h | h | h) <;> contradiction), if_neg (by rintro (h | h) <;> contradiction), if_neg h76]
            rw [hst] at hgq
            have HGQ := Lib.hid hgq
            have n68 : ((c.toNat : Int) == 68) = false := ne_byteV h68 (by decide)
            have m68 : ¬ (c.toNat : Int) = 68 := by simpa using n68
            have n65 : ((c.toNat : Int) == 65) = false := ne_byteV h65 (by decide)
            have m65 : ¬ (c.toNat : Int) = 65 := by simpa using n65
            have n66 : ((c.toNat : Int) == 66) = false := ne_byteV h66 (by decide)
            have m66 : ¬ (c.toNat : Int) = 66 := by simpa using n66
            have n78 : ((c.toNat : Int) == 78) = false := ne_byteV h78 (by decide)
            have m78 : ¬ (c.toNat : Int) = 78 := by simpa using n78
            have n83 : ((c.toNat : Int) == 83) = false := ne_byteV h83 (by decide)
            have m83 : ¬ (c.toNat : Int) = 83 := by simpa using n83
            have n76 : ((c.toNat : Int) == 76) = false := ne_byteV h76 (by decide)
            have m76 : ¬ (c.toNat : Int) = 76 := by simpa using n76
            clear hst hgq
            by_cases hre : r = []
            · subst hre
              go_wp2_with fail
              exact ⟨⟨k + 1, o, [], by first | rfl | (simp; done) | go_num, hlt, by first | rfl | (simp; done), Nat.zero_le _, G4, G7, GB, HGQ⟩, by simp [intOf]; omega⟩
            · have hr1 : 1 ≤ r.length := List.length_pos_iff.2 hre
              have hr1I : (1 : Int) ≤ (r.length : Int) := by omega
              have hmin : min (1 : Int) (r.length : Int) = 1 := by omega
              have hE := ext_drop r 1
              have hdl : (r.drop 1).length ≤ s.length := by rw [List.length_drop]; omega
              go_wp2_with fail
              exact ⟨⟨k + 1, o, r.drop 1, by first | rfl | (simp; done) | go_num, hlt, by first | rfl | exact congrArg Value.string hE | rw [List.drop_one], hdl, G4, G7, GB, HGQ⟩, by simp [intOf]; omega⟩
        · have he : k = form.length := by omega
          subst he
          have hgq := GQ.out
          rw [List.drop_length] at hgq
          have HQE : Hid (o = RQ) := Lib.hid hgq
          clear hgq
          have y0 : wr.cell? ⟨X7, 0, none⟩ = some (.int .i64 (o.op)) := G7.out.at 0 _ rfl
          have y1 : wr.cell? ⟨X7, 1, none⟩ = some (.int .i64 (o.d)) := G7.out.at 1 _ rfl
          have y2 : wr.cell? ⟨X7, 2, none⟩ = some (.int .i64 (o.a)) := G7.out.at 2 _ rfl
          have y3 : wr.cell? ⟨X7, 3, none⟩ = some (.int .i64 (o.b)) := G7.out.at 3 _ rfl
          have y4 : wr.cell? ⟨X7, 4, none⟩ = some (.int .i64 (o.n)) := G7.out.at 4 _ rfl
          have y5 : wr.cell? ⟨X7, 5, none⟩ = some (.string (strOf o.name)) := G7.out.at 5 _ rfl
          have yl := G7.out.lt
          have z0 := G4.out.at 0 _ rfl
          have fz0 := G4.out.fz 0
          have z1 := G4.out.at 1 _ rfl
          have fz1 := G4.out.fz 1
          have z2 := G4.out.at 2 _ rfl
          have fz2 := G4.out.fz 2
          have z3 := G4.out.at 3 _ rfl
          have fz3 := G4.out.fz 3
          have z4 := G4.out.at 4 _ rfl
          have fz4 := G4.out.fz 4
          have z5 := G4.out.at 5 _ rfl
          have fz5 := G4.out.fz 5
          have zl := G4.out.lt
          go_wp2_with fail
          have HS := Lib.hid ((((((G4.out.set 0 (.int .i64 o.op)).set 1 (.int .i64 o.d)).set 2 (.int .i64 o.a)).set 3 (.int .i64 o.b)).set 4 (.int .i64 o.n)).set 5 (.string (strOf o.name)))
          have e0 := HS.out.at 0 _ rfl
          have e1 := HS.out.at 1 _ rfl
          have e2 := HS.out.at 2 _ rfl
          have e3 := HS.out.at 3 _ rfl
          have e4 := HS.out.at 4 _ rfl
          have e5 := HS.out.at 5 _ rfl
          exact bodyPost_ret (v := .agg #[.int .i64 o.op, .int .i64 o.d, .int .i64 o.a, .int .i64 o.b, .int .i64 o.n, .string (strOf o.name)]) (by simp [results, Tryd.results39, go_sem, e0, e1, e2, e3, e4, e5]) rfl ⟨by first | (rw [← HQE.out]; done) | (rw [← HQE.out]; rfl), set6 w _ GB.out _ _ _ _ _ _⟩
  · have HQ2 : Hid (zeroI op = RQ) := Lib.hid (by rw [← HQ.out, if_pos hpre])
    clear HQ
    by_cases hwl : word.length ≤ s.length
    · have hwlI : (word.length : Int) ≤ (s.length : Int) := by omega
      have hwlN : ¬ (s.length : Int) < (word.length : Int) := by omega
      have hE1 := strOf_take s word.length
      obtain ⟨T0, hT0⟩ : ∃ T0, s.take word.length = T0 := ⟨_, rfl⟩
      rw [hT0] at hE1 hpre
      have hpre2 : (T0 == word) = false := by simpa using hpre
      clear hT0
      have y0 : w3.cell? ⟨X7, 0, none⟩ = some (.int .i64 (op)) := HX3.out.at 0 _ rfl
      have y1 : w3.cell? ⟨X7, 1, none⟩ = some (.int .i64 0) := HX3.out.at 1 _ rfl
      have y2 : w3.cell? ⟨X7, 2, none⟩ = some (.int .i64 0) := HX3.out.at 2 _ rfl
      have y3 : w3.cell? ⟨X7, 3, none⟩ = some (.int .i64 0) := HX3.out.at 3 _ rfl
      have y4 : w3.cell? ⟨X7, 4, none⟩ = some (.int .i64 0) := HX3.out.at 4 _ rfl
      have y5 : w3.cell? ⟨X7, 5, none⟩ = some (.string ⟨#[]⟩) := HX3.out.at 5 _ rfl
      have yl := HX3.out.lt
      have z0 := HO3.out.at 0 _ rfl
      have fz0 := HO3.out.fz 0
      have z1 := HO3.out.at 1 _ rfl
      have fz1 := HO3.out.fz 1
      have z2 := HO3.out.at 2 _ rfl
      have fz2 := HO3.out.fz 2
      have z3 := HO3.out.at 3 _ rfl
      have fz3 := HO3.out.fz 3
      have z4 := HO3.out.at 4 _ rfl
      have fz4 := HO3.out.fz 4
      have z5 := HO3.out.at 5 _ rfl
      have fz5 := HO3.out.fz 5
      have zl := HO3.out.lt
      go_wp2_with fail
      have HS := Lib.hid ((((((HO3.out.set 0 (.int .i64 op)).set 1 (.int .i64 0)).set 2 (.int .i64 0)).set 3 (.int .i64 0)).set 4 (.int .i64 0)).set 5 (.string ⟨#[]⟩))
      have e0 := HS.out.at 0 _ rfl
      have e1 := HS.out.at 1 _ rfl
      have e2 := HS.out.at 2 _ rfl
      have e3 := HS.out.at 3 _ rfl
      have e4 := HS.out.at 4 _ rfl
      have e5 := HS.out.at 5 _ rfl
      exact bodyPost_ret (v := .agg #[.int .i64 op, .int .i64 0, .int .i64 0, .int .i64 0, .int .i64 0, .string ⟨#[]⟩]) (by simp [results, Tryd.results39, go_sem, e0, e1, e2, e3, e4, e5]) rfl ⟨by first | (rw [← HQ2.out]; done) | (rw [← HQ2.out]; rfl), set6 w _ HB3.out _ _ _ _ _ _⟩
    · have hwlI : (s.length : Int) < (word.length : Int) := by omega
      clear hpre
      have y0 : w3.cell? ⟨X7, 0, none⟩ = some (.int .i64 (op)) := HX3.out.at 0 _ rfl
      have y1 : w3.cell? ⟨X7, 1, none⟩ = some (.int .i64 0) := HX3.out.at 1 _ rfl
      have y2 : w3.cell? ⟨X7, 2, none⟩ = some (.int .i64 0) := HX3.out.at 2 _ rfl
      have y3 : w3.cell? ⟨X7, 3, none⟩ = some (.int .i64 0) := HX3.out.at 3 _ rfl
      have y4 : w3.cell? ⟨X7, 4, none⟩ = some (.int .i64 0) := HX3.out.at 4 _ rfl
      have y5 : w3.cell? ⟨X7, 5, none⟩ = some (.string ⟨#[]⟩) := HX3.out.at 5 _ rfl
      have yl := HX3.out.lt
      have z0 := HO3.out.at 0 _ rfl
      have fz0 := HO3.out.fz 0
      have z1 := HO3.out.at 1 _ rfl
      have fz1 := HO3.out.fz 1
      have z2 := HO3.out.at 2 _ rfl
      have fz2 := HO3.out.fz 2
      have z3 := HO3.out.at 3 _ rfl
      have fz3 := HO3.out.fz 3
      have z4 := HO3.out.at 4 _ rfl
      have fz4 := HO3.out.fz 4
      have z5 := HO3.out.at 5 _ rfl
      have fz5 := HO3.out.fz 5
      have zl := HO3.out.lt
      go_wp2_with fail
      have HS := Lib.hid ((((((HO3.out.set 0 (.int .i64 op)).set 1 (.int .i64 0)).set 2 (.int .i64 0)).set 3 (.int .i64 0)).set 4 (.int .i64 0)).set 5 (.string ⟨#[]⟩))
      have e0 := HS.out.at 0 _ rfl
      have e1 := HS.out.at 1 _ rfl
      have e2 := HS.out.at 2 _ rfl
      have e3 := HS.out.at 3 _ rfl
      have e4 := HS.out.at 4 _ rfl
      have e5 := HS.out.at 5 _ rfl
      exact bodyPost_ret (v := .agg #[.int .i64 op, .int .i64 0, .int .i64 0, .int .i64 0, .int .i64 0, .string ⟨#[]⟩]) (by simp [results, Tryd.results39, go_sem, e0, e1, e2, e3, e4, e5]) rfl ⟨by first | (rw [← HQ2.out]; done) | (rw [← HQ2.out]; rfl), set6 w _ HB3.out _ _ _ _ _ _⟩
end Go.Proofs.YtgdnnaiidmfncaaDoor
