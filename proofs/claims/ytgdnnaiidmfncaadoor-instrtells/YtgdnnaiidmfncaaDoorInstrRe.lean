/-
  The document's value: a text's number. Condition: the text is no longer than an int tells.
  The document's Print, walked. Conditions: the number is an int, the name no longer than an int tells.
-/
import Derived.Test.YtgdnnaiidmfncaaDoorInstrRd
import Derived.Test.YtgdnnaiidmfncaaDoorInstrRc
import Derived.Test.YtgdnnaiidmfncaaDoorInstrH2
set_option linter.unusedVariables false
set_option linter.unusedSimpArgs false
namespace Go.Proofs.YtgdnnaiidmfncaaDoor
open Go.RowKit
set_option maxHeartbeats 4000000
set_option maxRecDepth 100000

theorem ne_byteV {c : UInt8} {k : Nat} (h : c ≠ UInt8.ofNat k) (hk : k < 256) : ((c.toNat : Int) == (k : Int)) = false := by
  simp only [beq_eq_false_iff_ne, ne_eq]
  intro e
  refine h (UInt8.toNat_inj.1 ?_)
  rw [UInt8.toNat_ofNat', Nat.mod_eq_of_lt hk]
  omega
theorem dig_of {c : UInt8} (h0 : 48 ≤ (c.toNat : Int)) (h1 : (c.toNat : Int) ≤ 57) : digB c = true := by
  unfold digB
  rw [decide_eq_true (UInt8.le_iff_toNat_le.2 (by show 48 ≤ c.toNat; omega)), decide_eq_true (UInt8.le_iff_toNat_le.2 (by show c.toNat ≤ 57; omega))]; rfl
theorem of_dig {c : UInt8} (h : digB c = true) : 48 ≤ (c.toNat : Int) ∧ (c.toNat : Int) ≤ 57 := by
  unfold digB at h
  rw [Bool.and_eq_true, decide_eq_true_eq, decide_eq_true_eq] at h
  have h0 : 48 ≤ c.toNat := UInt8.le_iff_toNat_le.1 h.1
  have h1 : c.toNat ≤ 57 := UInt8.le_iff_toNat_le.1 h.2
  omega
def valV (s : Bs) : Value := .tuple #[.int .i64 (valQ s).1, .int .i64 (((valQ s).2 : Nat) : Int)]
theorem value_any (s : Bs) (hs : s.length ≤ 9223372036854775807) (w : World) :
    Calls Tryd.prog 51 #[.string (strOf s)] w fun e w' => e = .returned (valV s) ∧ w = w' := by
  have hsI : (s.length : Int) ≤ 9223372036854775807 := by omega
  unfold valV
  obtain ⟨VQ, hVQ⟩ : ∃ VQ, valQ s = VQ := ⟨_, rfl⟩
  have hq := hVQ
  unfold valQ at hq
  rw [hVQ]
  clear hVQ
  by_cases hm : s.head? = some 45
  · rw [if_pos hm] at hq
    have hstart : valL true 0 1 (s.drop 1) = VQ := hq
    have hk1 : 1 ≤ s.length := by cases s with | nil => cases hm | cons c r => simp
    have hk0 : 0 < s.length := hk1
    have hkI0 : (0 : Int) < (s.length : Int) := by omega
    have hc0 : ∀ h, (strOf s)[0]'h = 45 := fun _ => by
      cases s with
      | nil => cases hm
      | cons c r =>
        have e : c = 45 := by simpa using hm
        exact e
    clear hq hm
    go_enter Tryd.func51, Tryd.ntmps51
    go_wp2_with fail
    go_loopw [4, 5] (fun s4 s5 wr => ∃ (n : Int) (k : Nat), s4 = .int .i64 n ∧ s5 = .int .i64 k ∧ k ≤ s.length ∧ Hid (valL true n k (s.drop k) = VQ) ∧ w = wr) (fun _ s5 _ => s.length - (intOf s5).toNat)
    case atStart => exact ⟨0, 1, rfl, rfl, hk1, Lib.hid hstart, rfl⟩
    case round =>
      obtain ⟨n, k, rfl, rfl, hk, HV, rfl⟩ := hrel
      by_cases hlt : k < s.length
      · have hkI : (k : Int) < (s.length : Int) := by omega
        have hd : s.drop k = s[k] :: s.drop (k + 1) := List.drop_eq_getElem_cons hlt
        have hv : valL true n k (s.drop k) = if digB s[k] = true ∧ k < 20 then valL true (valN true n s[k]) (k + 1) (s.drop (k + 1)) else (n, k) := by rw [hd]; rfl
        have hv2 := HV.out
        rw [hv] at hv2
        obtain ⟨c, hc⟩ : ∃ c, s[k] = c := ⟨_, rfl⟩
        have hci : ∀ h, (strOf s)[k]'h = c := fun _ => by rw [← hc]; rfl
        rw [hc] at hv2
        clear hd hv hc
        have hcn : (c.toNat : Int) ≤ 255 := by have := c.toNat_lt; omega
        by_cases h48 : 48 ≤ (c.toNat : Int)
        · by_cases h57 : (c.toNat : Int) ≤ 57
          · have hdg : digB c = true := dig_of h48 h57
            by_cases h20 : k < 20
            · have h20I : (k : Int) < 20 := by omega
              rw [if_pos ⟨hdg, h20⟩] at hv2
              have HV2 := Lib.hid hv2
              have hdv : valN true n c = IntKind.i64.wrap (IntKind.i64.wrap (10 * n) + -((c.toNat : Int) - 48)) := rfl
              have HDV := Lib.hid hdv
              clear hv2 hdg hdv
              go_wp2_with fail
              exact ⟨⟨valN true n c, k + 1, by rw [HDV.out, IntWalk.i64_left, IntWalk.i64_left], by first | rfl | (simp; done) | go_num, hlt, HV2, by first | rfl | trivial⟩, by simp [intOf]; omega⟩
            · have h20I : ¬ (k : Int) < 20 := by omega
              rw [if_neg (fun h => h20 h.2)] at hv2
              have HV2 := Lib.hid hv2
              clear hv2 hdg
              go_wp2_with fail
              go_ret2
              exact ⟨by rw [← HV2.out]; rfl, rfl⟩
          · rw [if_neg (fun h => h57 (of_dig h.1).2)] at hv2
            have HV2 := Lib.hid hv2
            clear hv2
            go_wp2_with fail
            go_ret2
            exact ⟨by rw [← HV2.out]; rfl, rfl⟩
        · rw [if_neg (fun h => h48 (of_dig h.1).1)] at hv2
          have HV2 := Lib.hid hv2
          clear hv2
          go_wp2_with fail
          go_ret2
          exact ⟨by rw [← HV2.out]; rfl, rfl⟩
      · have he : k = s.length := by omega
        subst he
        have hv2 := HV.out
        rw [List.drop_length] at hv2
        have HV2 : Hid ((n, s.length) = VQ) := Lib.hid hv2
        clear hv2
        go_wp2_with fail
        go_ret2
        exact ⟨by rw [← HV2.out]; rfl, rfl⟩
  · rw [if_neg hm] at hq
    have hstart : valL false 0 0 (s.drop 0) = VQ := hq
    clear hq
    by_cases hn : s = []
    · subst hn
      clear hm
      have HV2 : Hid (((0 : Int), (0 : Nat)) = VQ) := Lib.hid hstart
      clear hstart
      go_enter Tryd.func51, Tryd.ntmps51
      go_wp2_with fail
      go_loopw [4, 5] (fun s4 s5 wr => s4 = .int .i64 0 ∧ s5 = .int .i64 0 ∧ w = wr) (fun _ _ _ => 0)
      case atStart => exact ⟨rfl, rfl, rfl⟩
      case round =>
        obtain ⟨rfl, rfl, rfl⟩ := hrel
        go_wp2_with fail
        go_ret2
        exact ⟨by rw [← HV2.out]; rfl, rfl⟩
    · have hk0 : 0 < s.length := List.length_pos_iff.2 hn
      have hkI0 : (0 : Int) < (s.length : Int) := by omega
      obtain ⟨c0, hc00⟩ : ∃ c0, s[0] = c0 := ⟨_, rfl⟩
      have hc0 : ∀ h, (strOf s)[0]'h = c0 := fun _ => by rw [← hc00]; rfl
      have hne : c0 ≠ 45 := by
        intro e
        refine hm ?_
        cases s with
        | nil => exact absurd rfl hn
        | cons c r =>
          have : c = c0 := hc00
          rw [List.head?_cons, this, e]
      have hn45 : ((c0.toNat : Int) == 45) = false := ne_byteV hne (by decide)
      have hm45 : ¬ (c0.toNat : Int) = 45 := by simpa using hn45
      clear hm hc00 hne
      go_enter Tryd.func51, Tryd.ntmps51
      go_wp2_with fail
      go_loopw [4, 5] (fun s4 s5 wr => ∃ (n : Int) (k : Nat), s4 = .int .i64 n ∧ s5 = .int .i64 k ∧ k ≤ s.length ∧ Hid (valL false n k (s.drop k) = VQ) ∧ w = wr) (fun _ s5 _ => s.length - (intOf s5).toNat)
      case atStart => exact ⟨0, 0, rfl, rfl, Nat.zero_le _, Lib.hid hstart, rfl⟩
      case round =>
        obtain ⟨n, k, rfl, rfl, hk, HV, rfl⟩ := hrel
        by_cases hlt : k < s.length
        · have hkI : (k : Int) < (s.length : Int) := by omega
          have hd : s.drop k = s[k] :: s.drop (k + 1) := List.drop_eq_getElem_cons hlt
          have hv : valL false n k (s.drop k) = if digB s[k] = true ∧ k < 20 then valL false (valN false n s[k]) (k + 1) (s.drop (k + 1)) else (n, k) := by rw [hd]; rfl
          have hv2 := HV.out
          rw [hv] at hv2
          obtain ⟨c, hc⟩ : ∃ c, s[k] = c := ⟨_, rfl⟩
          have hci : ∀ h, (strOf s)[k]'h = c := fun _ => by rw [← hc]; rfl
          rw [hc] at hv2
          clear hd hv hc
          have hcn : (c.toNat : Int) ≤ 255 := by have := c.toNat_lt; omega
          by_cases h48 : 48 ≤ (c.toNat : Int)
          · by_cases h57 : (c.toNat : Int) ≤ 57
            · have hdg : digB c = true := dig_of h48 h57
              by_cases h20 : k < 20
              · have h20I : (k : Int) < 20 := by omega
                rw [if_pos ⟨hdg, h20⟩] at hv2
                have HV2 := Lib.hid hv2
                have hdv : valN false n c = IntKind.i64.wrap (IntKind.i64.wrap (10 * n) + ((c.toNat : Int) - 48)) := rfl
                have HDV := Lib.hid hdv
                clear hv2 hdg hdv
                go_wp2_with fail
                exact ⟨⟨valN false n c, k + 1, by rw [HDV.out, IntWalk.i64_left, IntWalk.i64_left], by first | rfl | (simp; done) | go_num, hlt, HV2, by first | rfl | trivial⟩, by simp [intOf]; omega⟩
              · have h20I : ¬ (k : Int) < 20 := by omega
                rw [if_neg (fun h => h20 h.2)] at hv2
                have HV2 := Lib.hid hv2
                clear hv2 hdg
                go_wp2_with fail
                go_ret2
                exact ⟨by rw [← HV2.out]; rfl, rfl⟩
            · rw [if_neg (fun h => h57 (of_dig h.1).2)] at hv2
              have HV2 := Lib.hid hv2
              clear hv2
              go_wp2_with fail
              go_ret2
              exact ⟨by rw [← HV2.out]; rfl, rfl⟩
          · rw [if_neg (fun h => h48 (of_dig h.1).1)] at hv2
            have HV2 := Lib.hid hv2
            clear hv2
            go_wp2_with fail
            go_ret2
            exact ⟨by rw [← HV2.out]; rfl, rfl⟩
        · have he : k = s.length := by omega
          subst he
          have hv2 := HV.out
          rw [List.drop_length] at hv2
          have HV2 : Hid ((n, s.length) = VQ) := Lib.hid hv2
          clear hv2
          go_wp2_with fail
          go_ret2
          exact ⟨by rw [← HV2.out]; rfl, rfl⟩
end Go.Proofs.YtgdnnaiidmfncaaDoor

namespace Go.Proofs.YtgdnnaiidmfncaaDoor
open Go.RowKit
set_option maxHeartbeats 4000000
set_option maxRecDepth 100000

theorem part_fits (X : Ins) (hX : FitsI X) (h : rightI X = true) (c : UInt8) (hc : c ∈ (rowI X.op).2) (v : Int) (hp : partI X c = some v) : -9223372036854775808 ≤ v ∧ v ≤ 9223372036854775807 := by
  obtain ⟨hm, _⟩ := (foldR_spec X _ _ _).1 (right_open h).1
  have h76 : c ≠ 76 := by
    intro e; subst e
    have : (none : Option Int) = some v := hp
    cases this
  refine may_fits X hX c v ?_ hp (hm c hc h76 v hp)
  unfold partI at hp
  unfold numC
  by_cases h1 : c = 68
  · subst h1; rfl
  rw [if_neg h1] at hp
  by_cases h2 : c = 65
  · subst h2; rfl
  rw [if_neg h2] at hp
  by_cases h3 : c = 66
  · subst h3; rfl
  rw [if_neg h3] at hp
  by_cases h4 : c = 78 ∨ c = 83
  · rcases h4 with rfl | rfl <;> rfl
  · rw [if_neg h4] at hp; cases hp
theorem piece_len (X : Ins) (hX : FitsI X) (h : rightI X = true) (c : UInt8) (hc : c ∈ (rowI X.op).2) : (pieceI X c).length ≤ 42 := by
  unfold pieceI
  split
  · have := right_name h; omega
  · cases hp : partI X c with
    | none => simp
    | some v =>
      obtain ⟨v0, v1⟩ := part_fits X hX h c hc v hp
      have := Lib.itoa_length_le v v0 v1
      dsimp only
      split
      · omega
      · simp; omega
theorem rpieces_len (X : Ins) (hX : FitsI X) (h : rightI X = true) : ∀ f : Bs, (∀ c, c ∈ f → c ∈ (rowI X.op).2) → (f.flatMap (pieceI X)).length ≤ 42 * f.length
  | [], _ => by simp
  | c :: f, hf => by
    have h1 := piece_len X hX h c (hf c (List.mem_cons_self ..))
    have h2 := rpieces_len X hX h f (fun d hd => hf d (List.mem_cons_of_mem _ hd))
    rw [List.flatMap_cons, List.length_append, List.length_cons]; omega
theorem ne_byte {c : UInt8} {k : Nat} (h : c ≠ UInt8.ofNat k) (hk : k < 256) : ((c.toNat : Int) == (k : Int)) = false := by
  simp only [beq_eq_false_iff_ne, ne_eq]
  intro e
  refine h (UInt8.toNat_inj.1 ?_)
  rw [UInt8.toNat_ofNat', Nat.mod_eq_of_lt hk]
  omega
theorem ext_one (l : Bs) (k : Nat) (c : UInt8) (h : k < l.length) (hc : l[k] = c) : (strOf l).extract k (k + 1) = strOf [c] := by
  apply ByteArray.ext
  rw [ByteArray.data_extract]
  apply Array.toList_inj.1
  show (l.toArray.extract k (k + 1)).toList = [c]
  rw [Array.toList_extract, List.extract_eq_take_drop, Nat.add_sub_cancel_left]
  show (l.drop k).take 1 = [c]
  rw [List.drop_eq_getElem_cons h, hc]; rfl
theorem app3 (P D : Bs) : strOf P ++ ⟨#[120]⟩ ++ strOf D = strOf (P ++ 120 :: D) := by
  rw [show (⟨#[120]⟩ : ByteArray) = strOf [120] from rfl, strOf_append, strOf_append, List.append_assoc]; rfl
theorem refprint_any (x : Ins) (hx : FitsI x) (hn : x.name.length ≤ 9223372036854775807) (w : World) :
    Calls Tryd.prog 7 #[insV x] w fun e w' => e = .returned (printV x) ∧ Below w.heap.size w w' := by
  have HO1 := Lib.hid (OwnAt.new w (insCells x) 23)
  have HB1 := Lib.hid ((Below.refl w.heap.size w).alloc (Nat.le_refl _) (.cells (insCells x).toArray 23))
  have HR := Lib.hid (fun w1 => refright_any x hn w1)
  unfold printV
  cases hr : rightI x with
  | false =>
    rw [if_neg (by simp)]
    rw [hr] at HR
    clear hr
    unfold insV at HR ⊢
    go_enter Tryd.func7, Tryd.ntmps7
    go_wp2_with fail
    refine (HR.out _).mono ?_
    rintro e w1 ⟨rfl, hb1⟩
    have HB2 := Lib.hid (HB1.out.trans (hb1.mono HB1.out.size))
    clear hb1
    go_wp2_with fail
    go_ret2
    exact ⟨rfl, HB2.out⟩
  | true =>
    rw [if_pos rfl]
    rw [hr] at HR
    have HPC := Lib.hid (fun c hc => part_fits x hx hr c hc)
    have HPL := Lib.hid (fun c hc => piece_len x hx hr c hc)
    have HFL := Lib.hid (fun f hf => rpieces_len x hx hr f hf)
    have hnm := right_name hr
    have HFM := Lib.hid (fun w' => form_any x.op w')
    unfold formsV at HFM
    have hlens := form_len x.op
    have htx : textI x = (rowI x.op).1 ++ ((if (rowI x.op).2 = [] then [] else [32]) ++ (rowI x.op).2.flatMap (pieceI x)) := rfl
    have HTX := Lib.hid htx
    clear hr htx
    obtain ⟨r, hr⟩ : ∃ r, rowI x.op = r := ⟨_, rfl⟩
    obtain ⟨word, form⟩ := r
    rw [hr] at HFM hlens HPC HPL HFL HTX
    clear hr
    dsimp only at HFM hlens HPC HPL HFL HTX
    obtain ⟨hw5, hf7⟩ := hlens
    have hf7I : (form.length : Int) ≤ 7 := by omega
    obtain ⟨P0, hP0⟩ : ∃ P0, word ++ (if form = [] then [] else [32]) = P0 := ⟨_, rfl⟩
    have hp0l : P0.length ≤ 6 := by
      rw [← hP0, List.length_append]
      split
      · simp; omega
      · simp; omega
    have HT2 : Hid (textI x = P0 ++ form.flatMap (pieceI x)) := Lib.hid (by rw [HTX.out, ← hP0, List.append_assoc])
    have HP0 := Lib.hid hP0
    clear HTX hP0
    have HNB := Lib.hid (fun (n : Int) h0 h1 w' => number_any n.natAbs n rfl h0 h1 w')
    unfold insV at HR ⊢
    obtain ⟨TX, hTX⟩ : ∃ TX, textI x = TX := ⟨_, rfl⟩
    rw [hTX] at HT2 ⊢
    clear hTX
    go_enter Tryd.func7, Tryd.ntmps7
    go_wp2_with fail
    refine (HR.out _).mono ?_
    rintro e w1 ⟨rfl, hb1⟩
    have HB2 := Lib.hid (HB1.out.trans (hb1.mono HB1.out.size))
    have HO2 := Lib.hid (HO1.out.old hb1)
    clear hb1 HO1 HB1 HR
    have hl1 := HO2.out.lt
    have c0 := HO2.out.at 0 _ rfl
    go_wp2_with fail
    refine (HFM.out _).mono ?_
    rintro e w2 ⟨rfl, hb2⟩
    have HB3 := Lib.hid (HB2.out.trans (hb2.mono HB2.out.size))
    have HO3 := Lib.hid (HO2.out.old hb2)
    clear hb2 HO2 HB2 HFM hl1 c0
    have hno1 : ¬ ((strOf word).size + 1 > 9223372036854775807) := by
      show ¬ (word.toArray.size + 1 > _)
      simp; omega
    by_cases hfe : form = []
    · have hpe : P0 = word := by rw [← HP0.out, if_pos hfe, List.append_nil]
      have hte : TX = word := by rw [HT2.out, hfe, hpe]; simp
      subst hfe
      go_wp2_with fail
      go_loopw [5, 7] (fun s5 s7 wr => s7 = .int .i64 0 ∧ s5 = .string (strOf word) ∧ w2 = wr) (fun _ _ _ => 0)
      case atStart => exact ⟨rfl, rfl, rfl⟩
      case round =>
        obtain ⟨rfl, rfl, rfl⟩ := hrel
        go_wp2_with fail
        go_ret2
        exact ⟨by rw [hte]; rfl, HB3.out⟩
    · have hfe2 : form.isEmpty = false := by simpa using hfe
      have hpe : P0 = word ++ [32] := by rw [← HP0.out, if_neg hfe]
      go_wp2_with fail
      have HPE := Lib.hid hpe
      clear hno1 hpe
      go_loopw [5, 7] (fun s5 s7 wr => ∃ (k : Nat) (P : Bs), k ≤ form.length ∧ s7 = .int .i64 k ∧ s5 = .string (strOf P) ∧ Hid (P = P0 ++ (form.take k).flatMap (pieceI x)) ∧ Hid (OwnAt wr w.heap.size (insCells x) 23) ∧ Hid (Below w.heap.size w wr)) (fun _ s7 _ => form.length - (intOf s7).toNat)
      case atStart => exact ⟨0, word ++ [32], Nat.zero_le _, rfl, by first | rfl | exact congrArg Value.string (strOf_append word [32]), Lib.hid (by rw [HPE.out]; simp), HO3, HB3⟩
      case round =>
        obtain ⟨k, P, hk, rfl, rfl, HP, GO, GB⟩ := hrel
        by_cases hlt : k < form.length
        · have hkI : (k : Int) < (form.length : Int) := by omega
          have i1 := GO.out.at 1 _ rfl
          have i2 := GO.out.at 2 _ rfl
          have i3 := GO.out.at 3 _ rfl
          have i4 := GO.out.at 4 _ rfl
          have i5 := GO.out.at 5 _ rfl
          have gl := GO.out.lt
          have hmem : form[k] ∈ form := List.getElem_mem hlt
          have htk : (form.take (k + 1)).flatMap (pieceI x) = (form.take k).flatMap (pieceI x) ++ pieceI x form[k] := by
            rw [List.take_add_one, List.getElem?_eq_getElem hlt, List.flatMap_append]
            show _ ++ ([form[k]].flatMap (pieceI x)) = _
            rw [List.flatMap_cons, List.flatMap_nil, List.append_nil]
          have hpl := HFL.out (form.take k) (fun c hc => List.mem_of_mem_take hc)
          rw [List.length_take] at hpl
          have hP := HP.out.symm
          have hPl : P.length ≤ 400 := by rw [← hP, List.length_append]; omega
          have hnx : P0 ++ (form.take (k + 1)).flatMap (pieceI x) = P ++ pieceI x form[k] := by rw [htk, ← List.append_assoc, hP]
          have hpfc := HPC.out form[k] hmem
          have hplc := HPL.out form[k] hmem
          obtain ⟨c, hc⟩ : ∃ c, form[k] = c := ⟨_, rfl⟩
          have hci : ∀ h, (strOf form)[k]'h = c := fun _ => by rw [← hc]; rfl
          have hck := hc
          rw [hc] at hnx hpfc hplc
          have HNX := Lib.hid hnx
          clear hc hmem htk hpl hP hnx
          have hPs : (strOf P).size = P.length := by show P.toArray.size = _; simp
          have hno2 : ¬ ((strOf P).size + 1 > 9223372036854775807) := by omega
          have HPs := Lib.hid hPs
          clear hPs
          by_cases h68 : c = 68
          · subst h68
            obtain ⟨v0, v1⟩ := hpfc x.d rfl
            have hpi : pieceI x 68 = 120 :: Lib.itoa x.d := rfl
            rw [hpi] at hplc
            have HPI := Lib.hid hpi
            clear hpi hpfc
            obtain ⟨D, hD⟩ : ∃ D, Lib.itoa x.d = D := ⟨_, rfl⟩
            have HNN := Lib.hid (fun w' => HNB.out x.d v0 v1 w')
            rw [hD] at HNN HPI hplc
            clear hD
            rw [List.length_cons] at hplc
            have hDs : (strOf D).size = D.length := by show D.toArray.size = _; simp
            have hno3 : ¬ ((strOf P).size + 1 + (strOf D).size > 9223372036854775807) := by have := HPs.out; omega
            clear hDs
            go_wp2_with fail
            refine (HNN.out _).mono ?_
            rintro e w6 ⟨rfl, hb6⟩
            have GB6 := Lib.hid (GB.out.trans (hb6.mono GB.out.size))
            have GO6 := Lib.hid (GO.out.old hb6)
            clear hb6
            go_wp2_with fail
            exact ⟨⟨k + 1, P ++ 120 :: D, hlt, by first | rfl | (simp; done) | go_num, by first | rfl | exact congrArg Value.string (app3 P D), Lib.hid (by rw [HNX.out, HPI.out]), GO6, GB6⟩, by simp [intOf]; omega⟩
          by_cases h65 : c = 65
          · subst h65
            obtain ⟨v0, v1⟩ := hpfc x.a rfl
            have hpi : pieceI x 65 = 120 :: Lib.itoa x.a := rfl
            rw [hpi] at hplc
            have HPI := Lib.hid hpi
            clear hpi hpfc
            obtain ⟨D, hD⟩ : ∃ D, Lib.itoa x.a = D := ⟨_, rfl⟩
            have HNN := Lib.hid (fun w' => HNB.out x.a v0 v1 w')
            rw [hD] at HNN HPI hplc
            clear hD
            rw [List.length_cons] at hplc
            have hDs : (strOf D).size = D.length := by show D.toArray.size = _; simp
            have hno3 : ¬ ((strOf P).size + 1 + (strOf D).size > 9223372036854775807) := by have := HPs.out; omega
            clear hDs
            go_wp2_with fail
            refine (HNN.out _).mono ?_
            rintro e w6 ⟨rfl, hb6⟩
            have GB6 := Lib.hid (GB.out.trans (hb6.mono GB.out.size))
            have GO6 := Lib.hid (GO.out.old hb6)
            clear hb6
            go_wp2_with fail
            exact ⟨⟨k + 1, P ++ 120 :: D, hlt, by first | rfl | (simp; done) | go_num, by first | rfl | exact congrArg Value.string (app3 P D), Lib.hid (by rw [HNX.out, HPI.out]), GO6, GB6⟩, by simp [intOf]; omega⟩
          by_cases h66 : c = 66
          · subst h66
            obtain ⟨v0, v1⟩ := hpfc x.b rfl
            have hpi : pieceI x 66 = 120 :: Lib.itoa x.b := rfl
            rw [hpi] at hplc
            have HPI := Lib.hid hpi
            clear hpi hpfc
            obtain ⟨D, hD⟩ : ∃ D, Lib.itoa x.b = D := ⟨_, rfl⟩
            have HNN := Lib.hid (fun w' => HNB.out x.b v0 v1 w')
            rw [hD] at HNN HPI hplc
            clear hD
            rw [List.length_cons] at hplc
            have hDs : (strOf D).size = D.length := by show D.toArray.size = _; simp
            have hno3 : ¬ ((strOf P).size + 1 + (strOf D).size > 9223372036854775807) := by have := HPs.out; omega
            clear hDs
            go_wp2_with fail
            refine (HNN.out _).mono ?_
            rintro e w6 ⟨rfl, hb6⟩
            have GB6 := Lib.hid (GB.out.trans (hb6.mono GB.out.size))
            have GO6 := Lib.hid (GO.out.old hb6)
            clear hb6
            go_wp2_with fail
            exact ⟨⟨k + 1, P ++ 120 :: D, hlt, by first | rfl | (simp; done) | go_num, by first | rfl | exact congrArg Value.string (app3 P D), Lib.hid (by rw [HNX.out, HPI.out]), GO6, GB6⟩, by simp [intOf]; omega⟩
          by_cases h78 : c = 78
          · subst h78
            obtain ⟨v0, v1⟩ := hpfc x.n rfl
            have hpi : pieceI x 78 = Lib.itoa x.n := rfl
            rw [hpi] at hplc
            have HPI := Lib.hid hpi
            clear hpi hpfc
            obtain ⟨D, hD⟩ : ∃ D, Lib.itoa x.n = D := ⟨_, rfl⟩
            have HNN := Lib.hid (fun w' => HNB.out x.n v0 v1 w')
            rw [hD] at HNN HPI hplc
            clear hD
            have hDs : (strOf D).size = D.length := by show D.toArray.size = _; simp
            have hno3 : ¬ ((strOf P).size + (strOf D).size > 9223372036854775807) := by have := HPs.out; omega
            clear hDs
            go_wp2_with fail
            refine (HNN.out _).mono ?_
            rintro e w6 ⟨rfl, hb6⟩
            have GB6 := Lib.hid (GB.out.trans (hb6.mono GB.out.size))
            have GO6 := Lib.hid (GO.out.old hb6)
            clear hb6
            go_wp2_with fail
            exact ⟨⟨k + 1, P ++ D, hlt, by first | rfl | (simp; done) | go_num, by first | rfl | exact congrArg Value.string (strOf_append P D), Lib.hid (by rw [HNX.out, HPI.out]), GO6, GB6⟩, by simp [intOf]; omega⟩
          by_cases h83 : c = 83
          · subst h83
            obtain ⟨v0, v1⟩ := hpfc x.n rfl
            have hpi : pieceI x 83 = Lib.itoa x.n := rfl
            rw [hpi] at hplc
            have HPI := Lib.hid hpi
            clear hpi hpfc
            obtain ⟨D, hD⟩ : ∃ D, Lib.itoa x.n = D := ⟨_, rfl⟩
            have HNN := Lib.hid (fun w' => HNB.out x.n v0 v1 w')
            rw [hD] at HNN HPI hplc
            clear hD
            have hDs : (strOf D).size = D.length := by show D.toArray.size = _; simp
            have hno3 : ¬ ((strOf P).size + (strOf D).size > 9223372036854775807) := by have := HPs.out; omega
            clear hDs
            go_wp2_with fail
            refine (HNN.out _).mono ?_
            rintro e w6 ⟨rfl, hb6⟩
            have GB6 := Lib.hid (GB.out.trans (hb6.mono GB.out.size))
            have GO6 := Lib.hid (GO.out.old hb6)
            clear hb6
            go_wp2_with fail
            exact ⟨⟨k + 1, P ++ D, hlt, by first | rfl | (simp; done) | go_num, by first | rfl | exact congrArg Value.string (strOf_append P D), Lib.hid (by rw [HNX.out, HPI.out]), GO6, GB6⟩, by simp [intOf]; omega⟩
          by_cases h76 : c = 76
          · subst h76
            have hpi : pieceI x 76 = x.name := rfl
            have HPI := Lib.hid hpi
            have hNs : (strOf x.name).size = x.name.length := by show x.name.toArray.size = _; simp
            have hno3 : ¬ ((strOf P).size + (strOf x.name).size > 9223372036854775807) := by have := HPs.out; omega
            clear hpi hpfc hplc hNs
            go_wp2_with fail
            exact ⟨⟨k + 1, P ++ x.name, hlt, by first | rfl | (simp; done) | go_num, by first | rfl | exact congrArg Value.string (strOf_append P x.name), Lib.hid (by rw [HNX.out, HPI.out]), GO, GB⟩, by simp [intOf]; omega⟩
          · have hpi : pieceI x c = [c] := by
              unfold pieceI partI
              rw [if_neg h76, if_neg h68, if_neg h65, if_neg h66, if_neg (by rintro (h | h) <;> contradiction)]
            have HPI := Lib.hid hpi
            clear hpi hpfc hplc
            have n68 : ((c.toNat : Int) == 68) = false := ne_byte h68 (by decide)
            have n65 : ((c.toNat : Int) == 65) = false := ne_byte h65 (by decide)
            have n66 : ((c.toNat : Int) == 66) = false := ne_byte h66 (by decide)
            have n78 : ((c.toNat : Int) == 78) = false := ne_byte h78 (by decide)
            have n83 : ((c.toNat : Int) == 83) = false := ne_byte h83 (by decide)
            have n76 : ((c.toNat : Int) == 76) = false := ne_byte h76 (by decide)
            have m68 : ¬ (c.toNat : Int) = 68 := by simpa using n68
            have m65 : ¬ (c.toNat : Int) = 65 := by simpa using n65
            have m66 : ¬ (c.toNat : Int) = 66 := by simpa using n66
            have m78 : ¬ (c.toNat : Int) = 78 := by simpa using n78
            have m83 : ¬ (c.toNat : Int) = 83 := by simpa using n83
            have m76 : ¬ (c.toNat : Int) = 76 := by simpa using n76
            have HEX := Lib.hid (ext_one form k c hlt hck)
            go_wp2_with fail
            exact ⟨⟨k + 1, P ++ [c], hlt, by first | rfl | (simp; done) | go_num, congrArg Value.string (by rw [HEX.out, strOf_append]), Lib.hid (by rw [HNX.out, HPI.out]), GO, GB⟩, by simp [intOf]; omega⟩
        · have he : k = form.length := by omega
          subst he
          have hend : P = TX := by rw [HP.out, List.take_length]; exact HT2.out.symm
          subst hend
          go_wp2_with fail
          go_ret2
          exact ⟨rfl, GB.out⟩
end Go.Proofs.YtgdnnaiidmfncaaDoor
