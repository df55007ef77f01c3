/-
  words: the pieces of a text. Condition: it has at most 2^32 bytes.
  Parse: the instruction of a text. Conditions: the text has at most 100000 bytes; the library's variables lie in memory.
-/
import Derived.Test.YtgdnnaiidmfncaaDoorInstrA
import Derived.Test.YtgdnnaiidmfncaaDoorInstrB
import Derived.Test.YtgdnnaiidmfncaaDoorScanSh
import Derived.Test.YtgdnnaiidmfncaaDoorInstrD
set_option linter.unusedVariables false
set_option linter.unusedSimpArgs false
namespace Go.Proofs.YtgdnnaiidmfncaaDoor
open Go.RowKit
set_option maxHeartbeats 4000000
set_option maxRecDepth 100000

theorem row_at {w : World} {base size n g : Nat} {e : TypeId} {cap : Nat} {xs : List Value} (h : w.ownsRow base e size (.slice (some ⟨g, 0, none⟩) n cap) n xs) (j : Nat) (u : Value) (hu : xs[j]? = some u) : w.cell? ⟨g, j, none⟩ = some u := by
  have h1 := h.cells (g := g) rfl j u hu
  have h2 : (⟨g, 0, none⟩ : Addr).add j = ⟨g, j, none⟩ := by unfold Addr.add; split <;> simp_all
  rwa [h2] at h1
theorem sepf_any (x : Nat) (w : World) : Calls Tryd.prog 47 #[.int .i32 (x : Nat)] w fun e w' => e = .returned (.bool (sepI x)) ∧ ∃ q, w' = w.drewN q := by
  have hs : sepI x = (decide ((x : Int) = 32) || decide ((x : Int) = 44) || decide ((x : Int) = 40) || decide ((x : Int) = 41)) := by
    rw [Bool.eq_iff_iff]; simp [sepI]; omega
  rw [hs]
  clear hs
  obtain ⟨z, hz⟩ : ∃ z : Int, (x : Int) = z := ⟨_, rfl⟩
  rw [hz]
  clear hz
  go_enter Tryd.func47, Tryd.ntmps47
  by_cases h1 : z = 32
  · subst h1
    go_wp2
    go_ret
    exact ⟨rfl, 0, rfl⟩
  · have g1 : (z == 32) = false := by simpa using h1
    by_cases h2 : z = 44
    · subst h2
      go_wp2
      go_ret
      exact ⟨rfl, 0, rfl⟩
    · have g2 : (z == 44) = false := by simpa using h2
      by_cases h3 : z = 40
      · subst h3
        go_wp2
        go_ret
        exact ⟨rfl, 0, rfl⟩
      · have g3 : (z == 40) = false := by simpa using h3
        have e1 : (decide (z = 32) || decide (z = 44) || decide (z = 40) || decide (z = 41)) = (z == 41) := by
          rw [Bool.eq_iff_iff]; simp [h1, h2, h3]
        by_cases h4 : z = 41
        · subst h4
          go_wp2
          go_ret
          exact ⟨rfl, 0, rfl⟩
        · have g4 : (z == 41) = false := by simpa using h4
          have e2 : (decide (z = 32) || decide (z = 44) || decide (z = 40) || decide (z = 41)) = false := by rw [e1, g4]
          have E2 := Lib.hid e2
          clear e1 e2 h1 h2 h3 h4
          go_wp2
          go_ret
          exact ⟨ret_bool E2.out.symm, 0, rfl⟩
theorem words_len {s t : Bs} (h : t ∈ wordsI s) : t.length ≤ s.length := by
  unfold wordsI Lib.goFieldsP at h
  rw [List.map_map] at h
  obtain ⟨x, _, rfl⟩ := List.mem_map.1 h
  show ((strOf s).extract x.1 x.2).data.toList.length ≤ _
  rw [ByteArray.data_extract]
  simp [strOf]
  omega
theorem words_any (s : Bs) (hs : s.length ≤ 1000000) (w : World) :
    Calls Tryd.prog 36 #[.string (strOf s)] w fun e w' => ∃ A, e = .returned (.slice (some ⟨A, 0, none⟩) (wordsI s).length (wordsI s).length) ∧ w.heap.size ≤ A ∧ (∀ j t, (wordsI s)[j]? = some t → w'.cell? ⟨A, j, none⟩ = some (.string (strOf t))) ∧ Below w.heap.size w w' := by
  have hz : (strOf s).size ≤ 4294967296 := by show s.toArray.size ≤ _; simp; omega
  have hl : (Lib.goFieldsP sepI (strOf s)).length = (wordsI s).length := by unfold wordsI; rw [List.length_map]
  have HFF := Lib.hid (Tryd.strings_FieldsFunc_runes 47 #[] (enters_of Tryd.func47 (by kernel_rfl) rfl) sepI (strOf s) w hz (fun W x hx hb => sepf_any x W))
  rw [hl] at HFF
  have HL := Lib.hid hl
  clear hl hz
  go_enter Tryd.func36, Tryd.ntmps36
  go_wp2_with fail
  refine HFF.out.mono ?_
  rintro e w1 ⟨A, rfl, hA, hown, hb⟩
  have HC : Hid (∀ j t, (wordsI s)[j]? = some t → w1.cell? ⟨A, j, none⟩ = some (.string (strOf t))) := by
    intro j t ht
    refine row_at hown j _ ?_
    unfold wordsI at ht
    rw [List.getElem?_map] at ht ⊢
    cases hg : (Lib.goFieldsP sepI (strOf s))[j]? with
    | none => rw [hg] at ht; cases ht
    | some b =>
      rw [hg] at ht
      cases ht
      rfl
  have HB := Lib.hid hb
  clear hown hb
  go_wp2_with fail
  go_ret
  exact ⟨A, rfl, hA, HC.out, HB.out⟩
theorem words_form (op : Int) : wordsI (rowI op).2 = (keysB (rowI op).2).map fun c => [c] := by
  obtain ⟨ha, hf, _⟩ := row_ok op
  rw [wordsI_ascii _ (fun c hc => (hf c hc).2)]
  have := fields_alt (fun c => [c]) (fun _ _ => rfl) (rowI op).2 (fun c _ hs => ⟨List.cons_ne_nil _ _, fun d hd => by rw [List.mem_singleton.1 hd]; exact hs⟩) ha
  simpa using this
theorem atoiV_fits (t : Bs) : -9223372036854775808 ≤ atoiV t ∧ atoiV t ≤ 9223372036854775807 := by
  unfold atoiV
  split
  · rename_i v h
    cases t with
    | nil => simp [Lib.atoiAll] at h
    | cons c r =>
      simp only [Lib.atoiAll] at h
      split at h
      · cases h
      · cases h
      · rename_i u hu
        split at h
        · cases h
        · split at h
          · cases h
          · rename_i h1 h2
            injection h with h
            rw [← h]
            split <;> rename_i h3 <;> omega
  · unfold Lib.atoiSat
    split <;> omega
  · omega
end Go.Proofs.YtgdnnaiidmfncaaDoor

namespace Go.Proofs.YtgdnnaiidmfncaaDoor
open Go.RowKit
set_option maxHeartbeats 4000000
set_option maxRecDepth 100000

def parseV : Option Ins → Value
  | some x => .tuple #[insV x, .int .i64 0]
  | none => .tuple #[insV (zeroI 0), .int .i64 60]
/-- What a piece of a text is read as, at a form's character. -/
theorem step_cases (o : Ins) (c : UInt8) (t : Bs) (h : keyB c = true) :
    ((∀ b, partP b c = .pointer none) ∧ stepP o [c] t = { o with name := t } ∧ (insCells o).set 5 (.string (strOf t)) = insCells { o with name := t }) ∨
    (∃ (j : Nat) (v0 : Int) (o' : Ins), (∀ b, partP b c = .pointer (some ⟨b, j, none⟩)) ∧ stepP o [c] t = o' ∧ (insCells o)[j]? = some (.int .i64 v0) ∧ (insCells o).set j (.int .i64 (atoiV (Lib.trimPrefix t [120]))) = insCells o' ∧ o'.name = o.name ∧ (FitsI o → FitsI o')) := by
  have hf := atoiV_fits (Lib.trimPrefix t [120])
  rcases keys_cases h with rfl | rfl | rfl | rfl | rfl | rfl
  · exact .inr ⟨1, o.d, _, fun _ => rfl, rfl, rfl, rfl, rfl, fun h => h⟩
  · exact .inr ⟨2, o.a, _, fun _ => rfl, rfl, rfl, rfl, rfl, fun h => h⟩
  · exact .inr ⟨3, o.b, _, fun _ => rfl, rfl, rfl, rfl, rfl, fun h => h⟩
  · exact .inr ⟨4, o.n, _, fun _ => rfl, rfl, rfl, rfl, rfl, fun _ => hf⟩
  · exact .inr ⟨4, o.n, _, fun _ => rfl, rfl, rfl, rfl, rfl, fun _ => hf⟩
  · exact .inl ⟨fun _ => rfl, rfl, rfl⟩
theorem foldP_step (f t : Bs) (fs ts : List Bs) (o : Ins) : foldP (f :: fs) (t :: ts) o = foldP fs ts (stepP o f t) := rfl
theorem set6 (w0 w : World) (h : Below w0.heap.size w0 w) (v0 v1 v2 v3 v4 v5 : Value) : Below w0.heap.size w0 ((((((w.setCell ⟨w0.heap.size, 0, none⟩ v0).setCell ⟨w0.heap.size, 1, none⟩ v1).setCell ⟨w0.heap.size, 2, none⟩ v2).setCell ⟨w0.heap.size, 3, none⟩ v3).setCell ⟨w0.heap.size, 4, none⟩ v4).setCell ⟨w0.heap.size, 5, none⟩ v5) :=
  have st : ∀ (v : World) (i : Nat) (x : Value), Below w0.heap.size v (v.setCell ⟨w0.heap.size, i, none⟩ x) := fun v i x => (Below.refl _ _).setCell (p := ⟨w0.heap.size, i, none⟩) (Nat.le_refl _) x
  (((((h.trans (st _ _ _)).trans (st _ _ _)).trans (st _ _ _)).trans (st _ _ _)).trans (st _ _ _)).trans (st _ _ _)
theorem cell_other (w : World) (b b' i j : Nat) (v : Value) (h : b ≠ b') : (w.setCell ⟨b', j, none⟩ v).cell? ⟨b, i, none⟩ = w.cell? ⟨b, i, none⟩ := by
  unfold World.cell?
  rw [Below.heap_setCell _ _ _ _ h]
theorem byte_code (c : UInt8) (z : Int) (h : z = (c.toNat : Int)) : wrap32 z = (c.toNat : Int) := by
  have := c.toNat_lt
  subst h
  unfold wrap32
  omega
theorem parse_any (s : Bs) (hs : s.length ≤ 100000) (w : World) (hl : ILib w) :
    Calls Tryd.prog 16 #[.string (strOf s)] w fun e w' => e = .returned (parseV (parseI s)) ∧ Below w.heap.size w w' := by
  obtain ⟨m, hm⟩ := hl.max
  have hO0 : OwnAt (w.alloc (.cells (insCells (zeroI 0)).toArray 23)) w.heap.size (insCells (zeroI 0)) 23 := OwnAt.new w _ _
  have hB0 : Below w.heap.size w (w.alloc (.cells (insCells (zeroI 0)).toArray 23)) := (Below.refl _ _).alloc (Nat.le_refl _) _
  have HO0 := Lib.hid hO0
  have HB0 := Lib.hid hB0
  have HCUT := Lib.hid (Tryd.strings_Cut (strOf s) (strOf [32]) m (w.alloc (.cells (insCells (zeroI 0)).toArray 23)) (by show s.toArray.size < _; simp; omega) (below_keeps hB0 hm))
  have hcs : Lib.cut (strOf s).data.toList (strOf [32]).data.toList = Lib.cut s [32] := by simp [strOf]
  rw [hcs] at HCUT
  have hword : (Lib.cut s [32]).1.length ≤ s.length ∧ (Lib.cut s [32]).2.1.length ≤ s.length := by
    unfold Lib.cut
    split
    · simp; omega
    · simp
  obtain ⟨r, hr⟩ : ∃ r, Lib.cut s [32] = r := ⟨_, rfl⟩
  obtain ⟨word, rest, fnd⟩ := r
  rw [hr] at HCUT hword
  have hpi : parseI s = findI word rest s 28 1 := by unfold parseI; rw [hr]
  have HPI := Lib.hid hpi
  have HL := Lib.hid hl
  have hrl : rest.length ≤ 100000 := Nat.le_trans hword.2 hs
  rw [hpi]
  have HCUT2 : Hid (Calls Tryd.prog 35 #[.string (strOf s), .string (strOf [32])] (w.alloc (.cells (insCells (zeroI 0)).toArray 23)) fun e w' => e = .returned (.tuple #[.string (strOf word), .string (strOf rest), .bool fnd]) ∧ ∃ q, w' = (w.alloc (.cells (insCells (zeroI 0)).toArray 23)).drewN q) := HCUT.out
  clear HCUT
  clear hO0 hB0 hm hcs hr hword hpi hl
  go_enter Tryd.func16, Tryd.ntmps16
  go_wp2_with fail
  refine HCUT2.out.mono ?_
  rintro e w1 ⟨rfl, q, rfl⟩
  have hbd := below_drewN (Below.refl (w.alloc (.cells (insCells (zeroI 0)).toArray 23)).heap.size (w.alloc (.cells (insCells (zeroI 0)).toArray 23))) q
  have HO1 := Lib.hid (HO0.out.old hbd)
  have HB1 := Lib.hid (HB0.out.trans (hbd.mono HB0.out.size))
  obtain ⟨V, hV⟩ : ∃ V, (w.alloc (.cells (insCells (zeroI 0)).toArray 23)).drewN q = V := ⟨_, rfl⟩
  rw [hV] at HO1 HB1 ⊢
  clear hbd hV HO0 HB0 HCUT2
  obtain ⟨FI, hFI⟩ : ∃ FI, findI word rest s 28 1 = FI := ⟨_, rfl⟩
  have HFI := Lib.hid hFI
  go_wp2_with fail
  go_loopw [7] (fun s7 wr => ∃ op : Int, s7 = .int .i64 op ∧ 1 ≤ op ∧ op ≤ 29 ∧ Hid (OwnAt wr w.heap.size (insCells (zeroI 0)) 23) ∧ Hid (Below w.heap.size w wr) ∧ Hid (findI word rest s (29 - op).toNat op = findI word rest s 28 1)) (fun s7 _ => (29 - intOf s7).toNat)
  case atStart => exact ⟨1, rfl, by omega, by omega, HO1, HB1, Lib.hid rfl⟩
  case round =>
    obtain ⟨op, rfl, h1, h29, G1, G2, G3⟩ := hrel
    clear HO1 HB1 HPI hFI
    by_cases hlt : op ≤ 28
    · obtain ⟨r, hrow⟩ : ∃ r, rowI op = r := ⟨_, rfl⟩
      obtain ⟨wd, form⟩ := r
      have HRO := Lib.hid (fun w1 => rowOf_any op w1)
      have HROW := Lib.hid hrow
      rw [hrow] at HRO
      unfold rowV at HRO
      clear hrow
      have HFS : Hid (findI word rest s (29 - op).toNat op = if wd = word ∧ rightI (readI op rest) = true ∧ textI (readI op rest) = s then some (readI op rest) else findI word rest s (29 - (op + 1)).toNat (op + 1)) := by
        show _ = _
        obtain ⟨k, hk⟩ : ∃ k, (29 - op).toNat = k + 1 := ⟨(28 - op).toNat, by omega⟩
        have hk2 : (29 - (op + 1)).toNat = k := by omega
        rw [hk, hk2]
        show (if (rowI op).1 = word ∧ _ then _ else _) = _
        rw [HROW.out]
      go_wp2_with fail
      refine (HRO.out _).mono ?_
      rintro e w2 ⟨rfl, hb2⟩
      have G1a := Lib.hid (G1.out.old hb2)
      have G2a := Lib.hid (G2.out.trans (hb2.mono G2.out.size))
      have g1lt := G1a.out.lt
      have hbA : Below w2.heap.size w2 (w2.alloc (.cells #[.string (strOf wd), .string (strOf form)] 43)) := (Below.refl _ _).alloc (Nat.le_refl _) _
      have HP := Lib.hid (OwnAt.new w2 [.string (strOf wd), .string (strOf form)] 43)
      have hs3 : (w2.alloc (.cells #[.string (strOf wd), .string (strOf form)] 43)).heap.size = w2.heap.size + 1 := by simp
      have G1b := Lib.hid (G1a.out.old hbA)
      have G2b := Lib.hid (G2a.out.trans (hbA.mono G2a.out.size))
      have hX0 : w.heap.size < w2.heap.size := g1lt
      obtain ⟨X, hX⟩ : ∃ X, w2.heap.size = X := ⟨_, rfl⟩
      rw [hX] at HP hs3 hX0
      obtain ⟨W, hW⟩ : ∃ W, w2.alloc (.cells #[.string (strOf wd), .string (strOf form)] 43) = W := ⟨_, rfl⟩
      rw [hW] at HP hs3 G1b G2b
      have p0 := HP.out.at 0 _ rfl
      have p1 := HP.out.at 1 _ rfl
      clear hb2 hbA G1 G2 G1a G2a g1lt
      by_cases hw : wd = word
      · subst hw
        have hwe : (wd == wd) = true := by simp
        have hbY : Below W.heap.size W (W.alloc (.cells #[.int .i64 op, .int .i64 0, .int .i64 0, .int .i64 0, .int .i64 0, .string ⟨#[]⟩] 23)) := (Below.refl _ _).alloc (Nat.le_refl _) _
        have HQ := Lib.hid (show OwnAt (W.alloc (.cells #[.int .i64 op, .int .i64 0, .int .i64 0, .int .i64 0, .int .i64 0, .string ⟨#[]⟩] 23)) W.heap.size (insCells (zeroI op)) 23 from OwnAt.new W (insCells (zeroI op)) 23)
        rw [hs3] at HQ
        have G1c := Lib.hid (G1b.out.old hbY)
        have G2c := Lib.hid (G2b.out.trans (hbY.mono G2b.out.size))
        have hs4 : (W.alloc (.cells #[.int .i64 op, .int .i64 0, .int .i64 0, .int .i64 0, .int .i64 0, .string ⟨#[]⟩] 23)).heap.size = X + 1 + 1 := by simp [hs3]
        have p1' := (HP.out.old hbY).at 1 _ rfl
        have HPO := Lib.hid (HP.out.old hbY)
        have HWR := Lib.hid (fun w' => words_any rest (by omega) w')
        obtain ⟨ts, hts0⟩ : ∃ ts, wordsI rest = ts := ⟨_, rfl⟩
        have HTL : Hid (∀ t, t ∈ ts → t.length ≤ 100000) := fun t ht => by
          rw [← hts0] at ht
          exact Nat.le_trans (words_len ht) hrl
        have hfw := words_form op
        have hkb : ∀ c, c ∈ keysB (rowI op).2 → keyB c = true := fun c hc => by
          obtain ⟨h1, h2⟩ := keys_mem hc
          rcases ((row_ok op).2.1 c h1).1 with h' | h'
          · rw [h2] at h'; cases h'
          · exact h'
        have hff : form.length ≤ 7 := by have := (form_len op).2; rw [HROW.out] at this; exact this
        rw [HROW.out] at hfw hkb
        have HWF := Lib.hid (fun w' => words_any form (by omega) w')
        obtain ⟨fs, hfs0⟩ : ∃ fs, keysB form = fs := ⟨_, rfl⟩
        dsimp only at hfw hkb
        have hfsl : (keysB form).length ≤ form.length := List.length_filter_le _ _
        rw [hfs0] at hfw hkb hfsl
        have hfs7 : (fs.length : Int) ≤ 7 := by omega
        have HRD : Hid (readI op rest = foldP (fs.map fun c => [c]) ts (zeroI op)) := by
          show foldP (wordsI (rowI op).2) (wordsI rest) (zeroI op) = _
          rw [HROW.out, hts0]
          dsimp only
          rw [hfw]
        have HKB := Lib.hid hkb
        rw [hts0] at HWR
        rw [hfw] at HWF
        clear hkb hfw hts0 hfs0 G1b G2b hbY HP
        go_wp2_with fail
        refine (HWR.out _).mono ?_
        rintro e w5 ⟨A1, rfl, hA1, hc1, hb5⟩
        rw [hs4] at hA1
        have HC1 := Lib.hid hc1
        have HP5 := Lib.hid (HPO.out.old hb5)
        have HQ5 := Lib.hid (HQ.out.old hb5)
        have G15 := Lib.hid (G1c.out.old hb5)
        have G25 := Lib.hid (G2c.out.trans (hb5.mono G2c.out.size))
        have hs5 := hb5.size
        have p1'' := HP5.out.at 1 _ rfl
        clear hc1 hb5 HPO HQ G1c G2c p1' p0 p1
        go_wp2_with fail
        refine (HWF.out _).mono ?_
        rintro e w6 ⟨A2, rfl, hA2, hc2, hb6⟩
        have HC2 : Hid (∀ j c, fs[j]? = some c → w6.cell? ⟨A2, j, none⟩ = some (.string (strOf [c]))) := fun j c hj => hc2 j [c] (by rw [List.getElem?_map, hj]; rfl)
        have HC1' : Hid (∀ j t, ts[j]? = some t → w6.cell? ⟨A1, j, none⟩ = some (.string (strOf t))) := fun j t hj => below_keeps hb6 (HC1.out j t hj)
        have HQ6 := Lib.hid (HQ5.out.old hb6)
        have G16 := Lib.hid (G15.out.old hb6)
        have G26 := Lib.hid (G25.out.trans (hb6.mono G25.out.size))
        have hA2X : X + 1 + 1 ≤ A2 := by omega
        have hlm : (fs.map fun c => [c]).length = fs.length := List.length_map ..
        rw [hlm]
        have HZF : Hid (FitsI (zeroI op) ∧ (zeroI op).name.length ≤ 100000) := ⟨⟨(by decide : (-9223372036854775808 : Int) ≤ 0), (by decide : (0 : Int) ≤ 9223372036854775807)⟩, Nat.zero_le _⟩
        clear hc2 hb6 HC1 HP5 HQ5 G15 G25 hs5 hA2 p1'' HWR HWF hlm
        go_wp2_with fail
        go_loopw [40] (fun s40 wx => ∃ (i : Nat) (o : Ins), s40 = .int .i64 i ∧ i ≤ fs.length ∧ Hid (OwnAt wx (X + 1) (insCells o) 23) ∧ Hid (OwnAt wx w.heap.size (insCells (zeroI 0)) 23) ∧ Hid (Below w.heap.size w wx) ∧ Hid (∀ j c, fs[j]? = some c → wx.cell? ⟨A2, j, none⟩ = some (.string (strOf [c]))) ∧ Hid (∀ j t, ts[j]? = some t → wx.cell? ⟨A1, j, none⟩ = some (.string (strOf t))) ∧ Hid (readI op rest = foldP ((fs.drop i).map fun c => [c]) (ts.drop i) o) ∧ Hid (FitsI o ∧ o.name.length ≤ 100000)) (fun s40 _ => fs.length - (intOf s40).toNat)
        case atStart => exact ⟨0, zeroI op, rfl, Nat.zero_le _, HQ6, G16, G26, HC2, HC1', HRD, HZF⟩
        case round =>
          rename_i hmeet1 wr1
          obtain ⟨i, o, rfl, hi, D, E0, EB, K2, K1, FD, FO2⟩ := hrel
          have FO := Lib.hid FO2.out.1
          have NO := Lib.hid FO2.out.2
          clear HQ6 G16 G26 HC2 HC1' HRD HZF FO2
          by_cases hif : i < fs.length
          · obtain ⟨c, hc⟩ : ∃ c, fs[i] = c := ⟨_, rfl⟩
            have k2 := K2.out i fs[i] (List.getElem?_eq_getElem hif)
            have hkc := HKB.out fs[i] (List.getElem_mem hif)
            have hdf : fs.drop i = fs[i] :: fs.drop (i + 1) := List.drop_eq_getElem_cons hif
            rw [hc] at k2 hkc hdf
            by_cases hit : i < ts.length
            · obtain ⟨t, ht⟩ : ∃ t, ts[i] = t := ⟨_, rfl⟩
              have k1 := K1.out i ts[i] (List.getElem?_eq_getElem hit)
              have htl := HTL.out ts[i] (List.getElem_mem hit)
              have hdt : ts.drop i = ts[i] :: ts.drop (i + 1) := List.drop_eq_getElem_cons hit
              rw [ht] at k1 htl hdt
              have HFN : Hid (readI op rest = foldP ((fs.drop (i + 1)).map fun c => [c]) (ts.drop (i + 1)) (stepP o [c] t)) := by
                show _ = _
                rw [FD.out, hdf, hdt]; rfl
              have HPA : Hid (∀ b z w', z = (c.toNat : Int) → Calls Tryd.prog 24 #[.pointer (some ⟨b, 0, none⟩), .int .i32 z] w' fun e w'' => e = .returned (partP b c) ∧ w' = w'') := fun b z w' h => by rw [h]; exact part_any b c w'
              have HFITS : Hid (i < fs.length) := hif
              have hiI : (i : Int) < (fs.length : Int) := by omega
              have hiT : (i : Int) < (ts.length : Int) := by omega
              clear hdf hdt FD hc ht
              rcases step_cases o c t hkc with ⟨hp, hst, hset⟩ | ⟨j, v0, o', hp, hst, hx, hset, hnm, hfit⟩
              · have d5 := D.out.at 5 _ rfl
                have f5 := D.out.fz 5
                have dl := D.out.lt
                have HSET := Lib.hid hset
                rw [hst] at HFN
                clear hst hset hkc
                go_wp2_with (go_at_call 24; refine (HPA.out _ _ _ (byte_code c _ rfl)).mono ?_; rw [hp]; rintro e w7 ⟨rfl, rfl⟩)
                have D' := Lib.hid (D.out.set 5 (.string (strOf t)))
                rw [HSET.out] at D'
                exact ⟨⟨i + 1, { o with name := t }, rfl, by omega, D', Lib.hid (E0.out.other (by omega) 5 _), Lib.hid (zbelow_set EB.out (by omega) 5 _), Lib.hid (fun j t hj => (cell_other _ _ _ _ _ _ (by omega)).trans (K2.out j t hj)), Lib.hid (fun j t hj => (cell_other _ _ _ _ _ _ (by omega)).trans (K1.out j t hj)), HFN, Lib.hid ⟨FO.out, htl⟩⟩, by simp [intOf]; omega⟩
              · have dj := D.out.at j _ hx
                have fj := D.out.fz j
                have dl := D.out.lt
                have HSET := Lib.hid hset
                have HNM := Lib.hid hnm
                have HFT := Lib.hid hfit
                rw [hst] at HFN
                have HTP := Lib.hid (fun w' => Tryd.strings_TrimPrefix (strOf t) (strOf [120]) w')
                have hte : (Lib.trimPrefix (strOf t).data.toList (strOf [120]).data.toList) = Lib.trimPrefix t [120] := by simp [strOf]
                rw [hte] at HTP
                have htl2 : (Lib.trimPrefix t [120]).length ≤ 100000 := Nat.le_trans (Lib.trimPrefix_le t [120]) htl
                obtain ⟨u, hu⟩ : ∃ u, Lib.trimPrefix t [120] = u := ⟨_, rfl⟩
                rw [hu] at HTP HSET htl2
                have HTP2 : Hid (∀ w', Calls Tryd.prog 38 #[.string (strOf t), .string (strOf [120])] w' fun e w'' => e = .returned (.string (strOf u)) ∧ w'' = w') := HTP.out
                have HAT := Lib.hid (fun w' h => atoi_any u htl2 w' h)
                have HLX := Lib.hid (HL.out.old EB.out)
                obtain ⟨av, hav⟩ : ∃ av, atoiV u = av := ⟨_, rfl⟩
                rw [hav] at HAT HSET
                clear hst hset hkc hnm hfit hte hu HTP hav
                go_wp2_with (first
                  | (go_at_call 24; refine (HPA.out _ _ _ (byte_code c _ rfl)).mono ?_; rw [hp]; rintro e w7 ⟨rfl, rfl⟩)
                  | (go_at_call 38; refine (HTP2.out _).mono ?_; rintro e w7 ⟨rfl, rfl⟩)
                  | (go_at_call 37; refine (HAT.out _ HLX.out).mono ?_; rintro e w8 ⟨⟨ve, rfl⟩, hb8⟩; have D8 := Lib.hid (D.out.old hb8); have E8 := Lib.hid (E0.out.old hb8); have EB8 := Lib.hid (EB.out.trans (hb8.mono EB.out.size)); have K28 : Hid (∀ j c, fs[j]? = some c → w8.cell? ⟨A2, j, none⟩ = some (.string (strOf [c]))) := (fun j c hj => below_keeps hb8 (K2.out j c hj)); have K18 : Hid (∀ j t, ts[j]? = some t → w8.cell? ⟨A1, j, none⟩ = some (.string (strOf t))) := (fun j t hj => below_keeps hb8 (K1.out j t hj)); have dj8 := below_keeps hb8 dj; have fj8 := D8.out.fz j; have dl8 := D8.out.lt; clear hb8))
                have D' := Lib.hid (D8.out.set j (.int .i64 av))
                rw [HSET.out] at D'
                exact ⟨⟨i + 1, o', rfl, by omega, D', Lib.hid (E8.out.other (by omega) j _), Lib.hid (zbelow_set EB8.out (by omega) j _), Lib.hid (fun j t hj => (cell_other _ _ _ _ _ _ (by omega)).trans (K28.out j t hj)), Lib.hid (fun j t hj => (cell_other _ _ _ _ _ _ (by omega)).trans (K18.out j t hj)), HFN, Lib.hid ⟨HFT.out FO.out, by rw [HNM.out]; exact NO.out⟩⟩, by simp [intOf]; omega⟩
            · have HOO : Hid (readI op rest = o) := by
                show _ = _
                rw [FD.out, List.drop_eq_nil_of_le (show ts.length ≤ i by omega), hdf]; rfl
              have hiI : (i : Int) < (fs.length : Int) := by omega
              have hiT : (ts.length : Int) ≤ (i : Int) := by omega
              clear hdf hkc FD K1 K2
              have d0 := D.out.at 0 _ rfl
              have d1 := D.out.at 1 _ rfl
              have d2 := D.out.at 2 _ rfl
              have d3 := D.out.at 3 _ rfl
              have d4 := D.out.at 4 _ rfl
              have d5 := D.out.at 5 _ rfl
              have HPR := Lib.hid (fun w' h => print_any o FO.out (by have := NO.out; omega) w' h)
              have HLU := Lib.hid (HL.out.old EB.out)
              unfold insV printV at HPR
              have HFS' := HFS.out
              rw [HOO.out] at HFS'
              have HFS2 := Lib.hid HFS'
              clear HFS HFS'
              by_cases hro : rightI o = true
              · rw [if_pos hro] at HPR
                by_cases hts : textI o = s
                · have hte : (s == s) = true := by simp
                  rw [hts] at HPR
                  have HGO : Hid (findI wd rest s 28 1 = some o) := by
                    show _ = _
                    rw [← G3.out, HFS2.out, if_pos ⟨trivial, hro, hts⟩]
                  clear hro hts
                  go_wp2_with fail
                  refine (HPR.out _ HLU.out).mono ?_
                  rintro e w9 ⟨rfl, hb9⟩
                  have E1 := Lib.hid (E0.out.old hb9)
                  have D1 := Lib.hid (D.out.old hb9)
                  have EB1 := Lib.hid (EB.out.trans (hb9.mono EB.out.size))
                  clear hb9 d0 d1 d2 d3 d4 d5
                  have d0 := D1.out.at 0 _ rfl
                  have d1 := D1.out.at 1 _ rfl
                  have d2 := D1.out.at 2 _ rfl
                  have d3 := D1.out.at 3 _ rfl
                  have d4 := D1.out.at 4 _ rfl
                  have d5 := D1.out.at 5 _ rfl
                  have y0 := E1.out.at 0 _ rfl
                  have fy0 := E1.out.fz 0
                  have y1 := E1.out.at 1 _ rfl
                  have fy1 := E1.out.fz 1
                  have y2 := E1.out.at 2 _ rfl
                  have fy2 := E1.out.fz 2
                  have y3 := E1.out.at 3 _ rfl
                  have fy3 := E1.out.fz 3
                  have y4 := E1.out.at 4 _ rfl
                  have fy4 := E1.out.fz 4
                  have y5 := E1.out.at 5 _ rfl
                  have fy5 := E1.out.fz 5
                  have yl := E1.out.lt
                  go_wp2_with fail
                  have HS := Lib.hid ((((((E1.out.set 0 (.int .i64 o.op)).set 1 (.int .i64 o.d)).set 2 (.int .i64 o.a)).set 3 (.int .i64 o.b)).set 4 (.int .i64 o.n)).set 5 (.string (strOf o.name)))
                  have e0 := HS.out.at 0 _ rfl
                  have e1 := HS.out.at 1 _ rfl
                  have e2 := HS.out.at 2 _ rfl
                  have e3 := HS.out.at 3 _ rfl
                  have e4 := HS.out.at 4 _ rfl
                  have e5 := HS.out.at 5 _ rfl
                  exact bodyPost_ret (v := .tuple #[.agg #[.int .i64 o.op, .int .i64 o.d, .int .i64 o.a, .int .i64 o.b, .int .i64 o.n, .string (strOf o.name)], .int .i64 0]) (by simp [results, Tryd.results16, go_sem, e0, e1, e2, e3, e4, e5]) rfl ⟨by rw [HGO.out]; rfl, set6 w _ EB1.out _ _ _ _ _ _⟩
                · have hte : (textI o == s) = false := by simpa using hts
                  have HF2 : Hid (findI wd rest s (29 - (op + 1)).toNat (op + 1) = findI wd rest s 28 1) := by
                    show _ = _
                    rw [← G3.out, HFS2.out, if_neg (fun h => hts h.2.2)]
                  clear hro hts
                  obtain ⟨TX, hTX⟩ : ∃ TX, textI o = TX := ⟨_, rfl⟩
                  rw [hTX] at HPR hte
                  clear hTX
                  go_wp2_with fail
                  refine (HPR.out _ HLU.out).mono ?_
                  rintro e w9 ⟨rfl, hb9⟩
                  have E1 := Lib.hid (E0.out.old hb9)
                  have EB1 := Lib.hid (EB.out.trans (hb9.mono EB.out.size))
                  clear hb9
                  go_wp2_with fail
                  exact ⟨⟨op + 1, rfl, by omega, by omega, E1, EB1, HF2⟩, by simp [intOf]; omega⟩
              · rw [if_neg hro] at HPR
                have HF2 : Hid (findI wd rest s (29 - (op + 1)).toNat (op + 1) = findI wd rest s 28 1) := by
                  show _ = _
                  rw [← G3.out, HFS2.out, if_neg (fun h => hro h.2.1)]
                clear hro
                go_wp2_with fail
                refine (HPR.out _ HLU.out).mono ?_
                rintro e w9 ⟨rfl, hb9⟩
                have E1 := Lib.hid (E0.out.old hb9)
                have EB1 := Lib.hid (EB.out.trans (hb9.mono EB.out.size))
                clear hb9
                go_wp2_with fail
                exact ⟨⟨op + 1, rfl, by omega, by omega, E1, EB1, HF2⟩, by simp [intOf]; omega⟩
          · have HOO : Hid (readI op rest = o) := by
              show _ = _
              rw [FD.out, List.drop_eq_nil_of_le (show fs.length ≤ i by omega)]; rfl
            have hiI : (fs.length : Int) ≤ (i : Int) := by omega
            clear FD K1 K2
            have d0 := D.out.at 0 _ rfl
            have d1 := D.out.at 1 _ rfl
            have d2 := D.out.at 2 _ rfl
            have d3 := D.out.at 3 _ rfl
            have d4 := D.out.at 4 _ rfl
            have d5 := D.out.at 5 _ rfl
            have HPR := Lib.hid (fun w' h => print_any o FO.out (by have := NO.out; omega) w' h)
            have HLU := Lib.hid (HL.out.old EB.out)
            unfold insV printV at HPR
            have HFS' := HFS.out
            rw [HOO.out] at HFS'
            have HFS2 := Lib.hid HFS'
            clear HFS HFS'
            by_cases hro : rightI o = true
            · rw [if_pos hro] at HPR
              by_cases hts : textI o = s
              · have hte : (s == s) = true := by simp
                rw [hts] at HPR
                have HGO : Hid (findI wd rest s 28 1 = some o) := by
                  show _ = _
                  rw [← G3.out, HFS2.out, if_pos ⟨trivial, hro, hts⟩]
                clear hro hts
                go_wp2_with fail
                refine (HPR.out _ HLU.out).mono ?_
                rintro e w9 ⟨rfl, hb9⟩
                have E1 := Lib.hid (E0.out.old hb9)
                have D1 := Lib.hid (D.out.old hb9)
                have EB1 := Lib.hid (EB.out.trans (hb9.mono EB.out.size))
                clear hb9 d0 d1 d2 d3 d4 d5
                have d0 := D1.out.at 0 _ rfl
                have d1 := D1.out.at 1 _ rfl
                have d2 := D1.out.at 2 _ rfl
                have d3 := D1.out.at 3 _ rfl
                have d4 := D1.out.at 4 _ rfl
                have d5 := D1.out.at 5 _ rfl
                have y0 := E1.out.at 0 _ rfl
                have fy0 := E1.out.fz 0
                have y1 := E1.out.at 1 _ rfl
                have fy1 := E1.out.fz 1
                have y2 := E1.out.at 2 _ rfl
                have fy2 := E1.out.fz 2
                have y3 := E1.out.at 3 _ rfl
                have fy3 := E1.out.fz 3
                have y4 := E1.out.at 4 _ rfl
                have fy4 := E1.out.fz 4
                have y5 := E1.out.at 5 _ rfl
                have fy5 := E1.out.fz 5
                have yl := E1.out.lt
                go_wp2_with fail
                have HS := Lib.hid ((((((E1.out.set 0 (.int .i64 o.op)).set 1 (.int .i64 o.d)).set 2 (.int .i64 o.a)).set 3 (.int .i64 o.b)).set 4 (.int .i64 o.n)).set 5 (.string (strOf o.name)))
                have e0 := HS.out.at 0 _ rfl
                have e1 := HS.out.at 1 _ rfl
                have e2 := HS.out.at 2 _ rfl
                have e3 := HS.out.at 3 _ rfl
                have e4 := HS.out.at 4 _ rfl
                have e5 := HS.out.at 5 _ rfl
                exact bodyPost_ret (v := .tuple #[.agg #[.int .i64 o.op, .int .i64 o.d, .int .i64 o.a, .int .i64 o.b, .int .i64 o.n, .string (strOf o.name)], .int .i64 0]) (by simp [results, Tryd.results16, go_sem, e0, e1, e2, e3, e4, e5]) rfl ⟨by rw [HGO.out]; rfl, set6 w _ EB1.out _ _ _ _ _ _⟩
              · have hte : (textI o == s) = false := by simpa using hts
                have HF2 : Hid (findI wd rest s (29 - (op + 1)).toNat (op + 1) = findI wd rest s 28 1) := by
                  show _ = _
                  rw [← G3.out, HFS2.out, if_neg (fun h => hts h.2.2)]
                clear hro hts
                obtain ⟨TX, hTX⟩ : ∃ TX, textI o = TX := ⟨_, rfl⟩
                rw [hTX] at HPR hte
                clear hTX
                go_wp2_with fail
                refine (HPR.out _ HLU.out).mono ?_
                rintro e w9 ⟨rfl, hb9⟩
                have E1 := Lib.hid (E0.out.old hb9)
                have EB1 := Lib.hid (EB.out.trans (hb9.mono EB.out.size))
                clear hb9
                go_wp2_with fail
                exact ⟨⟨op + 1, rfl, by omega, by omega, E1, EB1, HF2⟩, by simp [intOf]; omega⟩
            · rw [if_neg hro] at HPR
              have HF2 : Hid (findI wd rest s (29 - (op + 1)).toNat (op + 1) = findI wd rest s 28 1) := by
                show _ = _
                rw [← G3.out, HFS2.out, if_neg (fun h => hro h.2.1)]
              clear hro
              go_wp2_with fail
              refine (HPR.out _ HLU.out).mono ?_
              rintro e w9 ⟨rfl, hb9⟩
              have E1 := Lib.hid (E0.out.old hb9)
              have EB1 := Lib.hid (EB.out.trans (hb9.mono EB.out.size))
              clear hb9
              go_wp2_with fail
              exact ⟨⟨op + 1, rfl, by omega, by omega, E1, EB1, HF2⟩, by simp [intOf]; omega⟩
      · have hwe : (wd == word) = false := by simpa using hw
        have HF2 : Hid (findI word rest s (29 - (op + 1)).toNat (op + 1) = findI word rest s 28 1) := by
          show _ = _
          rw [← G3.out, HFS.out, if_neg (fun h => hw h.1)]
        clear hw HFS
        go_wp2_with fail
        exact ⟨⟨op + 1, rfl, by omega, by omega, G1b, G2b, HF2⟩, by simp [intOf]; omega⟩
    · have hop : op = 29 := by omega
      subst hop
      have HNO : Hid (findI word rest s 28 1 = none) := G3.out.symm
      have y0 := G1.out.at 0 _ rfl
      have fy0 := G1.out.fz 0
      have y1 := G1.out.at 1 _ rfl
      have fy1 := G1.out.fz 1
      have y2 := G1.out.at 2 _ rfl
      have fy2 := G1.out.fz 2
      have y3 := G1.out.at 3 _ rfl
      have fy3 := G1.out.fz 3
      have y4 := G1.out.at 4 _ rfl
      have fy4 := G1.out.fz 4
      have y5 := G1.out.at 5 _ rfl
      have fy5 := G1.out.fz 5
      have yl := G1.out.lt
      go_wp2_with fail
      have HS := Lib.hid ((((((G1.out.set 0 (.int .i64 0)).set 1 (.int .i64 0)).set 2 (.int .i64 0)).set 3 (.int .i64 0)).set 4 (.int .i64 0)).set 5 (.string ⟨#[]⟩))
      have e0 := HS.out.at 0 _ rfl
      have e1 := HS.out.at 1 _ rfl
      have e2 := HS.out.at 2 _ rfl
      have e3 := HS.out.at 3 _ rfl
      have e4 := HS.out.at 4 _ rfl
      have e5 := HS.out.at 5 _ rfl
      exact bodyPost_ret (v := .tuple #[.agg #[.int .i64 0, .int .i64 0, .int .i64 0, .int .i64 0, .int .i64 0, .string ⟨#[]⟩], .int .i64 60]) (by simp [results, Tryd.results16, go_sem, e0, e1, e2, e3, e4, e5]) rfl ⟨by rw [HNO.out]; rfl, set6 w _ G2.out _ _ _ _ _ _⟩
end Go.Proofs.YtgdnnaiidmfncaaDoor
