/-
  A line of a text: bare, an array, a line of code. Conditions: the text is no longer than a million bytes; the library's variables lie in memory.
-/
import Derived.Test.YtlkfmnabbmceeaaGreatDoorAsmD
import Derived.Test.YtlkfmnabbmceeaaGreatDoorAsmC
import Derived.Test.YtlkfmnabbmceeaaGreatDoorInstrE
import Derived.Shelf.Strings.SlTrimAscii
import Derived.Laws.ResultCell
import Derived.Laws.Rows
set_option linter.unusedVariables false
set_option linter.unusedSimpArgs false
namespace Go.Proofs.YtlkfmnabbmceeaaGreatDoor
open Go.RowKit
set_option maxHeartbeats 4000000
set_option maxRecDepth 100000

theorem cut_len (s p : Bs) : (Lib.cut s p).1.length ≤ s.length ∧ (Lib.cut s p).2.1.length ≤ s.length := by
  unfold Lib.cut
  split
  · simp only [List.length_take, List.length_drop]; omega
  · simp
theorem dropWhile_len (p : UInt8 → Bool) (l : Bs) : (l.dropWhile p).length ≤ l.length := (List.dropWhile_sublist p).length_le
theorem trimS_len (s c : Bs) : (Lib.trimS s c).length ≤ s.length := by
  have h1 := dropWhile_len (c.contains ·) ((s.reverse.dropWhile (c.contains ·)).reverse)
  have h2 := dropWhile_len (c.contains ·) s.reverse
  rw [List.length_reverse] at h1 h2
  exact Nat.le_trans h1 h2
theorem bare_len (s : Bs) : (bareA s).length ≤ s.length := Nat.le_trans (trimS_len _ _) (cut_len _ _).1
theorem cut_any (s : Bs) (k : UInt8) (hz : s.length ≤ 100000) (w : World) (hl : ILib w) :
    Calls Tryz.prog 35 #[.string (strOf s), .string (strOf [k])] w fun e w' => e = .returned (.tuple #[.string (strOf (Lib.cut s [k]).1), .string (strOf (Lib.cut s [k]).2.1), .bool (Lib.cut s [k]).2.2]) ∧ Below w.heap.size w w' := by
  obtain ⟨m, hm⟩ := hl.max
  refine (Tryz.strings_Cut (strOf s) (strOf [k]) m w (by show s.toArray.size < _; simp; omega) hm).mono ?_
  rintro e w' ⟨rfl, n, rfl⟩
  exact ⟨rfl, below_drewN (Below.refl _ _) n⟩
theorem trim_any (s : Bs) (hz : s.length ≤ 100000) (w : World) :
    Calls Tryz.prog 36 #[.string (strOf s), .string (strOf [32, 9])] w fun e w' => e = .returned (.string (strOf (Lib.trimS s [32, 9]))) ∧ Below w.heap.size w w' :=
  Any.strings_Trim_laid Tryz.lays160 (by kernel_rfl) (strOf s) (strOf [32, 9]) w (by show s.toArray.size ≤ _; simp; omega) (by decide) (ascii_of_all (by decide))
theorem bare_any (s : Bs) (hz : s.length ≤ 100000) (w : World) (hl : ILib w) :
    Calls Tryz.prog 22 #[.string (strOf s)] w fun e w' => e = .returned (.string (strOf (bareA s))) ∧ Below w.heap.size w w' := by
  have HC := Lib.hid (fun w' h => cut_any s 35 hz w' h)
  have HT := Lib.hid (fun w' => trim_any (Lib.cut s [35]).1 (Nat.le_trans (cut_len s [35]).1 hz) w')
  have HL := Lib.hid hl
  clear hl
  go_enter Tryz.func22, Tryz.ntmps22
  go_wp2_with (first | (go_at_call 35; refine (HC.out _ HL.out).mono ?_; rintro e w5 ⟨rfl, hb5⟩; have HB5 := Lib.hid hb5; clear hb5) | (go_at_call 36; refine (HT.out _).mono ?_; rintro e w6 ⟨rfl, hb6⟩; have HB6 := Lib.hid hb6; clear hb6))
  go_ret
  exact ⟨rfl, HB5.out.trans (HB6.out.mono HB5.out.size)⟩
/-- Atoi at every text, its error too. -/
theorem atoi_both (t : Bs) (hz : t.length ≤ 100000) (w : World) (hl : ILib w) :
    Calls Tryz.prog 58 #[.string (strOf t)] w fun e w' => ((∃ v, Lib.atoiAll t = .ok v ∧ e = .returned (.tuple #[.int .i64 v, .nilIface])) ∨ ((∀ v, Lib.atoiAll t ≠ .ok v) ∧ ∃ n te pe, e = .returned (.tuple #[.int .i64 n, .iface te pe]))) ∧ Below w.heap.size w w' := by
  have hs : (strOf t).size = t.length := by show t.toArray.size = _; simp
  cases ha : Lib.atoiAll t
  · rename_i v
    refine (Tryz.strconv_Atoi_ok (strOf t) (by omega) v ha w).mono ?_
    rintro e w' ⟨rfl, hw⟩
    refine ⟨.inl ⟨v, rfl, rfl⟩, ?_⟩
    rcases hw with rfl | ⟨u, rfl⟩
    · exact Below.refl _ _
    · first | exact Lib.bytesWorld_below _ _ _ | exact below_bytesWorld _ _ _ _ (Nat.le_refl _)
  · obtain ⟨te, pe, hv⟩ := hl.syn
    refine (Any.strconv_Atoi_syntax Tryz.laysC172 (strOf t) (by omega) ha _ w hv (.inr ⟨te, pe, rfl⟩)).mono ?_
    rintro e w' ⟨N, rfl, _, _, hb⟩
    exact ⟨.inr ⟨(fun v h => by cases h), _, _, _, rfl⟩, hb⟩
  · obtain ⟨te, pe, hv⟩ := hl.ran
    refine (Any.strconv_Atoi_range Tryz.laysC172 (strOf t) (by omega) ha _ w hv (.inr ⟨te, pe, rfl⟩)).mono ?_
    rintro e w' ⟨N, rfl, _, _, hb⟩
    exact ⟨.inr ⟨(fun v h => by cases h), _, _, _, rfl⟩, hb⟩
theorem atoi_range (t : Bs) (v : Int) (h : Lib.atoiAll t = .ok v) : -9223372036854775808 ≤ v ∧ v ≤ 9223372036854775807 := by
  unfold Lib.atoiAll at h
  cases t with
  | nil => cases h
  | cons c r =>
    dsimp only at h
    cases hm : Lib.parseMag (if c.toNat = 43 ∨ c.toNat = 45 then r else c :: r) with
    | ok u =>
      rw [hm] at h
      dsimp only at h
      repeat' split at h
      all_goals first
        | (cases h; omega)
        | (simp only [Lib.NumEnd.ok.injEq] at h; omega)
        | cases h
    | _ => rw [hm] at h; cases h
theorem cutPrefix_any (s : Bs) (w : World) :
    Calls Tryz.prog 57 #[.string (strOf s), .string (strOf [46, 97, 114, 114, 97, 121, 32])] w fun e w' => e = .returned (.tuple #[.string (strOf (if Lib.hasPrefix s [46, 97, 114, 114, 97, 121, 32] = true then s.drop 7 else s)), .bool (Lib.hasPrefix s [46, 97, 114, 114, 97, 121, 32])]) ∧ w = w' := by
  refine (Tryz.strings_CutPrefix (strOf s) (strOf [46, 97, 114, 114, 97, 121, 32]) w).mono ?_
  rintro e w' ⟨rfl, rfl⟩
  exact ⟨rfl, rfl⟩
theorem atoi_some (t : Bs) (hz : t.length ≤ 100000) (w : World) (hl : ILib w) :
    Calls Tryz.prog 58 #[.string (strOf t)] w fun e w' => (∃ n z, e = .returned (.tuple #[.int .i64 n, z])) ∧ Below w.heap.size w w' := by
  refine (atoi_both t hz w hl).mono ?_
  rintro e w' ⟨h, hb⟩
  rcases h with ⟨v, _, rfl⟩ | ⟨_, n, te, pe, rfl⟩
  · exact ⟨⟨_, _, rfl⟩, hb⟩
  · exact ⟨⟨_, _, rfl⟩, hb⟩
theorem atoi_good (t : Bs) (v : Int) (h : Lib.atoiAll t = .ok v) (hz : t.length ≤ 100000) (w : World) (hl : ILib w) :
    Calls Tryz.prog 58 #[.string (strOf t)] w fun e w' => e = .returned (.tuple #[.int .i64 v, .nilIface]) ∧ Below w.heap.size w w' := by
  refine (atoi_both t hz w hl).mono ?_
  rintro e w' ⟨h', hb⟩
  rcases h' with ⟨u, hu, rfl⟩ | ⟨hno, _⟩
  · rw [h] at hu; cases hu; exact ⟨rfl, hb⟩
  · exact absurd h (hno v)
theorem atoi_bad (t : Bs) (h : ∀ v, Lib.atoiAll t ≠ .ok v) (hz : t.length ≤ 100000) (w : World) (hl : ILib w) :
    Calls Tryz.prog 58 #[.string (strOf t)] w fun e w' => (∃ n te pe, e = .returned (.tuple #[.int .i64 n, .iface te pe])) ∧ Below w.heap.size w w' := by
  refine (atoi_both t hz w hl).mono ?_
  rintro e w' ⟨h', hb⟩
  rcases h' with ⟨u, hu, rfl⟩ | ⟨_, n, te, pe, rfl⟩
  · exact absurd hu (h u)
  · exact ⟨⟨n, te, pe, rfl⟩, hb⟩
theorem one_ar (w : World) (a : Ar) : ArwAt (w.alloc (.cells #[.string (strOf a.name), .int .i64 a.size] 45)) [a] (.slice (some ⟨w.heap.size, 0, none⟩) 1 1) := by
  refine ⟨_, 1, w.heap.size, 0, rfl, .inr rfl, by simp, ?_⟩
  intro i p hi q u hq
  have hi0 : i = 0 := by
    cases i with
    | zero => rfl
    | succ i => simp at hi
  subst hi0
  have : a = p := by simpa using hi
  subst this
  have := (OwnAt.new w (arCells a) 45).at q u hq
  simpa [arCells] using this
theorem numA_ok (t : Bs) (v : Int) (h : Lib.atoiAll t = .ok v) : numA t = if Lib.itoa v = t then some v else none := by unfold numA; rw [h]
theorem numA_no (t : Bs) (h : ∀ v, Lib.atoiAll t ≠ .ok v) : numA t = none := by
  unfold numA
  cases ha : Lib.atoiAll t
  · exact absurd ha (h _)
  · rfl
  · rfl
theorem results_row_tmp {P : Program} {fn : Func} {p u : Tmp} {ty : TypeId} (h : fn.results = #[.cell p ty, .tmp u]) (tmps : Array Value) (w : World) (g : Nat) (t : TypeId) (cs : List Value) (d : TypeDesc)
    (hp : tmps.getD p undef = .pointer (some ⟨g, 0, none⟩)) (hg : OwnAt w g cs t) (hu : P.underlying ty = some d) (hd : (match d with | .struct _ | .array _ _ => true | _ => false) = true) (hi : (P.info? ty).map (·.size) = some cs.length) :
    (results fn tmps).run P w = .ok (.tuple #[.agg cs.toArray, tmps.getD u undef]) w := by
  have hp' : tmps[p]?.getD undef = .pointer (some ⟨g, 0, none⟩) := by simpa using hp
  rw [results_cell_tmp h]
  simp [hp', asAddr, run_loadVar_row w g t ty cs.toArray (0, 0) d hg hu hd (by simpa using hi), Result.andThen]
theorem array_any (s : Bs) (hz : s.length ≤ 100000) (w : World) (hl : ILib w) :
    Calls Tryz.prog 33 #[.string (strOf s)] w fun e w' => (∃ a, e = .returned (.tuple #[arV a, .bool (arrayA s).isSome]) ∧ (∀ y, arrayA s = some y → a = y)) ∧ Below w.heap.size w w' := by
  have HP := Lib.hid (fun w' => cutPrefix_any s w')
  have HB1 := Lib.hid ((Below.refl w.heap.size w).alloc (Nat.le_refl _) (.cells #[.string ⟨#[]⟩, .int .i64 0] 45))
  have HO1 := Lib.hid (OwnAt.new w [.string ⟨#[]⟩, .int .i64 0] 45)
  have HL1 := Lib.hid (hl.old HB1.out)
  clear hl
  cases hp : Lib.hasPrefix s [46, 97, 114, 114, 97, 121, 32] with
  | false =>
    rw [hp] at HP
    rw [if_neg (by decide)] at HP
    have HR : Hid (arrayA s = none) := by show _ = _; unfold arrayA; rw [hp]; rfl
    rw [HR.out]
    have HC := Lib.hid (fun w' h => cut_any s 32 hz w' h)
    have HA := Lib.hid (fun w' h => atoi_some (Lib.cut s [32]).2.1 (Nat.le_trans (cut_len s [32]).2 hz) w' h)
    clear hp
    generalize (Lib.cut s [32]).1 = nm at *
    generalize (Lib.cut s [32]).2.1 = tx at *
    generalize (Lib.cut s [32]).2.2 = fb at *
    go_enter Tryz.func33, Tryz.ntmps33
    go_wp2_with (first | (go_at_call 57; refine (HP.out _).mono ?_; rintro e w7 ⟨rfl, rfl⟩) | (go_at_call 35; refine (HC.out _ HL1.out).mono ?_; rintro e w5 ⟨rfl, hb5⟩; have HO5 := Lib.hid (HO1.out.old hb5); have HB5 := Lib.hid (HB1.out.trans (hb5.mono HB1.out.size)); have HL5 := Lib.hid (HL1.out.old hb5); clear hb5) | (go_at_call 58; refine (HA.out _ HL5.out).mono ?_; rintro e w6 ⟨⟨n6, z6, rfl⟩, hb6⟩; have HO6 := Lib.hid (HO5.out.old hb6); have HB6 := Lib.hid (HB5.out.trans (hb6.mono HB5.out.size)); have HL6 := Lib.hid (HL5.out.old hb6); have r0 := HO6.out.at 0 _ rfl; have r1 := HO6.out.at 1 _ rfl; have f0 := HO6.out.fz 0; have f1 := HO6.out.fz 1; clear hb6))
    try simp only [Exit.inBlock, Exit.then]
    refine bodyPost_ret (results_row_tmp (P := Tryz.prog) (t := 45) rfl _ _ w.heap.size [.string (strOf nm), .int .i64 n6] _ rfl ((HO6.out.set 0 (.string (strOf nm))).set 1 (.int .i64 n6)) Tryz.underlying45 rfl (by kernel_rfl)) rfl ?_
    exact ⟨⟨⟨nm, n6⟩, rfl, fun y hy => by first | (cases hy; done) | (cases hy; rfl)⟩, zbelow_set (zbelow_set HB6.out (Nat.le_refl _) 0 _) (Nat.le_refl _) 1 _⟩
  | true =>
    rw [hp] at HP
    rw [if_pos rfl] at HP
    have hz7 : (s.drop 7).length ≤ 100000 := by rw [List.length_drop]; omega
    have HR : Hid (arrayA s = match numA (Lib.cut (s.drop 7) [32]).2.1 with | some n => if arrsE [⟨(Lib.cut (s.drop 7) [32]).1, n⟩] = 0 then some ⟨(Lib.cut (s.drop 7) [32]).1, n⟩ else none | none => none) := by show _ = _; unfold arrayA; rw [hp]; rfl
    obtain ⟨hcl1, hcl2⟩ := cut_len (s.drop 7) [32]
    have HC := Lib.hid (fun w' h => cut_any (s.drop 7) 32 hz7 w' h)
    have HA0 := Lib.hid (fun h w' h' => atoi_bad (Lib.cut (s.drop 7) [32]).2.1 h (Nat.le_trans hcl2 hz7) w' h')
    have HA1 := Lib.hid (fun v h w' h' => atoi_good (Lib.cut (s.drop 7) [32]).2.1 v h (Nat.le_trans hcl2 hz7) w' h')
    have hnl : (Lib.cut (s.drop 7) [32]).1.length ≤ 100000 := by omega
    clear hp hcl1 hcl2
    generalize (Lib.cut (s.drop 7) [32]).1 = nm at *
    generalize (Lib.cut (s.drop 7) [32]).2.1 = tx at *
    generalize (Lib.cut (s.drop 7) [32]).2.2 = fb at *
    by_cases hok : ∃ v, Lib.atoiAll tx = .ok v
    · obtain ⟨v, hv⟩ := hok
      have HA := Lib.hid (HA1.out v hv)
      obtain ⟨hv0, hv1⟩ := atoi_range tx v hv
      rw [numA_ok tx v hv] at HR
      have HI := Lib.hid (fun w' h => itoa_any v hv0 hv1 w' h)
      have HSH : Hid (∀ x, x ∈ [(⟨nm, v⟩ : Ar)] → x.name.length ≤ 9223372036854775807) := fun x hx => by rw [List.mem_singleton.1 hx]; show nm.length ≤ _; omega
      clear hv HA0 HA1
      obtain ⟨it, hit⟩ : ∃ it, Lib.itoa v = it := ⟨_, rfl⟩
      rw [hit] at HR HI
      clear hit
      by_cases he : it = tx
      · subst he
        rw [if_pos rfl] at HR
        dsimp only at HR
        by_cases hE : arrsE [⟨nm, v⟩] = 0
        · have HE := Lib.hid hE
          rw [if_pos hE] at HR
          rw [HR.out]
          clear hE
          go_enter Tryz.func33, Tryz.ntmps33
          go_wp2_with (first | (go_at_call 57; refine (HP.out _).mono ?_; rintro e w7 ⟨rfl, rfl⟩) | (go_at_call 35; refine (HC.out _ HL1.out).mono ?_; rintro e w5 ⟨rfl, hb5⟩; have HO5 := Lib.hid (HO1.out.old hb5); have HB5 := Lib.hid (HB1.out.trans (hb5.mono HB1.out.size)); have HL5 := Lib.hid (HL1.out.old hb5); clear hb5) | (go_at_call 58; refine (HA.out _ HL5.out).mono ?_; rintro e w6 ⟨rfl, hb6⟩; have HO6 := Lib.hid (HO5.out.old hb6); have HB6 := Lib.hid (HB5.out.trans (hb6.mono HB5.out.size)); have HL6 := Lib.hid (HL5.out.old hb6); have r0 := HO6.out.at 0 _ rfl; have r1 := HO6.out.at 1 _ rfl; have f0 := HO6.out.fz 0; have f1 := HO6.out.fz 1; clear hb6) | (go_at_call 59; refine (HI.out _ HL6.out.pow).mono ?_; rintro e w8 ⟨rfl, hb8⟩; have HO8 := Lib.hid (HO6.out.old hb8); have HB8 := Lib.hid (HB6.out.trans (hb8.mono HB6.out.size)); have s0 := HO8.out.at 0 _ rfl; have s1 := HO8.out.at 1 _ rfl; have g0 := HO8.out.fz 0; have g1 := HO8.out.fz 1; clear hb8) | (go_at_call 23; refine (arrays_any [⟨nm, v⟩] _ _ (one_ar _ _) HSH.out).mono ?_; rw [HE.out]; rintro e w9 ⟨rfl, hb9⟩; have hb89 : Below w8.heap.size w8 w9 := ((Below.refl _ _).alloc (Nat.le_refl _) _).trans (hb9.mono (by simp)); have HO9 := Lib.hid (HO8.out.old hb89); have HB9 := Lib.hid (HB8.out.trans (hb89.mono HB8.out.size)); have t0 := HO9.out.at 0 _ rfl; have t1 := HO9.out.at 1 _ rfl; have k0 := HO9.out.fz 0; have k1 := HO9.out.fz 1; clear hb9 hb89))
          try simp only [Exit.inBlock, Exit.then]
          refine bodyPost_ret (results_row_tmp (P := Tryz.prog) (t := 45) rfl _ _ w.heap.size [.string (strOf nm), .int .i64 v] _ rfl ((HO9.out.set 0 (.string (strOf nm))).set 1 (.int .i64 v)) Tryz.underlying45 rfl (by kernel_rfl)) rfl ?_
          exact ⟨⟨⟨nm, v⟩, rfl, fun y hy => by first | (cases hy; done) | (cases hy; rfl)⟩, zbelow_set (zbelow_set HB9.out (Nat.le_refl _) 0 _) (Nat.le_refl _) 1 _⟩
        · obtain ⟨z, hz0⟩ : ∃ z, arrsE [⟨nm, v⟩] = z := ⟨_, rfl⟩
          have HE := Lib.hid hz0
          rw [if_neg hE] at HR
          rw [HR.out]
          rw [hz0] at hE
          have hE' : (z == 0) = false := by simpa using hE
          clear hz0
          go_enter Tryz.func33, Tryz.ntmps33
          go_wp2_with (first | (go_at_call 57; refine (HP.out _).mono ?_; rintro e w7 ⟨rfl, rfl⟩) | (go_at_call 35; refine (HC.out _ HL1.out).mono ?_; rintro e w5 ⟨rfl, hb5⟩; have HO5 := Lib.hid (HO1.out.old hb5); have HB5 := Lib.hid (HB1.out.trans (hb5.mono HB1.out.size)); have HL5 := Lib.hid (HL1.out.old hb5); clear hb5) | (go_at_call 58; refine (HA.out _ HL5.out).mono ?_; rintro e w6 ⟨rfl, hb6⟩; have HO6 := Lib.hid (HO5.out.old hb6); have HB6 := Lib.hid (HB5.out.trans (hb6.mono HB5.out.size)); have HL6 := Lib.hid (HL5.out.old hb6); have r0 := HO6.out.at 0 _ rfl; have r1 := HO6.out.at 1 _ rfl; have f0 := HO6.out.fz 0; have f1 := HO6.out.fz 1; clear hb6) | (go_at_call 59; refine (HI.out _ HL6.out.pow).mono ?_; rintro e w8 ⟨rfl, hb8⟩; have HO8 := Lib.hid (HO6.out.old hb8); have HB8 := Lib.hid (HB6.out.trans (hb8.mono HB6.out.size)); have s0 := HO8.out.at 0 _ rfl; have s1 := HO8.out.at 1 _ rfl; have g0 := HO8.out.fz 0; have g1 := HO8.out.fz 1; clear hb8) | (go_at_call 23; refine (arrays_any [⟨nm, v⟩] _ _ (one_ar _ _) HSH.out).mono ?_; rw [HE.out]; rintro e w9 ⟨rfl, hb9⟩; have hb89 : Below w8.heap.size w8 w9 := ((Below.refl _ _).alloc (Nat.le_refl _) _).trans (hb9.mono (by simp)); have HO9 := Lib.hid (HO8.out.old hb89); have HB9 := Lib.hid (HB8.out.trans (hb89.mono HB8.out.size)); have t0 := HO9.out.at 0 _ rfl; have t1 := HO9.out.at 1 _ rfl; have k0 := HO9.out.fz 0; have k1 := HO9.out.fz 1; clear hb9 hb89))
          try simp only [Exit.inBlock, Exit.then]
          refine bodyPost_ret (results_row_tmp (P := Tryz.prog) (t := 45) rfl _ _ w.heap.size [.string (strOf nm), .int .i64 v] _ rfl ((HO9.out.set 0 (.string (strOf nm))).set 1 (.int .i64 v)) Tryz.underlying45 rfl (by kernel_rfl)) rfl ?_
          exact ⟨⟨⟨nm, v⟩, rfl, fun y hy => by first | (cases hy; done) | (cases hy; rfl)⟩, zbelow_set (zbelow_set HB9.out (Nat.le_refl _) 0 _) (Nat.le_refl _) 1 _⟩
      · rw [if_neg he] at HR
        rw [HR.out]
        have he' : (it == tx) = false := by simpa using he
        go_enter Tryz.func33, Tryz.ntmps33
        go_wp2_with (first | (go_at_call 57; refine (HP.out _).mono ?_; rintro e w7 ⟨rfl, rfl⟩) | (go_at_call 35; refine (HC.out _ HL1.out).mono ?_; rintro e w5 ⟨rfl, hb5⟩; have HO5 := Lib.hid (HO1.out.old hb5); have HB5 := Lib.hid (HB1.out.trans (hb5.mono HB1.out.size)); have HL5 := Lib.hid (HL1.out.old hb5); clear hb5) | (go_at_call 58; refine (HA.out _ HL5.out).mono ?_; rintro e w6 ⟨rfl, hb6⟩; have HO6 := Lib.hid (HO5.out.old hb6); have HB6 := Lib.hid (HB5.out.trans (hb6.mono HB5.out.size)); have HL6 := Lib.hid (HL5.out.old hb6); have r0 := HO6.out.at 0 _ rfl; have r1 := HO6.out.at 1 _ rfl; have f0 := HO6.out.fz 0; have f1 := HO6.out.fz 1; clear hb6) | (go_at_call 59; refine (HI.out _ HL6.out.pow).mono ?_; rintro e w8 ⟨rfl, hb8⟩; have HO8 := Lib.hid (HO6.out.old hb8); have HB8 := Lib.hid (HB6.out.trans (hb8.mono HB6.out.size)); have s0 := HO8.out.at 0 _ rfl; have s1 := HO8.out.at 1 _ rfl; have g0 := HO8.out.fz 0; have g1 := HO8.out.fz 1; clear hb8))
        try simp only [Exit.inBlock, Exit.then]
        refine bodyPost_ret (results_row_tmp (P := Tryz.prog) (t := 45) rfl _ _ w.heap.size [.string (strOf nm), .int .i64 v] _ rfl ((HO8.out.set 0 (.string (strOf nm))).set 1 (.int .i64 v)) Tryz.underlying45 rfl (by kernel_rfl)) rfl ?_
        exact ⟨⟨⟨nm, v⟩, rfl, fun y hy => by first | (cases hy; done) | (cases hy; rfl)⟩, zbelow_set (zbelow_set HB8.out (Nat.le_refl _) 0 _) (Nat.le_refl _) 1 _⟩
    · have hno : ∀ v, Lib.atoiAll tx ≠ .ok v := fun v h => hok ⟨v, h⟩
      have HA := Lib.hid (HA0.out hno)
      rw [numA_no tx hno] at HR
      rw [HR.out]
      clear hok hno
      go_enter Tryz.func33, Tryz.ntmps33
      go_wp2_with (first | (go_at_call 57; refine (HP.out _).mono ?_; rintro e w7 ⟨rfl, rfl⟩) | (go_at_call 35; refine (HC.out _ HL1.out).mono ?_; rintro e w5 ⟨rfl, hb5⟩; have HO5 := Lib.hid (HO1.out.old hb5); have HB5 := Lib.hid (HB1.out.trans (hb5.mono HB1.out.size)); have HL5 := Lib.hid (HL1.out.old hb5); clear hb5) | (go_at_call 58; refine (HA.out _ HL5.out).mono ?_; rintro e w6 ⟨⟨n6, te, pe, rfl⟩, hb6⟩; have HO6 := Lib.hid (HO5.out.old hb6); have HB6 := Lib.hid (HB5.out.trans (hb6.mono HB5.out.size)); have HL6 := Lib.hid (HL5.out.old hb6); have r0 := HO6.out.at 0 _ rfl; have r1 := HO6.out.at 1 _ rfl; have f0 := HO6.out.fz 0; have f1 := HO6.out.fz 1; clear hb6))
      try simp only [Exit.inBlock, Exit.then]
      refine bodyPost_ret (results_row_tmp (P := Tryz.prog) (t := 45) rfl _ _ w.heap.size [.string (strOf nm), .int .i64 n6] _ rfl ((HO6.out.set 0 (.string (strOf nm))).set 1 (.int .i64 n6)) Tryz.underlying45 rfl (by kernel_rfl)) rfl ?_
      exact ⟨⟨⟨nm, n6⟩, rfl, fun y hy => by first | (cases hy; done) | (cases hy; rfl)⟩, zbelow_set (zbelow_set HB6.out (Nat.le_refl _) 0 _) (Nat.le_refl _) 1 _⟩
theorem cutSuffix_any (s : Bs) (hz : s.length ≤ 100000) (w : World) :
    Calls Tryz.prog 60 #[.string (strOf s), .string (strOf [58])] w fun e w' => e = .returned (.tuple #[.string (strOf (if Lib.hasSuffix s [58] = true then s.take (s.length - 1) else s)), .bool (Lib.hasSuffix s [58])]) ∧ w = w' := by
  refine (Tryz.strings_CutSuffix (strOf s) (strOf [58]) w (by show s.toArray.size ≤ _; simp; omega)).mono ?_
  rintro e w' ⟨rfl, rfl⟩
  exact ⟨rfl, rfl⟩
theorem line_any (s : Bs) (hz : s.length ≤ 100000) (w : World) (hl : ILib w) :
    Calls Tryz.prog 34 #[.string (strOf s)] w fun e w' => e = .returned (.tuple #[lnV (lineA s).1, .bool (lineA s).2]) ∧ Below w.heap.size w w' := by
  have HP := Lib.hid (fun w' => cutSuffix_any s hz w')
  have HB1 := Lib.hid ((Below.refl w.heap.size w).alloc (Nat.le_refl _) (.cells #[.string ⟨#[]⟩, .int .i64 0, .int .i64 0, .int .i64 0, .int .i64 0, .int .i64 0, .string ⟨#[]⟩] 48))
  have HO1 := Lib.hid (OwnAt.new w [.string ⟨#[]⟩, .int .i64 0, .int .i64 0, .int .i64 0, .int .i64 0, .int .i64 0, .string ⟨#[]⟩] 48)
  have HL1 := Lib.hid (hl.old HB1.out)
  clear hl
  cases hp : Lib.hasSuffix s [58] with
  | true =>
    rw [hp] at HP
    rw [if_pos rfl] at HP
    have HR : Hid (lineA s = (⟨s.take (s.length - 1), zeroI 0⟩, labelB (s.take (s.length - 1)))) := by show _ = _; unfold lineA; rw [if_pos hp]
    rw [HR.out]
    have hll : (s.take (s.length - 1)).length ≤ 9223372036854775807 := by rw [List.length_take]; omega
    have HLB := Lib.hid (fun w' => label_any (s.take (s.length - 1)) hll w')
    clear hp hll
    generalize s.take (s.length - 1) = lab at *
    obtain ⟨lb, hlb⟩ : ∃ lb, labelB lab = lb := ⟨_, rfl⟩
    rw [hlb] at HLB ⊢
    clear hlb
    go_enter Tryz.func34, Tryz.ntmps34
    go_wp2_with (first | (go_at_call 60; refine (HP.out _).mono ?_; rintro e w7 ⟨rfl, rfl⟩) | (go_at_call 37; refine (HLB.out _).mono ?_; rintro e w5 ⟨rfl, hb5⟩; have HO5 := Lib.hid (HO1.out.old hb5); have HB5 := Lib.hid (HB1.out.trans (hb5.mono HB1.out.size)); have r0 := HO5.out.at 0 _ rfl; have r1 := HO5.out.at 1 _ rfl; have r2 := HO5.out.at 2 _ rfl; have r3 := HO5.out.at 3 _ rfl; have r4 := HO5.out.at 4 _ rfl; have r5 := HO5.out.at 5 _ rfl; have r6 := HO5.out.at 6 _ rfl; have f0 := HO5.out.fz 0; have f1 := HO5.out.fz 1; have f2 := HO5.out.fz 2; have f3 := HO5.out.fz 3; have f4 := HO5.out.fz 4; have f5 := HO5.out.fz 5; have f6 := HO5.out.fz 6; clear hb5))
    try simp only [Exit.inBlock, Exit.then]
    refine bodyPost_ret (results_row_tmp (P := Tryz.prog) (t := 48) rfl _ _ w.heap.size (lnCells ⟨lab, zeroI 0⟩) _ rfl (((((((HO5.out.set 0 (.string (strOf lab))).set 1 (.int .i64 0)).set 2 (.int .i64 0)).set 3 (.int .i64 0)).set 4 (.int .i64 0)).set 5 (.int .i64 0)).set 6 (.string ⟨#[]⟩)) Tryz.underlying48 rfl (by kernel_rfl)) rfl ?_
    exact ⟨rfl, zbelow_set (zbelow_set (zbelow_set (zbelow_set (zbelow_set (zbelow_set (zbelow_set HB5.out (Nat.le_refl _) 0 _) (Nat.le_refl _) 1 _) (Nat.le_refl _) 2 _) (Nat.le_refl _) 3 _) (Nat.le_refl _) 4 _) (Nat.le_refl _) 5 _) (Nat.le_refl _) 6 _⟩
  | false =>
    rw [hp] at HP
    rw [if_neg (by decide)] at HP
    have HPA := Lib.hid (fun w' h => parse_any s hz w' h)
    have hR : ∃ (x : Ins) (z : Int), parseV (parseI s) = .tuple #[insV x, .int .i64 z] ∧ lineA s = (⟨[], x⟩, z == 0) := by
      unfold lineA
      rw [hp, if_neg (by decide)]
      cases parseI s with
      | none => exact ⟨zeroI 0, 60, rfl, rfl⟩
      | some x => exact ⟨x, 0, rfl, rfl⟩
    obtain ⟨⟨o, d, a, b, n, nm⟩, z, h1, h2⟩ := hR
    rw [h1] at HPA
    rw [h2]
    clear h1 h2 hp
    unfold insV at HPA
    dsimp only at HPA
    go_enter Tryz.func34, Tryz.ntmps34
    go_wp2_with (first | (go_at_call 60; refine (HP.out _).mono ?_; rintro e w7 ⟨rfl, rfl⟩) | (go_at_call 61; refine (HPA.out _ HL1.out).mono ?_; rintro e w5 ⟨rfl, hb5⟩; have hb6 : Below w5.heap.size w5 (w5.alloc (.cells #[.int .i64 o, .int .i64 d, .int .i64 a, .int .i64 b, .int .i64 n, .string (strOf nm)] 36)) := (Below.refl _ _).alloc (Nat.le_refl _) _; have HO5 := Lib.hid ((HO1.out.old hb5).old hb6); have HB5 := Lib.hid ((HB1.out.trans (hb5.mono HB1.out.size)).alloc (Nat.le_trans HB1.out.size hb5.size) (.cells #[.int .i64 o, .int .i64 d, .int .i64 a, .int .i64 b, .int .i64 n, .string (strOf nm)] 36)); have r0 := HO5.out.at 0 _ rfl; have r1 := HO5.out.at 1 _ rfl; have r2 := HO5.out.at 2 _ rfl; have r3 := HO5.out.at 3 _ rfl; have r4 := HO5.out.at 4 _ rfl; have r5 := HO5.out.at 5 _ rfl; have r6 := HO5.out.at 6 _ rfl; have f0 := HO5.out.fz 0; have f1 := HO5.out.fz 1; have f2 := HO5.out.fz 2; have f3 := HO5.out.fz 3; have f4 := HO5.out.fz 4; have f5 := HO5.out.fz 5; have f6 := HO5.out.fz 6; clear hb5 hb6))
    try simp only [Exit.inBlock, Exit.then]
    refine bodyPost_ret (results_row_tmp (P := Tryz.prog) (t := 48) rfl _ _ w.heap.size (lnCells ⟨[], ⟨o, d, a, b, n, nm⟩⟩) _ rfl (((((((HO5.out.set 0 (.string ⟨#[]⟩)).set 1 (.int .i64 o)).set 2 (.int .i64 d)).set 3 (.int .i64 a)).set 4 (.int .i64 b)).set 5 (.int .i64 n)).set 6 (.string (strOf nm))) Tryz.underlying48 rfl (by kernel_rfl)) rfl ?_
    exact ⟨rfl, zbelow_set (zbelow_set (zbelow_set (zbelow_set (zbelow_set (zbelow_set (zbelow_set HB5.out (Nat.le_refl _) 0 _) (Nat.le_refl _) 1 _) (Nat.le_refl _) 2 _) (Nat.le_refl _) 3 _) (Nat.le_refl _) 4 _) (Nat.le_refl _) 5 _) (Nat.le_refl _) 6 _⟩
end Go.Proofs.YtlkfmnabbmceeaaGreatDoor
