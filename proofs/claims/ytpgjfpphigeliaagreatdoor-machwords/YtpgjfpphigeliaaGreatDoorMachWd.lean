/-
  Words: the arrays of MachWords, and the numbers of their words. Plain functions alone.
  MachWords: each word of the arrays has its own number. Conditions: ints that lie in memory; the library's variables lie in memory.
-/
import Derived.Test.YtpgjfpphigeliaaGreatDoorMachF
import Derived.Test.YtpgjfpphigeliaaGreatDoorJW8
import Derived.Test.YtpgjfpphigeliaaGreatDoorInstrB
import Derived.BigQuiet
import Derived.Deep.QuietTactic
set_option linter.unusedVariables false
set_option linter.unusedSimpArgs false
namespace Go.Proofs.YtpgjfpphigeliaaGreatDoor
open Go.RowKit
set_option maxHeartbeats 4000000
set_option maxRecDepth 100000

def names6 : List Bs := [[97], [98], [99], [100], [101], [102]]
def szW (z : Int) : Int := 1 + ipick z 1000
theorem szW_in (z : Int) : 1 ≤ szW z ∧ szW z ≤ 1000 := by
  have := ipick_range z 1000 (by decide)
  unfold szW; omega
def arW (raw : List Int) (i : Nat) : Ar := ⟨names6.getD i [], szW (raw.getD i 0)⟩
def wdA (raw : List Int) (k : Nat) : List Ar := (List.range k).map (arW raw)
def wdC (raw : List Int) (k : Nat) : Cd := ⟨wdA raw k, []⟩
theorem wd_succ (raw : List Int) (k : Nat) : wdA raw (k + 1) = wdA raw k ++ [arW raw k] := by
  unfold wdA
  rw [List.range_succ, List.map_append]; rfl
theorem wd_len (raw : List Int) (k : Nat) : (wdA raw k).length = k := by unfold wdA; simp
theorem wd_names (raw : List Int) (k : Nat) (hk : k ≤ 6) : (wdA raw k).map (·.name) = names6.take k := by
  unfold wdA
  rw [List.map_map]
  have : k = 0 ∨ k = 1 ∨ k = 2 ∨ k = 3 ∨ k = 4 ∨ k = 5 ∨ k = 6 := by omega
  rcases this with rfl | rfl | rfl | rfl | rfl | rfl | rfl <;> rfl
theorem wd_each (raw : List Int) (k : Nat) (hk : k ≤ 6) : ∀ a, a ∈ wdA raw k → labelB a.name = true ∧ a.name.length ≤ 40 ∧ 1 ≤ a.size ∧ a.size ≤ 1000 := by
  intro a ha
  obtain ⟨i, hi, rfl⟩ := List.mem_map.1 ha
  have hi : i < 6 := by have := List.mem_range.1 hi; omega
  have hs := szW_in (raw.getD i 0)
  have : i = 0 ∨ i = 1 ∨ i = 2 ∨ i = 3 ∨ i = 4 ∨ i = 5 := by omega
  rcases this with rfl | rfl | rfl | rfl | rfl | rfl <;> exact ⟨rfl, of_decide_eq_true rfl, hs.1, hs.2⟩
theorem wd_fine (raw : List Int) (k : Nat) (hk : k ≤ 6) : FineC (wdC raw k) := by
  have he := wd_each raw k hk
  have h1 : (wdA raw k).any arrBad = false := by
    rw [List.any_eq_false]
    intro a ha
    obtain ⟨h1, _, h3, h4⟩ := he a ha
    unfold arrBad
    rw [h1, decide_eq_false (by omega), decide_eq_false (by omega)]; decide
  have h2 : ((wdA raw k).map (·.name)).Nodup := by
    rw [wd_names raw k hk]
    have : k = 0 ∨ k = 1 ∨ k = 2 ∨ k = 3 ∨ k = 4 ∨ k = 5 ∨ k = 6 := by omega
    rcases this with rfl | rfl | rfl | rfl | rfl | rfl | rfl <;> decide
  have h3 : arrsE (wdA raw k) = 0 := by
    unfold arrsE
    rw [h1, if_neg (by decide), if_pos h2]
  refine ⟨?_, by show (wdA raw k).length ≤ 1000; rw [wd_len]; omega, short_of (fun x hx => by cases hx) (fun a ha => (he a ha).2.1)⟩
  unfold checkC
  show (if 40000 < (0 : Nat) then _ else if arrsE (wdA raw k) ≠ 0 then _ else checkL (wdC raw k) 0 []).1 = 0
  rw [if_neg (by decide), h3, if_neg (by decide)]; rfl
theorem wd_total (raw : List Int) (k : Nat) : 0 ≤ sizeZ (wdA raw k) ∧ sizeZ (wdA raw k) ≤ 1000 * (k : Int) := by
  induction k with
  | zero => exact ⟨Int.le_refl _, Int.le_refl _⟩
  | succ k ih =>
    rw [wd_succ, sizeZ_snoc]
    have := szW_in (raw.getD k 0)
    show 0 ≤ sizeZ (wdA raw k) + szW (raw.getD k 0) ∧ sizeZ (wdA raw k) + szW (raw.getD k 0) ≤ 1000 * ((k + 1 : Nat) : Int)
    omega
theorem wd_addr (raw : List Int) (k : Nat) (hk : k < 6) : addrZ (wdC raw (k + 1)) (names6.getD k []) = 65536 + 8 * sizeZ (wdA raw k) := by
  unfold addrZ
  show (startZ (wdA raw (k + 1)) 65536 (names6.getD k [])).getD (-1) = _
  rw [wd_succ, startZ_app]
  · show (if (arW raw k).name = names6.getD k [] then some (65536 + 8 * sizeZ (wdA raw k)) else _).getD (-1) = _
    rw [if_pos (show (arW raw k).name = names6.getD k [] from rfl)]; rfl
  · intro a ha e
    have hn : a.name ∈ (wdA raw k).map (·.name) := List.mem_map_of_mem ha
    rw [wd_names raw k (by omega), e] at hn
    revert hn
    have : k = 0 ∨ k = 1 ∨ k = 2 ∨ k = 3 ∨ k = 4 ∨ k = 5 := by omega
    rcases this with rfl | rfl | rfl | rfl | rfl | rfl <;> decide
theorem nw_1 {n s : Int} (h0 : 0 ≤ n) (h1 : n ≤ 6000) (s0 : 1 ≤ s) (s1 : s ≤ 1000) : numberZ (65536 + 8 * n) (n + s) = n := by
  unfold numberZ
  rw [if_neg (by omega), if_pos (by omega)]; omega
theorem nw_2 {n s : Int} (h0 : 0 ≤ n) (h1 : n ≤ 6000) (s0 : 1 ≤ s) (s1 : s ≤ 1000) : numberZ (65536 + 8 * n + 8 * s - 8) (n + s) = n + s - 1 := by
  unfold numberZ
  rw [if_neg (by omega), if_pos (by omega)]; omega
theorem nw_3 {n s : Int} (h0 : 0 ≤ n) (h1 : n ≤ 6000) (s0 : 1 ≤ s) (s1 : s ≤ 1000) : numberZ (65536 + 8 * n + 8 * s) (n + s) = -1 := by
  unfold numberZ
  rw [if_neg (by omega), if_neg (by omega), if_neg (by omega)]
theorem nw_4 {n s : Int} (h0 : 0 ≤ n) (h1 : n ≤ 6000) (s0 : 1 ≤ s) (s1 : s ≤ 1000) : numberZ (65536 + 8 * n + 1) (n + s) = -1 := by
  unfold numberZ
  rw [if_pos (by omega)]
theorem nw_5 {n j : Int} (h0 : 0 ≤ n) (h1 : n ≤ 6000) (j0 : 0 ≤ j) (j1 : j < 4096) : numberZ (1073709056 + 8 * j) n = n + j := by
  unfold numberZ
  rw [if_neg (by omega), if_neg (by omega), if_pos (by omega)]; omega
theorem nw_6 {n : Int} (h0 : 0 ≤ n) (h1 : n ≤ 6000) : numberZ 1073741824 n = -1 ∧ numberZ 1073709048 n = -1 ∧ numberZ 65528 n = -1 ∧ numberZ 0 n = -1 := by
  unfold numberZ
  refine ⟨?_, ?_, ?_, ?_⟩ <;> rw [if_neg (by omega), if_neg (by omega), if_neg (by omega)]
theorem names6_at (k : Nat) (hk : k < 6) : ([.string ⟨#[97]⟩, .string ⟨#[98]⟩, .string ⟨#[99]⟩, .string ⟨#[100]⟩, .string ⟨#[101]⟩, .string ⟨#[102]⟩] : List Value)[k]? = some (.string (strOf (names6.getD k []))) := by
  have : k = 0 ∨ k = 1 ∨ k = 2 ∨ k = 3 ∨ k = 4 ∨ k = 5 := by omega
  rcases this with rfl | rfl | rfl | rfl | rfl | rfl <;> rfl
end Go.Proofs.YtpgjfpphigeliaaGreatDoor

namespace Go.Proofs.YtpgjfpphigeliaaGreatDoor
open Go.RowKit
set_option maxHeartbeats 4000000
set_option maxRecDepth 100000

/-- The code as it grows. -/
structure WdIn (w : World) (X : Nat) (raw : List Int) (k : Nat) (va : Value) (wr : World) : Prop where
  x : OwnAt wr X [va, .slice none 0 0] 27
  row : ArwOwn wr (X + 1) (wdA raw k) va
  be : Below w.heap.size w wr
  lo : w.heap.size ≤ X
theorem WdIn.old {w : World} {X : Nat} {raw : List Int} {k : Nat} {va : Value} {wr w' : World} (h : WdIn w X raw k va wr) (hb : Below wr.heap.size wr w') : WdIn w X raw k va w' :=
  ⟨h.x.old hb, RwOwn.old h.row hb, h.be.trans (hb.mono h.be.size), h.lo⟩
theorem WdIn.code {w : World} {X : Nat} {raw : List Int} {k : Nat} {va : Value} {wr : World} (h : WdIn w X raw k va wr) (hk : k ≤ 6) : CodeAt wr (wdC raw k) va (.slice none 0 0) :=
  ⟨RwOwn.nilv h.row (by show (wdA raw k).length ≤ _; rw [wd_len]; omega) arCells_len, RwAt.nil _ _ _⟩
theorem WdIn.next {w : World} {X : Nat} {raw : List Int} {k : Nat} {va vg : Value} {wr w' : World} (h : WdIn w X raw k va wr) (hf : Fr3 X va (.slice none 0 0) wr w') (hx : OwnAt w' X [vg, .slice none 0 0] 27) (hr : ArwOwn w' (X + 1) (wdA raw k ++ [arW raw k]) vg) : WdIn w X raw (k + 1) vg w' := by
  refine ⟨hx, by rw [wd_succ]; exact hr, ⟨hf.os.trans h.be.os, hf.tape.trans h.be.tape, hf.output.trans h.be.output, Nat.le_trans h.be.size hf.size, fun j hj => ?_⟩, h.lo⟩
  have hlo := h.lo
  refine (hf.block j (Nat.lt_of_lt_of_le hj h.be.size) (by omega) (fun e => ?_) (fun e => by cases e)).trans (h.be.block j hj)
  have := (RwOwn.lt h.row j e).1
  omega
theorem mwords_any (raw : List Int) (hn : ∀ z, z ∈ raw → I64 z) (at' : Int) (vs : Value) (ha : I64 at') (w : World) (hr : NumsAt w raw vs) (hl : ILib w) :
    Calls Tryz.prog 7 #[vs, .int .i64 at'] w fun e w' => e = .returned (.bool true) ∧ Below w.heap.size w w' := by
  obtain ⟨sa, sc, rfl⟩ := RwAt.shape hr
  have hlr := RwAt.len hr
  have hlrI : (raw.length : Int) ≤ 140737488355328 := by omega
  have HAW := Lib.hid (jawake_any w hl)
  have HPK := Lib.hid (fun w => jpick_any at' 4096 ha (by decide) (by decide) w)
  obtain ⟨j0, j1⟩ := ipick_range at' 4096 (by decide)
  generalize ipick at' 4096 = kk at *
  have HN := Lib.hid hn; have HRW := Lib.hid hr
  clear hl hn hr
  go_enter Tryz.func7, Tryz.ntmps7
  go_wp2_with fail
  refine (HAW.out).mono ?_
  rintro e w1 ⟨rfl, hb1⟩
  have hbA : Below w1.heap.size w1 (w1.alloc (.cells #[.slice none 0 0, .slice none 0 0] 27)) := (Below.refl _ _).alloc (Nat.le_refl _) _
  have hlo1 : w.heap.size ≤ w1.heap.size := hb1.size
  have HI0 : Hid (WdIn w w1.heap.size raw 0 (.slice none 0 0) (w1.alloc (.cells #[.slice none 0 0, .slice none 0 0] 27))) := Lib.hid ⟨OwnAt.new w1 [.slice none 0 0, .slice none 0 0] 27, RwOwn.zero _ _ _ _ _, hb1.trans (hbA.mono hb1.size), hlo1⟩
  clear hb1 hbA HAW
  go_wp2_with fail
  generalize w1.heap.size = X at *
  go_loopw [7, 8] (fun s7 s8 wr => ∃ k : Nat, k ≤ 6 ∧ k ≤ raw.length ∧ s8 = .int .i64 k ∧ s7 = .int .i64 (sizeZ (wdA raw k)) ∧ ∃ va, Hid (WdIn w X raw k va wr)) (fun _ s8 _ => 6 - (intOf s8).toNat)
  case atStart => exact ⟨0, Nat.zero_le _, Nat.zero_le _, rfl, rfl, _, HI0⟩
  case round =>
    clear HI0
    obtain ⟨k, hk6, hkl, rfl, rfl, va, HI⟩ := hrel
    obtain ⟨t0, t1⟩ := wd_total raw k
    have hk6I : (k : Int) ≤ 6 := by omega
    go_upto_region 5 with (fail)
    go_cut [20] from 13 to 92 (fun s20 wx => s20 = .bool (decide (k < raw.length ∧ k < 6)) ∧ wr = wx)
    case first =>
      by_cases hlt : k < raw.length
      · by_cases h6 : k < 6
        · have h6I : (k : Int) < 6 := by omega
          go_wp2_with fail
          go_meet
          exact ⟨by simp [hlt, h6], rfl⟩
        · have h6I : ¬ (k : Int) < 6 := by omega
          go_wp2_with fail
          go_meet
          exact ⟨by simp [hlt, h6], rfl⟩
      · go_wp2_with fail
        go_meet
        exact ⟨by simp [hlt], rfl⟩
    case rest =>
    obtain ⟨rfl, rfl⟩ := hcut
    by_cases hgo : k < raw.length ∧ k < 6
    · rw [decide_eq_true hgo]
      obtain ⟨hlt, h6⟩ := hgo
      have hkI : (k : Int) < (raw.length : Int) := by omega
      have h6I : (k : Int) < 6 := by omega
      obtain ⟨rb, ro, rfl, hrb, hrc⟩ := NumsAt.at (HRW.out.old HI.out.be) hlt
      have hzin := HN.out _ (List.getElem_mem hlt)
      have hgd : raw.getD k 0 = raw[k] := by rw [List.getD_eq_getElem?_getD, List.getElem?_eq_getElem hlt]; rfl
      have HAR : Hid (arW raw k = ⟨names6.getD k [], szW raw[k]⟩) := Lib.hid (by unfold arW; rw [hgd])
      obtain ⟨z, hz⟩ : ∃ z, raw[k] = z := ⟨_, rfl⟩
      rw [hz] at hrc hzin HAR
      clear hz hgd
      have HPZ := Lib.hid (fun w => jpick_any z 1000 hzin (by decide) (by decide) w)
      obtain ⟨p0, p1⟩ := ipick_range z 1000 (by decide)
      have hsz : szW z = 1 + ipick z 1000 := rfl
      generalize ipick z 1000 = p at *
      have hadd := wd_addr raw k h6
      have hnl : (names6.getD k []).length ≤ 40 := by
        have : k = 0 ∨ k = 1 ∨ k = 2 ∨ k = 3 ∨ k = 4 ∨ k = 5 := by omega
        rcases this with rfl | rfl | rfl | rfl | rfl | rfl <;> decide
      have HNM := Lib.hid (names6_at k h6)
      have hsn : sizeZ (wdA raw (k + 1)) = sizeZ (wdA raw k) + (1 + p) := by rw [wd_succ, sizeZ_snoc, HAR.out, hsz]
      have HSN := Lib.hid hsn
      have HFC := Lib.hid (wd_fine raw (k + 1) (by omega))
      have hmem : (wdA raw (k + 1))[k]? = some (arW raw k) := by
        rw [wd_succ, List.getElem?_append_right (by rw [wd_len]; exact Nat.le_refl _), wd_len, Nat.sub_self]; rfl
      have HME := Lib.hid hmem
      have q1 := nw_1 (n := sizeZ (wdA raw k)) (s := 1 + p) t0 (by omega) (by omega) (by omega)
      have q2 := nw_2 (n := sizeZ (wdA raw k)) (s := 1 + p) t0 (by omega) (by omega) (by omega)
      have q3 := nw_3 (n := sizeZ (wdA raw k)) (s := 1 + p) t0 (by omega) (by omega) (by omega)
      have q4 := nw_4 (n := sizeZ (wdA raw k)) (s := 1 + p) t0 (by omega) (by omega) (by omega)
      have t1' : sizeZ (wdA raw k) ≤ 6000 := by omega
      have HA : Hid (∀ va vl w, CodeAt w (wdC raw (k + 1)) va vl → Calls Tryz.prog 19 #[.agg #[va, vl], .string (strOf (names6.getD k []))] w fun e w' => e = .returned (.int .i64 (65536 + 8 * sizeZ (wdA raw k))) ∧ Below w.heap.size w w') := Lib.hid fun va vl w hc => by
        have := addr_any (wdC raw (k + 1)) HFC.out va vl (names6.getD k []) (by omega) w hc
        rw [hadd] at this; exact this
      have HW : Hid (∀ (pl res : Int), I64 pl → numberZ pl (sizeZ (wdA raw k) + (1 + p)) = res → ∀ va vl w, CodeAt w (wdC raw (k + 1)) va vl → Calls Tryz.prog 20 #[.agg #[va, vl], .int .i64 pl] w fun e w' => e = .returned (.int .i64 res) ∧ Below w.heap.size w w') := Lib.hid fun pl res hp hq va vl w hc => by
        have := where_any (wdC raw (k + 1)) HFC.out va vl pl hp w hc
        rw [show sizeZ (wdC raw (k + 1)).arrs = sizeZ (wdA raw k) + (1 + p) from hsn, hq] at this; exact this
      obtain ⟨n, hnn⟩ : ∃ n, sizeZ (wdA raw k) = n := ⟨_, rfl⟩
      rw [hnn] at t0 t1 t1' q1 q2 q3 q4 HA HW HSN ⊢
      clear hadd hsn hmem hnn hzin
      have HW1 := Lib.hid (HW.out _ _ ⟨by omega, by omega⟩ q1)
      have HW2 := Lib.hid (HW.out _ _ ⟨by omega, by omega⟩ q2)
      have HW3 := Lib.hid (HW.out _ _ ⟨by omega, by omega⟩ q3)
      have HW4 := Lib.hid (HW.out _ _ ⟨by omega, by omega⟩ q4)
      clear HW q1 q2 q3 q4
      go_wp2_with fail
      refine (HPZ.out _).mono ?_
      rintro e w2 ⟨rfl, rfl⟩
      go_upto_region 8 with (fail)
      have hxl := HI.out.x.lt
      have hvX : va.ownBlock ≠ some X := fun e => by have := (RwOwn.lt HI.out.row X e).1; omega
      refine wp_cut (fun a' w' => RW8 X va (.slice none 0 0) (wdA raw k) k (names6.getD k []) (1 + p) (X + 1) wr _ _ _ _ _ _ _ _ _ _ _ _ _ _ _ _ _ _ _ _ _ _ _ _ _ _ _ _ _ _ _ _ _ _ _ _ _ _ _ _ _ _ _ _ _ _ _ _ _ _ _ _ _ _ _ _ _ _ _ _ _ _ _ _ _ _ _ _ _ _ _ _ _ _ _ _ _ _ _ _ _ _ _ _ _ _ _ _ _ _ _ _ _ _ _ _ _ _ _ _ _ _ _ _ _ _ _ _ _ _ _ _ _ a' w') ?rest (fun J K' hJ hM => then_any (reg_W8 X va (.slice none 0 0) (wdA raw k) k (names6.getD k []) (1 + p) (X + 1) wr HI.out.x HI.out.row hvX (by rw [wd_len]; omega) hxl h6 HNM.out _ _ _ _ _ _ _ _ _ _ _ _ _ _ _ _ _ _ _ _ _ _ _ _ _ _ _ _ _ _ _ _ _ _ _ _ _ _ _ _ _ _ _ _ _ _ _ _ _ _ _ _ _ _ _ _ _ _ _ _ _ _ _ _ _ _ _ _ _ _ _ _ _ _ _ _ _ _ _ _ _ _ _ _ _ _ _ _ _ _ _ _ _ _ _ _ _ _ _ _ _ _ _ _ _ _ _ _ _ _ _ _ _ _ _ _ _ _ _ _ _ _ _ _ J K' hJ hM))
      case rest =>
      rintro a' w' ⟨ts, nb, gn, cn, ⟨hfr, hx8, hr8, _⟩, rfl⟩
      dsimp only
      rw [hsz] at HAR
      have HI2 : Hid (WdIn w X raw (k + 1) (.slice (some ⟨gn, 0, none⟩) (k + 1) cn) w') := Lib.hid (by
        have := HI.out.next hfr hx8 (by rw [HAR.out]; exact hr8)
        rw [wd_len] at this; exact this)
      rw [wd_len]
      clear hfr hx8 hr8 hvX hxl HI hrb hrc
      obtain ⟨W2, hW2⟩ : ∃ W2, w' = W2 := ⟨_, rfl⟩
      rw [hW2] at HI2 ⊢
      clear hW2 w'
      obtain ⟨Ix, hIx, F, HFB, HFI⟩ := lat_fun W2
      have HCL : Hid (∀ m, Calls Tryz.prog 19 #[.agg #[.slice (some ⟨gn, 0, none⟩) (k + 1) cn, .slice none 0 0], .string (strOf (names6.getD k []))] (F m) fun e w' => e = .returned (.int .i64 (65536 + 8 * n)) ∧ ∃ m, w' = F m) := fun m => by
        refine (HA.out _ _ (F m) ((HI2.out.old (HFB.out m)).code (by omega))).mono ?_
        rintro e w' ⟨he, hb⟩
        exact ⟨he, HFI.out w' ((HFB.out m).trans (hb.mono (HFB.out m).size))⟩
      have x0 : ∀ m, (F m).cell? ⟨X, 0, none⟩ = some (.slice (some ⟨gn, 0, none⟩) (k + 1) cn) := fun m => below_keeps (HFB.out m) (HI2.out.x.at 0 _ rfl)
      have x1 : ∀ m, (F m).cell? ⟨X, 1, none⟩ = some (.slice none 0 0) := fun m => below_keeps (HFB.out m) (HI2.out.x.at 1 _ rfl)
      obtain ⟨c0, hgl⟩ : W2.cell? ⟨gn, 0 + k * 2, none⟩ = some (.string (strOf (names6.getD k []))) ∧ gn < W2.heap.size := by
        have hk1 : k < (wdA raw (k + 1)).length := by rw [wd_len]; omega
        have hrw := RwOwn.nilv HI2.out.row (show (wdA raw (k + 1)).length ≤ _ by rw [wd_len]; omega) arCells_len
        obtain ⟨b', o', e', hbl, hc, _⟩ := ArwAt.at hrw hk1
        cases e'
        have e2 := HME.out
        rw [List.getElem?_eq_getElem hk1] at e2
        rw [Option.some.inj e2, HAR.out] at hc
        exact ⟨hc, hbl⟩
      rw [Nat.zero_add] at c0
      have x2 : ∀ m, (F m).cell? ⟨gn, k * 2, none⟩ = some (.string (strOf (names6.getD k []))) := fun m => below_keeps (HFB.out m) c0
      have HST : Hid (∃ m, W2.drew = F m) := HFI.out _ (Below.refl _ _).drew
      have hXl : X < W2.heap.size := HI2.out.x.lt
      have hk1I : (k : Int) < ((k + 1 : Nat) : Int) := by omega
      clear c0 HA HME HAR HFC
      generalize names6.getD k [] = nm at *
      go_wp2_with fail
      refine region_in F (by kernel_rfl) (by kernel_rfl) HST.out ?_
      repeat (go_big_quiet_step ((go_at_call 19; exact HCL.out _)))
      refine wpQuiet_nil ?_
      intro _ hw'
      obtain ⟨nq, hw''⟩ := hw'
      subst hw''
      have HI3 := Lib.hid (HI2.out.old (HFB.out nq))
      clear HCL HST x0 x1 x2 hXl hgl HI2
      generalize F nq = W3 at *
      clear HFB HFI
      have d0 := HI3.out.x.at 0 _ rfl
      have d1 := HI3.out.x.at 1 _ rfl
      have dl := HI3.out.x.lt
      go_wp2_with fail
      refine (HW1.out _ _ _ (HI3.out.code (by omega))).mono ?_
      rintro e v0 ⟨rfl, hbv⟩
      replace HI3 := Lib.hid (HI3.out.old hbv)
      clear hbv d0 d1 dl
      have d0 := HI3.out.x.at 0 _ rfl
      have d1 := HI3.out.x.at 1 _ rfl
      have dl := HI3.out.x.lt
      go_wp2_with fail
      refine (HW2.out _ _ _ (HI3.out.code (by omega))).mono ?_
      rintro e v1 ⟨rfl, hbv⟩
      replace HI3 := Lib.hid (HI3.out.old hbv)
      clear hbv d0 d1 dl
      have d0 := HI3.out.x.at 0 _ rfl
      have d1 := HI3.out.x.at 1 _ rfl
      have dl := HI3.out.x.lt
      go_wp2_with fail
      refine (HW3.out _ _ _ (HI3.out.code (by omega))).mono ?_
      rintro e v2 ⟨rfl, hbv⟩
      replace HI3 := Lib.hid (HI3.out.old hbv)
      clear hbv d0 d1 dl
      have d0 := HI3.out.x.at 0 _ rfl
      have d1 := HI3.out.x.at 1 _ rfl
      have dl := HI3.out.x.lt
      go_wp2_with fail
      refine (HW4.out _ _ _ (HI3.out.code (by omega))).mono ?_
      rintro e v3 ⟨rfl, hbv⟩
      replace HI3 := Lib.hid (HI3.out.old hbv)
      clear hbv d0 d1 dl
      go_wp2_with fail
      refine ⟨⟨k + 1, h6, hlt, by first | rfl | (simp; done) | go_num, by rw [HSN.out], _, HI3⟩, by simp [intOf]; omega⟩
    · rw [decide_eq_false hgo]
      have hgo2 : True := trivial
      clear HN
      go_wp2_with fail
      refine (HPK.out _).mono ?_
      rintro e w5 ⟨rfl, rfl⟩
      clear HPK
      have HFC := Lib.hid (wd_fine raw k hk6)
      have t1' : sizeZ (wdA raw k) ≤ 6000 := by omega
      have HW : Hid (∀ (pl res : Int), I64 pl → numberZ pl (sizeZ (wdA raw k)) = res → ∀ va vl w, CodeAt w (wdC raw k) va vl → Calls Tryz.prog 20 #[.agg #[va, vl], .int .i64 pl] w fun e w' => e = .returned (.int .i64 res) ∧ Below w.heap.size w w') := Lib.hid fun pl res hp hq va vl w hc => by
        have := where_any (wdC raw k) HFC.out va vl pl hp w hc
        rw [show sizeZ (wdC raw k).arrs = sizeZ (wdA raw k) from rfl, hq] at this; exact this
      have q1 := nw_5 (n := sizeZ (wdA raw k)) (j := kk) t0 t1' j0 j1
      obtain ⟨q2, q3, q4, q5⟩ := nw_6 (n := sizeZ (wdA raw k)) t0 t1'
      generalize sizeZ (wdA raw k) = n at *
      have HW1 := Lib.hid (HW.out _ _ ⟨by omega, by omega⟩ q1)
      have HW2 := Lib.hid (HW.out _ _ ⟨by decide, by decide⟩ q2)
      have HW3 := Lib.hid (HW.out _ _ ⟨by decide, by decide⟩ q3)
      have HW4 := Lib.hid (HW.out _ _ ⟨by decide, by decide⟩ q4)
      have HW5 := Lib.hid (HW.out _ _ ⟨by decide, by decide⟩ q5)
      clear HW q1 q2 q3 q4 q5 HFC
      obtain ⟨aa, ac, rfl⟩ := RwAt.shape (HI.out.code hk6).1
      have d0 := HI.out.x.at 0 _ rfl
      have d1 := HI.out.x.at 1 _ rfl
      have dl := HI.out.x.lt
      go_wp2_with fail
      refine (HW1.out _ _ _ (HI.out.code hk6)).mono ?_
      rintro e v0 ⟨rfl, hbv⟩
      replace HI := Lib.hid (HI.out.old hbv)
      clear hbv d0 d1 dl
      have d0 := HI.out.x.at 0 _ rfl
      have d1 := HI.out.x.at 1 _ rfl
      have dl := HI.out.x.lt
      go_wp2_with fail
      refine (HW2.out _ _ _ (HI.out.code hk6)).mono ?_
      rintro e v1 ⟨rfl, hbv⟩
      replace HI := Lib.hid (HI.out.old hbv)
      clear hbv d0 d1 dl
      have d0 := HI.out.x.at 0 _ rfl
      have d1 := HI.out.x.at 1 _ rfl
      have dl := HI.out.x.lt
      go_wp2_with fail
      refine (HW3.out _ _ _ (HI.out.code hk6)).mono ?_
      rintro e v2 ⟨rfl, hbv⟩
      replace HI := Lib.hid (HI.out.old hbv)
      clear hbv d0 d1 dl
      have d0 := HI.out.x.at 0 _ rfl
      have d1 := HI.out.x.at 1 _ rfl
      have dl := HI.out.x.lt
      go_wp2_with fail
      refine (HW4.out _ _ _ (HI.out.code hk6)).mono ?_
      rintro e v3 ⟨rfl, hbv⟩
      replace HI := Lib.hid (HI.out.old hbv)
      clear hbv d0 d1 dl
      have d0 := HI.out.x.at 0 _ rfl
      have d1 := HI.out.x.at 1 _ rfl
      have dl := HI.out.x.lt
      go_wp2_with fail
      refine (HW5.out _ _ _ (HI.out.code hk6)).mono ?_
      rintro e v4 ⟨rfl, hbv⟩
      replace HI := Lib.hid (HI.out.old hbv)
      clear hbv d0 d1 dl
      go_wp2_with fail
      go_ret
      exact ⟨rfl, HI.out.be⟩
end Go.Proofs.YtpgjfpphigeliaaGreatDoor
