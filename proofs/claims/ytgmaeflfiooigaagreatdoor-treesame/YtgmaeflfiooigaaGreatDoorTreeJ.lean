/-
  The source of raw numbers in memory; next, Var, name. Conditions: what is read lies in memory as the types say.
  Var: a raw name. No condition.
  scope.name, scope.array: a raw name, a raw array. Conditions: what is read lies in memory as the types say.
  A variable's own block in memory. No condition.
-/
import Derived.Test.YtgmaeflfiooigaaGreatDoorTreeG
import Derived.Test.YtgmaeflfiooigaaGreatDoorTreeI
import Derived.IntWalk
set_option linter.unusedVariables false
set_option linter.unusedSimpArgs false
namespace Go.Proofs.YtgmaeflfiooigaaGreatDoor
open Go.RowKit
set_option maxHeartbeats 4000000
set_option maxRecDepth 100000

theorem pick_any (c n : Int) (hc : I64 c) (h0 : 0 < n) (h1 : n ≤ 9223372036854775807) (w : World) :
    Calls Tryz.prog 28 #[.int .i64 c, .int .i64 n] w fun e w' => e = .returned (.int .i64 (pickOf c n)) ∧ w' = w := by
  obtain ⟨l, u⟩ := hc
  unfold pickOf
  by_cases hneg : c < 0
  · rw [if_pos hneg]
    have hn0 : (n == 0) = false := by simp; omega
    go_enter Tryz.func28, Tryz.ntmps28
    go_wp2_with fail
    go_ret
    exact ⟨ret_int (by show -((c + 1).tmod n) = _; rw [← Int.neg_tmod, Int.tmod_eq_emod_of_nonneg (by omega)]), rfl⟩
  · rw [if_neg hneg]
    have hneg' : 0 ≤ c := by omega
    go_enter Tryz.func28, Tryz.ntmps28
    go_wp2_with fail
    go_ret
    exact ⟨rfl, rfl⟩

/-- A slice of ints in the blocks D. -/
def IntsAt (D : Nat → Prop) (w : World) (l : List Int) (v : Value) : Prop :=
  ∃ a cap b off, v = .slice a l.length cap ∧ l.length ≤ cap ∧ Fits l.length ∧ (l.length = 0 ∨ (a = some ⟨b, off, none⟩ ∧ D b)) ∧
    (∀ i, i < l.length → w.cell? ⟨b, off + i, none⟩ = some (.int .i64 (l.getD i 0))) ∧ ∀ i, i < l.length → I64 (l.getD i 0)
theorem IntsAt.keep {D : Nat → Prop} {w w' : World} (hk : Keeps D w w') {l : List Int} {v : Value} (h : IntsAt D w l v) : IntsAt D w' l v := by
  obtain ⟨a, cap, b, off, hv, h1, h2, h3, h4, h5⟩ := h
  refine ⟨a, cap, b, off, hv, h1, h2, h3, fun i hi => ?_, h5⟩
  rcases h3 with h3 | ⟨_, hD⟩
  · omega
  · exact hk _ _ _ hD (h4 i hi)
theorem IntsAt.shape {D : Nat → Prop} {w : World} {l : List Int} {v : Value} (h : IntsAt D w l v) : ∃ a cap, v = .slice a l.length cap := by
  obtain ⟨a, cap, b, off, hv, _⟩ := h; exact ⟨a, cap, hv⟩
theorem IntsAt.fits {D : Nat → Prop} {w : World} {l : List Int} {v : Value} (h : IntsAt D w l v) : Fits l.length := by
  obtain ⟨a, cap, b, off, hv, h1, h2, _⟩ := h; exact h2
theorem IntsAt.cellAt {D : Nat → Prop} {w : World} {l : List Int} {a : Option Addr} {n cap : Nat} (h : IntsAt D w l (.slice a n cap)) (i : Nat) (hl : i < l.length) : ∃ b off, a = some ⟨b, off, none⟩ ∧ D b ∧ b < w.heap.size ∧
    w.cell? ⟨b, off + i, none⟩ = some (.int .i64 (l.getD i 0)) ∧ I64 (l.getD i 0) := by
  obtain ⟨a', cap', b, off, hv, h1, h2, h3, h4, h5⟩ := h
  cases hv
  rcases h3 with h3 | ⟨h3, hD⟩
  · omega
  · exact ⟨b, off, h3, hD, World.block_lt_of_cell? _ _ (h4 i hl), h4 i hl, h5 i hl⟩

/-- A source at s: raw numbers, and where the next one stands. -/
def SrcAt (w : World) (s : Nat) (raw : List Int) (a : Nat) : Prop :=
  ∃ v, w.heap[s]? = some (.cells #[v, .int .i64 a] 67 (0, 0)) ∧ IntsAt (· < s) w raw v ∧ a ≤ raw.length
/-- What may have changed: the source; new blocks. -/
structure SFr (s : Nat) (w w' : World) : Prop where
  os : w'.os = w.os
  tape : w'.tape = w.tape
  output : w'.output = w.output
  size : w.heap.size ≤ w'.heap.size
  block : ∀ k, k < w.heap.size → k ≠ s → w'.heap[k]? = w.heap[k]?
theorem SFr.refl (s : Nat) (w : World) : SFr s w w := ⟨rfl, rfl, rfl, Nat.le_refl _, fun _ _ _ => rfl⟩
theorem SFr.trans {s : Nat} {u v w : World} (h : SFr s u v) (k : SFr s v w) : SFr s u w :=
  ⟨k.os.trans h.os, k.tape.trans h.tape, k.output.trans h.output, Nat.le_trans h.size k.size, fun i hi hb => (k.block i (Nat.lt_of_lt_of_le hi h.size) hb).trans (h.block i hi hb)⟩
theorem SFr.of_below {s : Nat} {w w' : World} (h : Below w.heap.size w w') : SFr s w w' := ⟨h.os, h.tape, h.output, h.size, fun k hk _ => h.block k hk⟩
theorem SFr.below {s : Nat} {w w' : World} (h : SFr s w w') (hs : s ≤ w.heap.size) : Below s w w' :=
  ⟨h.os, h.tape, h.output, h.size, fun k hk => h.block k (by omega) (by omega)⟩
theorem SFr.cell {s : Nat} {w w' : World} (h : SFr s w w') {b off : Nat} {x : Value} (hb : b ≠ s) (hx : w.cell? ⟨b, off, none⟩ = some x) : w'.cell? ⟨b, off, none⟩ = some x := by
  rw [World.cell?_of_block (w := w) (h.block b (World.block_lt_of_cell? _ _ hx) hb)]; exact hx
theorem SFr.keeps {s : Nat} {w w' : World} (h : SFr s w w') : Keeps (· ≠ s) w w' := fun _ _ _ hD hx => h.cell hD hx
theorem SFr.keepsD {s : Nat} {w w' : World} (h : SFr s w w') {D : Nat → Prop} (hD : ∀ b, D b → b ≠ s) : Keeps D w w' := fun _ _ _ hd hx => h.cell (hD _ hd) hx
theorem SrcAt.lt {w : World} {s : Nat} {raw : List Int} {a : Nat} (h : SrcAt w s raw a) : s < w.heap.size := by
  obtain ⟨v, hb, _⟩ := h
  rcases Nat.lt_or_ge s w.heap.size with h' | h'
  · exact h'
  · simp [Array.getElem?_eq_none h'] at hb
theorem SrcAt.old {w w' : World} {s : Nat} {raw : List Int} {a : Nat} (h : SrcAt w s raw a) (hb : Below w.heap.size w w') : SrcAt w' s raw a := by
  have hl := h.lt
  obtain ⟨v, h1, h2, h3⟩ := h
  exact ⟨v, (hb.block s hl).trans h1, h2.keep (keeps_below hb), h3⟩
theorem SrcAt.set {w : World} {s : Nat} {raw : List Int} {a : Nat} (h : SrcAt w s raw a) (ha : a < raw.length) : SrcAt (w.setCell ⟨s, 1, none⟩ (.int .i64 ((a : Int) + 1))) s raw (a + 1) ∧ SFr s w (w.setCell ⟨s, 1, none⟩ (.int .i64 ((a : Int) + 1))) := by
  obtain ⟨v, h1, h2, h3⟩ := h
  have hf : SFr s w (w.setCell ⟨s, 1, none⟩ (.int .i64 ((a : Int) + 1))) := ⟨rfl, rfl, rfl, by simp [World.setCell], fun k _ hk => Below.heap_setCell _ _ _ _ hk⟩
  refine ⟨⟨v, ?_, h2.keep (hf.keepsD (fun b h => Nat.ne_of_lt h)), ha⟩, hf⟩
  rw [show ((a + 1 : Nat) : Int) = (a : Int) + 1 from by omega]
  simp [World.setCell, Array.getElem?_modify, h1]
/-- What a function leaves that takes of the source. -/
def Takes (w : World) (s : Nat) (raw : List Int) (x : Value) (a' : Nat) (r : Ending) (w' : World) : Prop := r = .returned x ∧ SrcAt w' s raw a' ∧ SFr s w w'
theorem SFr.drewN {s n : Nat} {w w1 : World} (h : SFr s w w1) : SFr s w (w1.drewN n) := ⟨h.os, h.tape, h.output, h.size, h.block⟩
theorem SrcAt.drewN {s n : Nat} {w1 : World} {raw : List Int} {a : Nat} (h : SrcAt w1 s raw a) : SrcAt (w1.drewN n) s raw a := h

theorem next_any (s : Nat) (raw : List Int) (a : Nat) (n : Int) (w : World) (hs : SrcAt w s raw a) (h0 : 0 < n) (h1 : n ≤ 1000000) :
    Calls Tryz.prog 32 #[.pointer (some ⟨s, 0, none⟩), .int .i64 n] w (Takes w s raw (.int .i64 (gNext raw a n).1) (gNext raw a n).2) := by
  have HS := Lib.hid hs
  obtain ⟨v, hb, hr, ha⟩ := hs
  obtain ⟨ra, rc, rfl⟩ := hr.shape
  have l63 := hr.fits.out
  have c0 : w.cell? ⟨s, 0, none⟩ = some (.slice ra raw.length rc) := by rw [Lib.cell_of_heap hb]; rfl
  have c1 : w.cell? ⟨s, 1, none⟩ = some (.int .i64 a) := by rw [Lib.cell_of_heap hb]; rfl
  have fz : w.frozen? ⟨s, 1, none⟩ = false := Lib.frozen_of_heap hb 1
  unfold gNext
  by_cases hge : raw.length ≤ a
  · rw [if_pos hge]
    clear hb hr
    go_enter Tryz.func32, Tryz.ntmps32
    go_wp2_with fail
    go_quiet (fail)
    go_wp2_with fail
    go_ret
    exact ⟨rfl, HS.out, SFr.drewN (SFr.refl _ _)⟩
  · rw [if_neg hge]
    have hlt : a < raw.length := by omega
    obtain ⟨b, off, rfl, hD, hbl, cr, hI⟩ := hr.cellAt a hlt
    have HSET := Lib.hid (HS.out.set hlt)
    have HI := Lib.hid hI
    have hD' : b ≠ s := Nat.ne_of_lt hD
    have HCR := Lib.hid (HSET.out.2.cell hD' cr)
    obtain ⟨v', hb', _, _⟩ := HSET.out.1
    have hsl := HS.out.lt
    have g0 : (w.setCell ⟨s, 1, none⟩ (.int .i64 ((a : Int) + 1))).cell? ⟨s, 0, none⟩ = some (.slice (some ⟨b, off, none⟩) raw.length rc) := by
      have h := hb
      simp [World.setCell, World.cell?, Array.getElem?_modify, h]
    clear hb hr hI hD hge hb'
    generalize hc : raw.getD a 0 = c at *
    clear hc
    go_enter Tryz.func32, Tryz.ntmps32
    go_wp2_with fail
    go_quiet (fail)
    go_wp2_with fail
    have hsv : SrcAt ((w.drewN nq).setCell ⟨s, 1, none⟩ (.int .i64 ((a : Int) + 1))) s raw (a + 1) := HSET.out.1.drewN (n := nq)
    have hfv : SFr s w ((w.drewN nq).setCell ⟨s, 1, none⟩ (.int .i64 ((a : Int) + 1))) := HSET.out.2.drewN (n := nq)
    have k0 : ((w.drewN nq).setCell ⟨s, 1, none⟩ (.int .i64 ((a : Int) + 1))).cell? ⟨s, 0, none⟩ = some (.slice (some ⟨b, off, none⟩) raw.length rc) := g0
    have k1 : ((w.drewN nq).setCell ⟨s, 1, none⟩ (.int .i64 ((a : Int) + 1))).cell? ⟨s, 1, none⟩ = some (.int .i64 ((a : Int) + 1)) := by
      obtain ⟨v2, hb2, _⟩ := hsv
      rw [Lib.cell_of_heap hb2]; show some (Value.int .i64 ((a + 1 : Nat) : Int)) = _; rw [show ((a + 1 : Nat) : Int) = (a : Int) + 1 from by omega]
    have kr : ((w.drewN nq).setCell ⟨s, 1, none⟩ (.int .i64 ((a : Int) + 1))).cell? ⟨b, off + a, none⟩ = some (.int .i64 c) := HCR.out
    have HSV := Lib.hid hsv; have HFV := Lib.hid hfv
    clear hsv hfv g0 c0 c1 cr fz HSET HCR HS
    generalize (w.drewN nq).setCell ⟨s, 1, none⟩ (.int .i64 ((a : Int) + 1)) = V at *
    have S1 : IntKind.i64.wrap ((a : Int) + 1 - 1) = a := by rw [IntWalk.i64_in _ (by omega)]; omega
    have S2 : IntKind.i64.wrap (a : Int) = a := IntWalk.i64_in _ (by omega)
    have i0 : (0 : Int) ≤ (a : Int) := by omega
    have i1 : (a : Int) < (raw.length : Int) := by omega
    have hbv : b < V.heap.size := World.block_lt_of_cell? _ _ kr
    have hsv : s < V.heap.size := HSV.out.lt
    go_region_held3 (fun w' => w'.cell? ⟨s, 0, none⟩ = some (.slice (some ⟨b, off, none⟩) raw.length rc) ∧ w'.cell? ⟨s, 1, none⟩ = some (.int .i64 ((a : Int) + 1)) ∧ w'.cell? ⟨b, off + a, none⟩ = some (.int .i64 c)) (first | (simp [*, World.cell?_alloc_lt]; done) | go_keep) (first
      | (go_at_call 28; refine (pick_any c n HI.out h0 (by omega) _).mono ?_; rintro r w2 ⟨he, hw⟩; subst he; subst hw))
    go_wp2_with fail
    go_ret
    exact ⟨rfl, HSV.out, SFr.drewN (n := 1) HFV.out⟩
end Go.Proofs.YtgmaeflfiooigaaGreatDoor

namespace Go.Proofs.YtgmaeflfiooigaaGreatDoor
open Go.RowKit
set_option maxHeartbeats 4000000
set_option maxRecDepth 100000

theorem pick2_any (c n : Int) (hc : I64 c) (h0 : 0 < n) (h1 : n ≤ 9223372036854775807) (w : World) :
    Calls Tryz.prog 134 #[.int .i64 c, .int .i64 n] w fun e w' => e = .returned (.int .i64 (pickOf c n)) ∧ w' = w := by
  obtain ⟨l, u⟩ := hc
  unfold pickOf
  by_cases hneg : c < 0
  · rw [if_pos hneg]
    have hn0 : (n == 0) = false := by simp; omega
    go_enter Tryz.func134, Tryz.ntmps134
    go_wp2_with fail
    go_ret
    exact ⟨ret_int (by show -((c + 1).tmod n) = _; rw [← Int.neg_tmod, Int.tmod_eq_emod_of_nonneg (by omega)]), rfl⟩
  · rw [if_neg hneg]
    have hneg' : 0 ≤ c := by omega
    go_enter Tryz.func134, Tryz.ntmps134
    go_wp2_with fail
    go_ret
    exact ⟨rfl, rfl⟩

/-- A slice of one byte as a text. -/
theorem conv_one (n : Int) (h0 : 0 ≤ n) (h1 : n < 256) (W : World) (b : Nat) (hc : W.cell? ⟨b, 0, none⟩ = some (.int .u8 n)) :
    (convert 79 9 (.slice (some ⟨b, 0, none⟩) 1 1)).run Tryz.prog W = .ok (.string (strOf [UInt8.ofNat n.toNat])) W := by
  refine run_convert_bytes_back (P := Tryz.prog) W 79 9 5 ⟨b, 0, none⟩ 1 [UInt8.ofNat n.toNat] Tryz.underlying79 Tryz.underlying5 Tryz.underlying9 (fun j hj => ?_)
  have hj0 : j = 0 := by simp at hj; omega
  subst hj0
  have e : ((UInt8.ofNat n.toNat).toNat : Int) = n := by
    rw [UInt8.toNat_ofNat']
    have : n.toNat % 2 ^ 8 = n.toNat := Nat.mod_eq_of_lt (by omega)
    omega
  show W.cell? _ = some (.int .u8 ((UInt8.ofNat n.toNat).toNat : Int))
  rw [e]; exact hc
theorem suf_at : ∀ j : Fin 12, ([Value.string ⟨#[]⟩, Value.string ⟨#[49]⟩, Value.string ⟨#[95]⟩, Value.string ⟨#[90, 57]⟩, Value.string ⟨#[105, 102]⟩, Value.string ⟨#[120]⟩, Value.string ⟨#[48]⟩, Value.string ⟨#[97, 97]⟩, Value.string ⟨#[105, 110, 116, 105, 110, 116]⟩, Value.string ⟨#[113, 55]⟩, Value.string ⟨#[66]⟩, Value.string ⟨#[48, 48]⟩] : List Value)[j.val]'(by simp) = .string (strOf (sufs.getD j.val [])) := by
  intro j
  obtain ⟨j, hj⟩ := j
  have : j = 0 ∨ j = 1 ∨ j = 2 ∨ j = 3 ∨ j = 4 ∨ j = 5 ∨ j = 6 ∨ j = 7 ∨ j = 8 ∨ j = 9 ∨ j = 10 ∨ j = 11 := by omega
  rcases this with rfl | rfl | rfl | rfl | rfl | rfl | rfl | rfl | rfl | rfl | rfl | rfl <;> rfl
theorem var_any (c : Int) (hc : I64 c) (w : World) :
    Calls Tryz.prog 71 #[.int .i64 c] w fun e w' => e = .returned (.string (strOf (varOf c))) ∧ Below w.heap.size w w' := by
  have hk := pickOf_range c 312 (by decide)
  have E : Hid (varOf c = UInt8.ofNat (97 + (pickOf c 312 % 26).toNat) :: sufs.getD (pickOf c 312 / 26).toNat []) := rfl
  rw [E.out]
  have HC := Lib.hid hc
  have HK : Hid (∀ w, Calls Tryz.prog 134 #[.int .i64 c, .int .i64 312] w fun e w' => e = .returned (.int .i64 (pickOf c 312)) ∧ w' = w) := fun w => pick2_any c 312 hc (by decide) (by decide) w
  clear hc E
  generalize pickOf c 312 = k at *
  obtain ⟨hk0, hk1⟩ := hk
  have hm0 : 0 ≤ k % 26 := Int.emod_nonneg _ (by decide)
  have hm1 : k % 26 < 26 := Int.emod_lt_of_pos _ (by decide)
  have hd0 : 0 ≤ k / 26 := by omega
  have hd1 : k / 26 < 12 := by omega
  have hd2 : (k / 26).toNat < 12 := by omega
  have HCV := conv_one (97 + k % 26) (by omega) (by omega)
  have HLD := suf_at ⟨(k / 26).toNat, hd2⟩
  dsimp only at HLD
  have hlen : (sufs.getD (k / 26).toNat []).length ≤ 6 := by
    have h : ∀ j : Fin 12, (sufs.getD j.val []).length ≤ 6 := by decide
    exact h ⟨_, hd2⟩
  generalize sufs.getD (k / 26).toNat [] = sf at *
  have hno : ¬ ((strOf [UInt8.ofNat (97 + k % 26).toNat]).size + (strOf sf).size > 9223372036854775807) := by
    show ¬ ([UInt8.ofNat (97 + k % 26).toNat].toArray.size + sf.toArray.size > _)
    simp; omega
  have hsb : Hid (strOf [UInt8.ofNat (97 + k % 26).toNat] ++ strOf sf = strOf (UInt8.ofNat (97 + (k % 26).toNat) :: sf)) := by
    show _ = _
    rw [show 97 + (k % 26).toNat = (97 + k % 26).toNat by omega]; rfl
  generalize strOf [UInt8.ofNat (97 + k % 26).toNat] = cb at *
  generalize hsf : strOf sf = sb at *
  have HSF := Lib.hid hsf
  clear hsf hlen
  go_enter Tryz.func71, Tryz.ntmps71
  go_wp2_with fail
  refine (HK.out _).mono ?_
  rintro r w2 ⟨he, hw⟩
  subst he; subst hw
  go_wp2_with fail
  go_region
  all_goals go_wp2_with fail
  all_goals
    go_ret
    refine ⟨?_, by repeat (first | exact Below.refl _ _ | refine Below.drew ?_ | refine Below.alloc ?_ (by simp) _)⟩
    exact congrArg (fun s => Ending.returned (Value.string s)) hsb.out
end Go.Proofs.YtgmaeflfiooigaaGreatDoor

namespace Go.Proofs.YtgmaeflfiooigaaGreatDoor
open Go.RowKit
set_option maxHeartbeats 4000000
set_option maxRecDepth 100000

abbrev scV (sc : Sc) (vv av fv : Value) : Value := .agg #[vv, av, fv, .bool sc.free, .bool sc.loop]
theorem gNext_i64 (raw : List Int) (a : Nat) (n : Int) (h : 0 < n) (h1 : n ≤ 1000000) : I64 (gNext raw a n).1 := by
  have := gNext_range raw a n h
  exact ⟨by omega, by omega⟩
theorem SrcAt.alloc {w : World} {s : Nat} {raw : List Int} {a : Nat} (h : SrcAt w s raw a) (o : Obj) : SrcAt (w.alloc o) s raw a := h.old ((Below.refl _ _).alloc (Nat.le_refl _) _)
theorem SFr.alloc {s : Nat} {w : World} (o : Obj) : SFr s w (w.alloc o) := SFr.of_below ((Below.refl _ _).alloc (Nat.le_refl _) _)

theorem name_raw (s : Nat) (raw : List Int) (a : Nat) (sc : Sc) (vv av fv lv : Value) (l : List Bs) (w : World) (hs : SrcAt w s raw a) (hl : StrsAt (· ≠ s) w l lv) (h : (sc.free || l.isEmpty) = true) :
    Calls Tryz.prog 69 #[scV sc vv av fv, .pointer (some ⟨s, 0, none⟩), lv] w (Takes w s raw (.string (strOf (gName sc.free l raw a).1)) (gName sc.free l raw a).2) := by
  obtain ⟨l1, l2, rfl⟩ := hl.shape
  have E : Hid (gName sc.free l raw a = (varOf (gNext raw a 312).1, (gNext raw a 312).2)) := by show _ = _; unfold gName; rw [if_pos h]
  rw [E.out]
  have HS1 := Lib.hid (hs.alloc (.cells #[vv, av, fv, .bool sc.free, .bool sc.loop] 69))
  have HF1 : Hid (SFr s w (w.alloc (.cells #[vv, av, fv, .bool sc.free, .bool sc.loop] 69))) := SFr.alloc _
  clear hs hl E
  have key : ∀ w1, SrcAt w1 s raw a → SFr s w w1 → Calls Tryz.prog 32 #[.pointer (some ⟨s, 0, none⟩), .int .i64 312] w1 (Takes w1 s raw (.int .i64 (gNext raw a 312).1) (gNext raw a 312).2) := fun w1 h1 h2 => next_any s raw a 312 w1 h1 (by decide) (by decide)
  have HK := Lib.hid key; clear key
  have HV : Hid (∀ w, Calls Tryz.prog 71 #[.int .i64 (gNext raw a 312).1] w fun e w' => e = .returned (.string (strOf (varOf (gNext raw a 312).1))) ∧ Below w.heap.size w w') := fun w => var_any _ (gNext_i64 raw a 312 (by decide) (by decide)) w
  generalize gNext raw a 312 = g at *
  cases hf : sc.free
  · have hl : l.length = 0 := by rw [hf] at h; simpa using h
    rw [hl]
    clear hl h
    rw [hf] at HS1 HF1
    go_enter Tryz.func69, Tryz.ntmps69
    go_wp2_with fail
    refine (HK.out _ HS1.out HF1.out).mono ?_
    rintro r w2 ⟨rfl, hs2, hf2⟩
    have HS2 := Lib.hid hs2; have HF2 := Lib.hid (HF1.out.trans hf2)
    clear hs2 hf2
    go_wp2_with fail
    refine (HV.out _).mono ?_
    rintro r w3 ⟨rfl, hb3⟩
    have HS3 := Lib.hid (HS2.out.old hb3); have HF3 := Lib.hid (HF2.out.trans (SFr.of_below hb3))
    clear hb3
    go_wp2_with fail
    go_ret
    exact ⟨rfl, HS3.out, HF3.out⟩
  · clear h
    rw [hf] at HS1 HF1
    go_enter Tryz.func69, Tryz.ntmps69
    go_wp2_with fail
    refine (HK.out _ HS1.out HF1.out).mono ?_
    rintro r w2 ⟨rfl, hs2, hf2⟩
    have HS2 := Lib.hid hs2; have HF2 := Lib.hid (HF1.out.trans hf2)
    clear hs2 hf2
    go_wp2_with fail
    refine (HV.out _).mono ?_
    rintro r w3 ⟨rfl, hb3⟩
    have HS3 := Lib.hid (HS2.out.old hb3); have HF3 := Lib.hid (HF2.out.trans (SFr.of_below hb3))
    clear hb3
    go_wp2_with fail
    go_ret
    exact ⟨rfl, HS3.out, HF3.out⟩
theorem name_of (s : Nat) (raw : List Int) (a : Nat) (sc : Sc) (vv av fv lv : Value) (l : List Bs) (w : World) (hs : SrcAt w s raw a) (hl : StrsAt (· ≠ s) w l lv) (h : (sc.free || l.isEmpty) = false) (hn : l.length ≤ 1000000) :
    Calls Tryz.prog 69 #[scV sc vv av fv, .pointer (some ⟨s, 0, none⟩), lv] w (Takes w s raw (.string (strOf (gName sc.free l raw a).1)) (gName sc.free l raw a).2) := by
  obtain ⟨l1, l2, rfl⟩ := hl.shape
  have hpos : 0 < l.length := gpos (by rw [h]; simp)
  have hf : sc.free = false := by revert h; cases sc.free <;> simp
  have E : Hid (gName sc.free l raw a = (l.getD (gNext raw a l.length).1.toNat [], (gNext raw a l.length).2)) := by show _ = _; unfold gName; rw [if_neg (by rw [h]; simp)]
  rw [E.out]
  have HS1 := Lib.hid (hs.alloc (.cells #[vv, av, fv, .bool sc.free, .bool sc.loop] 69))
  have HF1 : Hid (SFr s w (w.alloc (.cells #[vv, av, fv, .bool sc.free, .bool sc.loop] 69))) := SFr.alloc _
  have HK : Hid (∀ w1, SrcAt w1 s raw a → Calls Tryz.prog 32 #[.pointer (some ⟨s, 0, none⟩), .int .i64 l.length] w1 (Takes w1 s raw (.int .i64 (gNext raw a l.length).1) (gNext raw a l.length).2)) := fun w1 h1 => next_any s raw a l.length w1 h1 (by omega) (by omega)
  have hr := gNext_range raw a l.length (by omega)
  have HL := Lib.hid hl
  have hne : ((l.length : Int) == 0) = false := beq_eq_false_iff_ne.2 (by omega)
  clear hs hl E h
  have hi64 := gNext_i64 raw a l.length (by omega) (by omega)
  clear hi64
  generalize gNext raw a l.length = g at *
  obtain ⟨g, ga⟩ := g
  obtain ⟨g0, g1⟩ := hr
  dsimp only at g0 g1 HK ⊢
  obtain ⟨i, rfl⟩ := Int.eq_ofNat_of_zero_le g0
  rw [Int.toNat_natCast]
  have hi : i < l.length := by omega
  unfold scV
  rw [hf] at HS1 HF1 ⊢
  clear hf
  go_enter Tryz.func69, Tryz.ntmps69
  go_wp2_with fail
  refine (HK.out _ HS1.out).mono ?_
  rintro r w2 ⟨rfl, hs2, hf2⟩
  have HS2 := Lib.hid hs2; have HF2 := Lib.hid (HF1.out.trans hf2)
  clear hs2 hf2
  obtain ⟨b, off, rfl, hD, hbl, c⟩ := strsAt_at (StrsAt.keep HF2.out.keeps HL.out) i hi
  generalize l.getD i [] = x at *
  clear hD
  go_wp2_with fail
  go_ret
  exact ⟨rfl, HS2.out, HF2.out⟩
theorem name_take (s : Nat) (raw : List Int) (a : Nat) (sc : Sc) (vv av fv lv : Value) (l : List Bs) (w : World) (hs : SrcAt w s raw a) (hl : StrsAt (· ≠ s) w l lv) (hn : l.length ≤ 1000000) :
    Calls Tryz.prog 69 #[scV sc vv av fv, .pointer (some ⟨s, 0, none⟩), lv] w (Takes w s raw (.string (strOf (gName sc.free l raw a).1)) (gName sc.free l raw a).2) := by
  cases h : (sc.free || l.isEmpty)
  · exact name_of s raw a sc vv av fv lv l w hs hl h hn
  · exact name_raw s raw a sc vv av fv lv l w hs hl h
end Go.Proofs.YtgmaeflfiooigaaGreatDoor

namespace Go.Proofs.YtgmaeflfiooigaaGreatDoor
open Go.RowKit
set_option maxHeartbeats 4000000
set_option maxRecDepth 100000

def OwnAt (w : World) (b : Nat) (cs : List Value) (T : TypeId) : Prop := w.heap[b]? = some (.cells cs.toArray T (0, 0))
theorem OwnAt.new (w : World) (cs : List Value) (T : TypeId) : OwnAt (w.alloc (.cells cs.toArray T)) w.heap.size cs T := Array.getElem?_push_size
theorem OwnAt.lt {w : World} {b : Nat} {cs : List Value} {T : TypeId} (h : OwnAt w b cs T) : b < w.heap.size := by
  rcases Nat.lt_or_ge b w.heap.size with h' | h'
  · exact h'
  · unfold OwnAt at h; simp [Array.getElem?_eq_none h'] at h
theorem OwnAt.at {w : World} {b : Nat} {cs : List Value} {T : TypeId} (h : OwnAt w b cs T) (i : Nat) (v : Value) (hi : cs[i]? = some v) : w.cell? ⟨b, i, none⟩ = some v := by
  rw [Lib.cell_of_heap h]; simpa using hi
theorem OwnAt.fz {w : World} {b : Nat} {cs : List Value} {T : TypeId} (h : OwnAt w b cs T) (i : Nat) : w.frozen? ⟨b, i, none⟩ = false := Lib.frozen_of_heap h i
theorem OwnAt.old {w w' : World} {b : Nat} {cs : List Value} {T : TypeId} (h : OwnAt w b cs T) (hb : Below w.heap.size w w') : OwnAt w' b cs T := (hb.block b h.lt).trans h
theorem OwnAt.alloc {w : World} {b : Nat} {cs : List Value} {T : TypeId} (h : OwnAt w b cs T) (o : Obj) : OwnAt (w.alloc o) b cs T := h.old ((Below.refl _ _).alloc (Nat.le_refl _) _)
theorem OwnAt.sfr {s : Nat} {w w' : World} {b : Nat} {cs : List Value} {T : TypeId} (h : OwnAt w b cs T) (hf : SFr s w w') (hb : b ≠ s) : OwnAt w' b cs T := (hf.block b h.lt hb).trans h
theorem OwnAt.set {w : World} {b : Nat} {cs : List Value} {T : TypeId} (h : OwnAt w b cs T) (i : Nat) (v : Value) : OwnAt (w.setCell ⟨b, i, none⟩ v) b (cs.set i v) T := by
  unfold OwnAt at *
  simp [World.setCell, Array.getElem?_modify, h]
theorem OwnAt.other {w : World} {b : Nat} {cs : List Value} {T : TypeId} (h : OwnAt w b cs T) {k : Nat} (hk : b ≠ k) (i : Nat) (v : Value) : OwnAt (w.setCell ⟨k, i, none⟩ v) b cs T := by
  unfold OwnAt at *
  rw [Below.heap_setCell _ _ _ _ hk]; exact h
theorem keeps_set {D : Nat → Prop} (w : World) {k : Nat} (hD : ¬ D k) (i : Nat) (v : Value) : Keeps D w (w.setCell ⟨k, i, none⟩ v) := fun b off x hb hx => by
  rw [World.cell?_of_block (w := w) (Below.heap_setCell _ _ _ _ (by rintro rfl; exact hD hb))]; exact hx
theorem cell_set_ne (w : World) {b c i j : Nat} {v : Value} (h : c ≠ b) : (w.setCell ⟨b, i, none⟩ v).cell? ⟨c, j, none⟩ = w.cell? ⟨c, j, none⟩ :=
  World.cell?_of_block (w := w) (Below.heap_setCell _ _ _ _ h)
theorem SrcAt.other {w : World} {s : Nat} {raw : List Int} {a : Nat} (h : SrcAt w s raw a) {k : Nat} (hk : s < k) (i : Nat) (v : Value) : SrcAt (w.setCell ⟨k, i, none⟩ v) s raw a := by
  obtain ⟨u, h1, h2, h3⟩ := h
  exact ⟨u, (Below.heap_setCell _ _ _ _ (by show s ≠ k; omega)).trans h1, h2.keep (keeps_set w (by omega) i v), h3⟩
theorem SFr.setNew {s : Nat} {w w1 : World} (h : SFr s w w1) {b : Nat} (hb : w.heap.size ≤ b) (i : Nat) (v : Value) : SFr s w (w1.setCell ⟨b, i, none⟩ v) :=
  ⟨h.os, h.tape, h.output, by simpa [World.setCell] using h.size, fun k hk hs => (Below.heap_setCell _ _ _ _ (by show k ≠ b; omega)).trans (h.block k hk hs)⟩
theorem array_raw (s : Nat) (raw : List Int) (a : Nat) (sc : Sc) (vv av fv : Value) (w : World) (hs : SrcAt w s raw a) (hl : ArsAt (· ≠ s) w sc.arrays av) (h : (sc.free || sc.arrays.isEmpty) = true) :
    Calls Tryz.prog 36 #[scV sc vv av fv, .pointer (some ⟨s, 0, none⟩)] w (Takes w s raw (.agg #[.string (strOf (gArray sc.free sc.arrays raw a).1.name), .int .i64 (gArray sc.free sc.arrays raw a).1.size]) (gArray sc.free sc.arrays raw a).2) := by
  obtain ⟨l1, l2, rfl⟩ := hl.shape
  have hsl := hs.lt
  have E : Hid (gArray sc.free sc.arrays raw a = (⟨varOf (gNext raw a 312).1, 1 + (gNext raw (gNext raw a 312).2 1000).1⟩, (gNext raw (gNext raw a 312).2 1000).2)) := by show _ = _; unfold gArray; rw [if_pos h]
  rw [E.out]
  have HK : Hid (∀ w1, SrcAt w1 s raw a → Calls Tryz.prog 32 #[.pointer (some ⟨s, 0, none⟩), .int .i64 312] w1 (Takes w1 s raw (.int .i64 (gNext raw a 312).1) (gNext raw a 312).2)) := fun w1 h1 => next_any s raw a 312 w1 h1 (by decide) (by decide)
  have HV : Hid (∀ w, Calls Tryz.prog 71 #[.int .i64 (gNext raw a 312).1] w fun e w' => e = .returned (.string (strOf (varOf (gNext raw a 312).1))) ∧ Below w.heap.size w w') := fun w => var_any _ (gNext_i64 raw a 312 (by decide) (by decide)) w
  have HN : Hid (∀ w1, SrcAt w1 s raw (gNext raw a 312).2 → Calls Tryz.prog 32 #[.pointer (some ⟨s, 0, none⟩), .int .i64 1000] w1 (Takes w1 s raw (.int .i64 (gNext raw (gNext raw a 312).2 1000).1) (gNext raw (gNext raw a 312).2 1000).2)) := fun w1 h1 => next_any s raw _ 1000 w1 h1 (by decide) (by decide)
  have hr := gNext_range raw (gNext raw a 312).2 1000 (by decide)
  have hcase : (sc.free = false ∧ sc.arrays.length = 0) ∨ sc.free = true := by
    revert h; cases sc.free
    · intro h; exact .inl ⟨rfl, by simpa using h⟩
    · intro _; exact .inr rfl
  clear E h hl
  unfold scV
  generalize gNext raw (gNext raw a 312).2 1000 = q at *
  generalize gNext raw a 312 = g at *
  obtain ⟨r0, r1⟩ := hr
  generalize sc.free = fb at *
  generalize sc.arrays.length = n at *
  have hb1 : Below w.heap.size w ((w.alloc (.cells #[vv, .slice l1 n l2, fv, .bool fb, .bool sc.loop] 69)).alloc (.cells #[.string ⟨#[]⟩, .int .i64 0] 73)) := ((Below.refl _ _).alloc (Nat.le_refl _) _).alloc (by simp) _
  have HS1 := Lib.hid (hs.old hb1)
  have HF1 : Hid (SFr s w ((w.alloc (.cells #[vv, .slice l1 n l2, fv, .bool fb, .bool sc.loop] 69)).alloc (.cells #[.string ⟨#[]⟩, .int .i64 0] 73))) := SFr.of_below hb1
  have hr1 := OwnAt.new (w.alloc (.cells #[vv, .slice l1 n l2, fv, .bool fb, .bool sc.loop] 69)) [.string ⟨#[]⟩, .int .i64 0] 73
  rw [show (w.alloc (.cells #[vv, .slice l1 n l2, fv, .bool fb, .bool sc.loop] 69)).heap.size = w.heap.size + 1 by simp] at hr1
  have HZ : Hid (w.heap.size + 1 ≠ s) := by show _ ≠ _; omega
  have HR := Lib.hid hr1
  clear hs hb1 hr1
  have hsx : s < w.heap.size + 1 := by omega
  have hge : w.heap.size ≤ w.heap.size + 1 := by omega
  rcases hcase with ⟨rfl, rfl⟩ | rfl
  all_goals
    go_enter Tryz.func36, Tryz.ntmps36
    go_wp2_with fail
    refine (HK.out _ HS1.out).mono ?_
    rintro r w2 ⟨rfl, hs2, hf2⟩
    have HS2 := Lib.hid hs2; have HF2 := Lib.hid (HF1.out.trans hf2); have HR2 := Lib.hid (HR.out.sfr hf2 HZ.out)
    clear hs2 hf2
    go_wp2_with fail
    refine (HV.out _).mono ?_
    rintro r w3 ⟨rfl, hb3⟩
    have HS3 := Lib.hid (HS2.out.old hb3); have HF3 := Lib.hid (HF2.out.trans (SFr.of_below hb3)); have HR3 := Lib.hid (HR2.out.old hb3)
    clear hb3
    go_wp2_with fail
    refine (HN.out _ HS3.out).mono ?_
    rintro r w4 ⟨rfl, hs4, hf4⟩
    have HS4 := Lib.hid hs4; have HF4 := Lib.hid (HF3.out.trans hf4); have HR4 := Lib.hid (HR3.out.sfr hf4 HZ.out)
    clear hs4 hf4
    have c0 := HR4.out.at 0 _ rfl
    have c1 := HR4.out.at 1 _ rfl
    have z0 := HR4.out.fz 0
    have z1 := HR4.out.fz 1
    have HR5 := Lib.hid ((HR4.out.set 0 (.string (strOf (varOf g.1)))).set 1 (.int .i64 (1 + q.1)))
    have HS5 := Lib.hid ((HS4.out.other hsx 0 (.string (strOf (varOf g.1)))).other hsx 1 (.int .i64 (1 + q.1)))
    have HF5 := Lib.hid ((HF4.out.setNew hge 0 (.string (strOf (varOf g.1)))).setNew hge 1 (.int .i64 (1 + q.1)))
    go_wp2_with fail
    have d0 := HR5.out.at 0 _ rfl
    have d1 := HR5.out.at 1 _ rfl
    exact bodyPost_ret (v := .agg #[.string (strOf (varOf g.1)), .int .i64 (1 + q.1)]) (by simp [results, Tryz.results36, go_sem, d0, d1]) rfl ⟨rfl, HS5.out, HF5.out⟩
theorem array_of (s : Nat) (raw : List Int) (a : Nat) (sc : Sc) (vv av fv : Value) (w : World) (hs : SrcAt w s raw a) (hl : ArsAt (· ≠ s) w sc.arrays av) (h : (sc.free || sc.arrays.isEmpty) = false) (hn : sc.arrays.length ≤ 1000000) :
    Calls Tryz.prog 36 #[scV sc vv av fv, .pointer (some ⟨s, 0, none⟩)] w (Takes w s raw (.agg #[.string (strOf (gArray sc.free sc.arrays raw a).1.name), .int .i64 (gArray sc.free sc.arrays raw a).1.size]) (gArray sc.free sc.arrays raw a).2) := by
  obtain ⟨l1, l2, rfl⟩ := hl.shape
  have hsl := hs.lt
  have hpos : 0 < sc.arrays.length := gpos (by rw [h]; simp)
  have hf : sc.free = false := by revert h; cases sc.free <;> simp
  have E : Hid (gArray sc.free sc.arrays raw a = (arAt sc.arrays (gNext raw a sc.arrays.length).1.toNat, (gNext raw a sc.arrays.length).2)) := by show _ = _; unfold gArray; rw [if_neg (by rw [h]; simp)]
  rw [E.out]
  have HK : Hid (∀ w1, SrcAt w1 s raw a → Calls Tryz.prog 32 #[.pointer (some ⟨s, 0, none⟩), .int .i64 sc.arrays.length] w1 (Takes w1 s raw (.int .i64 (gNext raw a sc.arrays.length).1) (gNext raw a sc.arrays.length).2)) := fun w1 h1 => next_any s raw a sc.arrays.length w1 h1 (by omega) (by omega)
  have hr := gNext_range raw a sc.arrays.length (by omega)
  clear E h
  generalize gNext raw a sc.arrays.length = g at *
  obtain ⟨g, ga⟩ := g
  obtain ⟨g0, g1⟩ := hr
  dsimp only at g0 g1 HK ⊢
  obtain ⟨i, rfl⟩ := Int.eq_ofNat_of_zero_le g0
  rw [Int.toNat_natCast]
  have hi : i < sc.arrays.length := by omega
  obtain ⟨eb, off, rfl, hD, hbl, c0, c1⟩ := ArsAt.cellAt hl i hi
  have heb : eb ≠ s := hD
  generalize arAt sc.arrays i = x at *
  have hne : ((sc.arrays.length : Int) == 0) = false := beq_eq_false_iff_ne.2 (by omega)
  clear hl hD
  unfold scV
  rw [hf]
  clear hf
  generalize sc.arrays.length = n at *
  have hb1 : Below w.heap.size w ((w.alloc (.cells #[vv, .slice (some ⟨eb, off, none⟩) n l2, fv, .bool false, .bool sc.loop] 69)).alloc (.cells #[.string ⟨#[]⟩, .int .i64 0] 73)) := ((Below.refl _ _).alloc (Nat.le_refl _) _).alloc (by simp) _
  have HS1 := Lib.hid (hs.old hb1)
  have HF1 : Hid (SFr s w ((w.alloc (.cells #[vv, .slice (some ⟨eb, off, none⟩) n l2, fv, .bool false, .bool sc.loop] 69)).alloc (.cells #[.string ⟨#[]⟩, .int .i64 0] 73))) := SFr.of_below hb1
  have hr1 := OwnAt.new (w.alloc (.cells #[vv, .slice (some ⟨eb, off, none⟩) n l2, fv, .bool false, .bool sc.loop] 69)) [.string ⟨#[]⟩, .int .i64 0] 73
  rw [show (w.alloc (.cells #[vv, .slice (some ⟨eb, off, none⟩) n l2, fv, .bool false, .bool sc.loop] 69)).heap.size = w.heap.size + 1 by simp] at hr1
  have hc1 := (OwnAt.new w [vv, .slice (some ⟨eb, off, none⟩) n l2, fv, .bool false, .bool sc.loop] 69).alloc (.cells #[.string ⟨#[]⟩, .int .i64 0] 73)
  have e0 := below_keeps hb1 c0
  have e1 := below_keeps hb1 c1
  have HZ : Hid (w.heap.size + 1 ≠ s) := by show _ ≠ _; omega
  have HY : Hid (w.heap.size ≠ s) := by show _ ≠ _; omega
  have HR := Lib.hid hr1; have HC := Lib.hid hc1
  have hsx : s < w.heap.size + 1 := by omega
  have hge : w.heap.size ≤ w.heap.size + 1 := by omega
  clear hs hb1 hr1 hc1 c0 c1
  go_enter Tryz.func36, Tryz.ntmps36
  go_wp2_with fail
  generalize (w.alloc (.cells #[vv, .slice (some ⟨eb, off, none⟩) n l2, fv, .bool false, .bool sc.loop] 69)).alloc (.cells #[.string ⟨#[]⟩, .int .i64 0] 73) = W at *
  have a1 := HC.out.at 1 _ rfl
  have hdr : Below W.heap.size W W.drew := (Below.refl _ _).drew
  have HSd := Lib.hid (HS1.out.old hdr)
  clear hdr
  have hbe : eb ≠ w.heap.size + 1 := by omega
  have hX1 : w.heap.size + 1 < W.heap.size := HR.out.lt
  have z0 : W.frozen? ⟨w.heap.size + 1, 0, none⟩ = false := HR.out.fz 0
  have z1 : W.frozen? ⟨w.heap.size + 1, 1, none⟩ = false := HR.out.fz 1
  have y0 := HR.out.at 0 _ rfl
  have y1 := HR.out.at 1 _ rfl
  go_region_held3 (fun w' => w'.cell? ⟨w.heap.size, 1, none⟩ = some (.slice (some ⟨eb, off, none⟩) n l2) ∧ w'.cell? ⟨eb, off + i * 2, none⟩ = some (.string (strOf x.name)) ∧ w'.cell? ⟨eb, off + i * 2 + 1, none⟩ = some (.int .i64 x.size)) (first | (simp [*, World.cell?_alloc_lt, cell_set_ne]; done) | go_keep) (first
    | (go_at_call 32; refine (HK.out _ HSd.out).mono ?_; rintro r w4 ⟨he, hs4, hf4⟩; subst he; have HS4 := Lib.hid hs4; have HF4 := Lib.hid (HF1.out.trans ((SFr.of_below (Below.refl _ _).drew).trans hf4)); have hR4 := (HR.out.old (Below.refl _ _).drew).sfr hf4 HZ.out; have HR4 := Lib.hid hR4; have k1 : w4.cell? ⟨w.heap.size, 1, none⟩ = some (.slice (some ⟨eb, off, none⟩) n l2) := hf4.cell HY.out a1; have m0 : w4.cell? ⟨eb, off + i * 2, none⟩ = some (.string (strOf x.name)) := hf4.cell heb e0; have m1 : w4.cell? ⟨eb, off + i * 2 + 1, none⟩ = some (.int .i64 x.size) := hf4.cell heb e1; have u0 := hR4.at 0 _ rfl; have u1 := hR4.at 1 _ rfl; have v0 := hR4.fz 0; have v1 := hR4.fz 1; have hX4 : w.heap.size + 1 < w4.heap.size := hR4.lt; clear hR4 hs4 hf4))
  go_wp2_with fail
  have HR5 := Lib.hid ((HR4.out.set 0 (.string (strOf x.name))).set 1 (.int .i64 x.size))
  have HS5 := Lib.hid ((HS4.out.other hsx 0 (.string (strOf x.name))).other hsx 1 (.int .i64 x.size))
  have HF5 := Lib.hid ((HF4.out.setNew hge 0 (.string (strOf x.name))).setNew hge 1 (.int .i64 x.size))
  have d0 := HR5.out.at 0 _ rfl
  have d1 := HR5.out.at 1 _ rfl
  exact bodyPost_ret (v := .agg #[.string (strOf x.name), .int .i64 x.size]) (by simp [results, Tryz.results36, go_sem, d0, d1]) rfl ⟨rfl, HS5.out, HF5.out⟩
theorem array_take (s : Nat) (raw : List Int) (a : Nat) (sc : Sc) (vv av fv : Value) (w : World) (hs : SrcAt w s raw a) (hl : ArsAt (· ≠ s) w sc.arrays av) (hn : sc.arrays.length ≤ 1000000) :
    Calls Tryz.prog 36 #[scV sc vv av fv, .pointer (some ⟨s, 0, none⟩)] w (Takes w s raw (.agg #[.string (strOf (gArray sc.free sc.arrays raw a).1.name), .int .i64 (gArray sc.free sc.arrays raw a).1.size]) (gArray sc.free sc.arrays raw a).2) := by
  cases h : (sc.free || sc.arrays.isEmpty)
  · exact array_of s raw a sc vv av fv w hs hl h hn
  · exact array_raw s raw a sc vv av fv w hs hl h
end Go.Proofs.YtgmaeflfiooigaaGreatDoor
