/-
  The library's variables that the program reads; numbers' texts. Condition: they lie in memory.
  A strings.Builder of one's own: what its writers do. Condition: at most 2^47 bytes.
  Print: an instruction's text. Conditions: its number fits an int; its name is no longer than an int tells; the library's table lies in memory.
-/
import Derived.Test.YtgdnnaiidmfncaaDoorInstrB
import Derived.Test.YtgdnnaiidmfncaaDoorInstrA
import Derived.Test.YtgdnnaiidmfncaaDoorScanSh
import Derived.WideLaws
import Derived.Lib.SmallJoins
import Derived.Lib.OthersKept
import Derived.Lib.Builder
import Derived.Lib.AppendStr
import Derived.Great.Walk
import Derived.Test.YtgdnnaiidmfncaaDoorInstrC
set_option linter.unusedVariables false
set_option linter.unusedSimpArgs false
namespace Go.Proofs.YtgdnnaiidmfncaaDoor
open Go.RowKit
set_option maxHeartbeats 4000000
set_option maxRecDepth 100000

def TabOk (w : World) : Prop := Lib.TabIs Tryd.prog w "internal/strconv.uint64pow10" .u64 Lib.pow10Tab
theorem TabOk.keep {w w' : World} (h : TabOk w) (hb : w'.heap[3]? = w.heap[3]?) : TabOk w' := by
  have hg : Tryd.prog.globalNamed "internal/strconv.uint64pow10" = some 3 := by kernel_rfl
  unfold TabOk Lib.TabIs World.var? at *
  simp only [hg, Option.bind_eq_bind, Option.bind_some] at *
  rw [hb]; exact h
theorem itoa_any (n : Int) (h0 : -9223372036854775808 ≤ n) (h1 : n ≤ 9223372036854775807) (w : World) (ht : TabOk w) :
    Calls Tryd.prog 26 #[.int .i64 n] w fun e w' => e = .returned (.string (strOf (Lib.itoa n))) ∧ Below w.heap.size w w' := by
  refine (Tryd.strconv_Itoa n h0 h1 w ht).mono ?_
  rintro e w' ⟨rfl, k, os, rfl⟩
  exact ⟨rfl, rfl, rfl, rfl, by simp, fun i hi => by simp [Sort.grow, World.drewN, Array.getElem?_append_left hi]⟩
structure ILib (w : World) : Prop where
  pow : TabOk w
  max : ∃ m, w.cell? ⟨0, 0, none⟩ = some (.int .i64 m)
  syn : ∃ te pe, w.cell? ⟨1, 0, none⟩ = some (.iface te pe)
  ran : ∃ te pe, w.cell? ⟨2, 0, none⟩ = some (.iface te pe)
theorem ILib.lt {w : World} (h : ILib w) : 3 < w.heap.size := by
  have gTab : Tryd.prog.globalNamed "internal/strconv.uint64pow10" = some 3 := by kernel_rfl
  exact World.block_lt_of_cell? _ _ (Lib.TabIs.cell h.pow gTab 0 (by decide))
theorem ILib.old {w w' : World} (h : ILib w) (hb : Below w.heap.size w w') : ILib w' :=
  ⟨h.pow.keep (hb.block _ h.lt), by obtain ⟨m, hm⟩ := h.max; exact ⟨m, below_keeps hb hm⟩, by obtain ⟨m, p, hm⟩ := h.syn; exact ⟨m, p, below_keeps hb hm⟩, by obtain ⟨m, p, hm⟩ := h.ran; exact ⟨m, p, below_keeps hb hm⟩⟩
/-- Atoi at every text. -/
theorem atoi_any (t : Bs) (hz : t.length ≤ 100000) (w : World) (hl : ILib w) :
    Calls Tryd.prog 37 #[.string (strOf t)] w fun e w' => (∃ v, e = .returned (.tuple #[.int .i64 (atoiV t), v])) ∧ Below w.heap.size w w' := by
  have hs : (strOf t).size = t.length := by show t.toArray.size = _; simp
  cases ha : Lib.atoiAll t
  · rename_i v
    have e1 : atoiV t = v := by unfold atoiV; rw [ha]
    rw [e1]
    refine (Tryd.strconv_Atoi_ok (strOf t) (by omega) v ha w).mono ?_
    rintro e w' ⟨rfl, hw⟩
    refine ⟨⟨_, rfl⟩, ?_⟩
    rcases hw with rfl | ⟨u, rfl⟩
    · exact Below.refl _ _
    · first | exact Lib.bytesWorld_below _ _ _ | exact below_bytesWorld _ _ _ _ (Nat.le_refl _)
  · have e1 : atoiV t = 0 := by unfold atoiV; rw [ha]
    rw [e1]
    obtain ⟨te, pe, hv⟩ := hl.syn
    refine (Any.strconv_Atoi_syntax Tryd.laysC172 (strOf t) (by omega) ha _ w hv (.inr ⟨te, pe, rfl⟩)).mono ?_
    rintro e w' ⟨N, rfl, _, _, hb⟩
    exact ⟨⟨_, rfl⟩, hb⟩
  · have e1 : atoiV t = Lib.atoiSat t := by unfold atoiV; rw [ha]
    rw [e1]
    obtain ⟨te, pe, hv⟩ := hl.ran
    refine (Any.strconv_Atoi_range Tryd.laysC172 (strOf t) (by omega) ha _ w hv (.inr ⟨te, pe, rfl⟩)).mono ?_
    rintro e w' ⟨N, rfl, _, _, hb⟩
    exact ⟨⟨_, rfl⟩, hb⟩
end Go.Proofs.YtgdnnaiidmfncaaDoor

namespace Go.Proofs.YtgdnnaiidmfncaaDoor
open Go.RowKit
set_option maxHeartbeats 4000000
set_option maxRecDepth 100000

def BldAt (B b : Nat) (l : Bs) (w : World) : Prop := Lib.IsBuilder 48 5 B b (Lib.byteCells l) w
def BldKept (b : Nat) (w w' : World) : Prop := Lib.OthersKept 5 (some b) w w'
theorem copyCheck_fresh (b : Nat) (w : World) (h0 : w.cell? ⟨b, 0, none⟩ = some (.pointer none)) (hsh : w.shape? b = some (48, 2)) (hfz : w.frozen? ⟨b, 0, none⟩ = false) :
    Calls Tryd.prog 40 #[.pointer (some ⟨b, 0, none⟩)] w fun e w' => e = .returned (.tuple #[]) ∧ w' = w.setCell ⟨b, 0, none⟩ (.pointer (some ⟨b, 0, none⟩)) := by
  obtain ⟨j, hj, hjs⟩ := Option.map_eq_some_iff.1 (show (Tryd.prog.info? 48).map (·.size) = some 2 by kernel_rfl)
  have lies : liesAt Tryd.prog Tryd.prog.depth 48 (2 / Tryd.prog.cellsOf 48) 0 48 1 = true := by kernel_rfl
  go_enter Tryd.func40, Tryd.ntmps40
  go_wp2
  rw [Lib.run_to_unsafe w ⟨b, 0, none⟩ Tryd.underlying45 Tryd.underlying81 hj (by rw [hjs]; decide) hsh (Nat.zero_lt_succ 1)]
  simp only [Result.andThen]
  rw [Oper.upon_value]
  go_wp2
  rw [run_callFunc_extern Tryd.func52 (by kernel_rfl) (by kernel_rfl) (by kernel_rfl) (e := Extern.AbiNoEscape.same) (by kernel_rfl)]
  rw [Lib.run_noEscape]
  simp only [Result.andThen]
  rw [Oper.upon_value]
  go_wp2
  rw [Lib.run_from_unsafe w ⟨b, 0, none⟩ Tryd.underlying81 Tryd.underlying45 hj hsh lies]
  simp only [Result.andThen]
  rw [Oper.upon_value]
  go_wp2
  exact Go.Great.bodyPost_end0 rfl rfl ⟨rfl, rfl⟩
theorem copyCheck_used (b : Nat) (w : World) (h0 : w.cell? ⟨b, 0, none⟩ = some (.pointer (some ⟨b, 0, none⟩))) :
    Calls Tryd.prog 40 #[.pointer (some ⟨b, 0, none⟩)] w fun e w' => e = .returned (.tuple #[]) ∧ w' = w := by
  obtain ⟨j, hj, _⟩ := Option.map_eq_some_iff.1 (show (Tryd.prog.info? 48).map (·.size) = some 2 by kernel_rfl)
  go_enter Tryd.func40, Tryd.ntmps40
  go_wp2
  rw [Lib.run_neq_ptr_same w _ Tryd.underlying45 hj]
  go_wp2
  exact Go.Great.bodyPost_end0 rfl rfl ⟨rfl, rfl⟩
theorem copyCheck_any (B b : Nat) (l : Bs) (w : World) (h : BldAt B b l w) :
    Calls Tryd.prog 40 #[.pointer (some ⟨b, 0, none⟩)] w fun e w' => e = .returned (.tuple #[]) ∧ (Lib.BuilderAt 48 5 B b (.pointer (some ⟨b, 0, none⟩)) (Lib.byteCells l) w' ∧ Below B w w' ∧ BldKept b w w') := by
  rcases h with h | h
  · refine (copyCheck_fresh b w h.cell0 h.shape h.frozen0).mono ?_
    rintro e w' ⟨rfl, rfl⟩
    exact ⟨rfl, h.used _, (Below.refl B w).setCell (p := ⟨b, 0, none⟩) h.1 _, (Lib.OthersKept.refl _ _ w).setCell ⟨b, 0, none⟩ rfl _⟩
  · refine (copyCheck_used b w h.cell0).mono ?_
    rintro e w' ⟨rfl, rfl⟩
    exact ⟨rfl, h, Below.refl B _, Lib.OthersKept.refl _ _ _⟩
theorem bld_lt {B b : Nat} {l : Bs} {w : World} (h : BldAt B b l w) : B ≤ b ∧ b < w.heap.size := by
  rcases h with h | h <;> exact ⟨h.1, h.lt⟩
theorem kind_of {w : World} {B : Nat} {v : Value} {n : Nat} {xs : List Value} (h : w.ownsRow B 5 1 v n xs) : ∀ g, v.ownBlock = some g → ∃ c fz, w.heap[g]? = some (.cells c 5 fz) :=
  Lib.ownsRowF_kind (World.ownsRowF_of h)
theorem writeString_any (B b : Nat) (l s : Bs) (w : World) (h : BldAt B b l w) (hlen : l.length + s.length ≤ 140737488355328) :
    Calls Tryd.prog 22 #[.pointer (some ⟨b, 0, none⟩), .string (strOf s)] w fun e w' => e = .returned (.tuple #[.int .i64 s.length, .nilIface]) ∧ BldAt B b (l ++ s) w' ∧ Below B w w' ∧ BldKept b w w' := by
  obtain ⟨i0, hi, hz0, hz1, hz2⟩ := info_parts (show (Tryd.prog.info? 5).map (fun i => (i.zero, i.size, i.bytes)) = some (some (.int .u8 0), 1, 1) by kernel_rfl)
  have hBl := bld_lt h
  have hss : (strOf s).size = s.length := by show s.toArray.size = _; simp
  have HCL := Lib.hid (Lib.byteCells_length l)
  have hsz1 : (Lib.byteCells l).length + (strOf s).size ≤ 140737488355328 := by rw [HCL.out, hss]; exact hlen
  have HSS := Lib.hid hss
  clear hss
  have HCC := Lib.hid (copyCheck_any B b l w h)
  go_enter Tryd.func22, Tryd.ntmps22
  go_wp2_with (go_at_call 40; refine HCC.out.mono ?_)
  rintro e w1 ⟨rfl, h1, hb1, hk1⟩
  obtain ⟨hB, v, hbk, hown, hne⟩ := h1
  have c0 : w1.cell? ⟨b, 0, none⟩ = some (.pointer (some ⟨b, 0, none⟩)) := by rw [Lib.cell_of_heap hbk]; rfl
  have c1 : w1.cell? ⟨b, 1, none⟩ = some v := by rw [Lib.cell_of_heap hbk]; rfl
  go_wp2_with (at_builtin; refine Lib.wpList_append_own_string _ rfl _ _ 46 9 rfl B 5 i0 Tryd.underlying46 Tryd.underlying9 hi hz0 hz1 hz2 _ _ _ rfl hown (strOf s) rfl ?c3 ?c4 ?c5 ?_)
  case c3 => unfold maxLen; first | exact Nat.le_trans hsz1 (by decide) | (have := HCL.out; have := HSS.out; omega)
  case c4 => first | exact hsz1 | (have := HCL.out; have := HSS.out; omega)
  case c5 => have := hb1.size; omega
  intro v' w2 hown' hgrow _
  have hlt : b < w1.heap.size := by have := hb1.size; omega
  have hb2 : w2.heap[b]? = some (.cells #[.pointer (some ⟨b, 0, none⟩), v] 48 (0, 0)) := by
    rw [hgrow.block b hlt (fun e => hne e.symm)]
    exact hbk
  have d0 : w2.cell? ⟨b, 0, none⟩ = some (.pointer (some ⟨b, 0, none⟩)) := by rw [Lib.cell_of_heap hb2]; rfl
  have d1 : w2.cell? ⟨b, 1, none⟩ = some v := by rw [Lib.cell_of_heap hb2]; rfl
  have f1 : w2.frozen? ⟨b, 1, none⟩ = false := Lib.frozen_of_heap hb2 1
  obtain ⟨ao, n', cap, rfl⟩ : ∃ ao n' cap, v' = .slice ao n' cap := by
    rcases hown'.2 with ⟨hv, _⟩ | ⟨g, cap, cur, hv, _⟩
    · exact ⟨_, _, _, hv⟩
    · exact ⟨_, _, _, hv⟩
  have hown2 : w2.ownsRow B 5 1 (.slice ao n' cap) (Lib.byteCells (l ++ s)).length (Lib.byteCells (l ++ s)) := by
    rw [Lib.byteCells_length, List.length_append, Lib.byteCells_append, ← HCL.out, ← HSS.out]; exact hown'
  have HO := Lib.hid hown2
  clear hown' hown2
  go_wp2
  go_ret2
  refine ⟨rfl, .inr ?_, ?_, (Lib.OthersKept.grown hk1 hgrow (kind_of hown)).setCell ⟨b, 1, none⟩ rfl _⟩
  · exact Lib.BuilderAt.put (T := 48) (e := 5) hB hb2 (bs' := Lib.byteCells (l ++ s)) HO.out (by decide)
  · exact (hb1.grown hgrow (by have := hb1.size; omega) (fun k hk => (hown.lt k hk).1)).setCell (p := ⟨b, 1, none⟩) hB _
theorem writeByte_any (B b : Nat) (l : Bs) (c : UInt8) (w : World) (h : BldAt B b l w) (hlen : l.length + 1 ≤ 140737488355328) :
    Calls Tryd.prog 23 #[.pointer (some ⟨b, 0, none⟩), .int .u8 (c.toNat : Nat)] w fun e w' => e = .returned .nilIface ∧ BldAt B b (l ++ [c]) w' ∧ Below B w w' ∧ BldKept b w w' := by
  obtain ⟨i0, hi, hz0, hz1, hz2⟩ := info_parts (show (Tryd.prog.info? 5).map (fun i => (i.zero, i.size, i.bytes)) = some (some (.int .u8 0), 1, 1) by kernel_rfl)
  have hBl := bld_lt h
  have HCL := Lib.hid (Lib.byteCells_length l)
  have hsz1 : (Lib.byteCells l).length + 1 ≤ 140737488355328 := by rw [HCL.out]; exact hlen
  have hsc : [Value.int .u8 ((c.toNat : Nat) : Int)] = Lib.byteCells [c] := rfl
  obtain ⟨z, hz⟩ : ∃ z : Int, ((c.toNat : Nat) : Int) = z := ⟨_, rfl⟩
  rw [hz] at hsc ⊢
  have HSC := Lib.hid hsc
  clear hsc hz
  have HCC := Lib.hid (copyCheck_any B b l w h)
  go_enter Tryd.func23, Tryd.ntmps23
  go_wp2_with (go_at_call 40; refine HCC.out.mono ?_)
  rintro e w1 ⟨rfl, h1, hb1, hk1⟩
  obtain ⟨hB, v, hbk, hown, hne⟩ := h1
  have c0 : w1.cell? ⟨b, 0, none⟩ = some (.pointer (some ⟨b, 0, none⟩)) := by rw [Lib.cell_of_heap hbk]; rfl
  have c1 : w1.cell? ⟨b, 1, none⟩ = some v := by rw [Lib.cell_of_heap hbk]; rfl
  go_wp2_with (at_builtin; refine wpList_append_own _ rfl _ _ 46 rfl B 5 i0 (.int .u8 0) 1 1 Tryd.underlying46 hi hz0 hz1 hz2 rfl (by decide) _ _ _ rfl (hown.alloc _) ⟨w1.heap.size, 0, none⟩ 1 1 [.int .u8 z] rfl rfl ?c1 ?c2 ?c3 ?c4 ?c5 ?_)
  case c1 =>
    intro j u hj
    match j, hj with
    | 0, hj => simp at hj; subst hj; simp [Addr.add]
  case c2 => intro u hu; simp at hu; subst hu; rfl
  case c3 => unfold maxLen; first | exact Nat.le_trans hsz1 (by decide) | (have := HCL.out; omega)
  case c4 => first | exact hsz1 | (have := HCL.out; omega)
  case c5 => have := hb1.size; simp; omega
  intro v' w2 hown' hgrow _
  have hlt : b < w1.heap.size := by have := hb1.size; omega
  have hb2 : w2.heap[b]? = some (.cells #[.pointer (some ⟨b, 0, none⟩), v] 48 (0, 0)) := by
    rw [hgrow.block b (by simp; omega) (fun e => hne e.symm), Lib.alloc_old w1 _ b hlt]
    exact hbk
  have d0 : w2.cell? ⟨b, 0, none⟩ = some (.pointer (some ⟨b, 0, none⟩)) := by rw [Lib.cell_of_heap hb2]; rfl
  have d1 : w2.cell? ⟨b, 1, none⟩ = some v := by rw [Lib.cell_of_heap hb2]; rfl
  have f1 : w2.frozen? ⟨b, 1, none⟩ = false := Lib.frozen_of_heap hb2 1
  obtain ⟨g, cap, rfl⟩ : ∃ g cap, v' = .slice (some ⟨g, 0, none⟩) ((Lib.byteCells l).length + 1) cap := by
    rcases hown'.2 with ⟨_, h0⟩ | ⟨g, cap, cur, hv, _⟩
    · omega
    · exact ⟨g, cap, hv⟩
  have hown2 : w2.ownsRow B 5 1 (.slice (some ⟨g, 0, none⟩) ((Lib.byteCells l).length + 1) cap) (Lib.byteCells (l ++ [c])).length (Lib.byteCells (l ++ [c])) := by
    rw [Lib.byteCells_length (l ++ [c]), List.length_append, Lib.byteCells_append, ← HCL.out, ← HSC.out]; exact hown'
  have HO := Lib.hid hown2
  clear hown' hown2
  go_wp2
  go_ret
  refine ⟨rfl, .inr ?_, ?_, (Lib.OthersKept.grown (hk1.alloc _) hgrow (kind_of (hown.alloc _))).setCell ⟨b, 1, none⟩ rfl _⟩
  · exact Lib.BuilderAt.put (T := 48) (e := 5) hB hb2 (bs' := Lib.byteCells (l ++ [c])) HO.out (by decide)
  · exact ((hb1.alloc (by have := hb1.size; omega) _).grown hgrow (by have := hb1.size; simp; omega) (fun k hk => (hown.lt k hk).1)).setCell (p := ⟨b, 1, none⟩) hB _
theorem appendRune_any (B : Nat) (v : Value) (n : Nat) (xs : List Value) (z : Int) (h0 : 0 ≤ z) (h1 : z ≤ 127) (w : World) (hown : w.ownsRow B 5 1 v n xs) (hlen : n + 4 ≤ 140737488355328) (hBw : B ≤ w.heap.size) :
    Calls Tryd.prog 41 #[v, .int .i32 z] w fun e w' => ∃ v', e = .returned v' ∧ w'.ownsRow B 5 1 v' (n + 1) (xs ++ [.int .u8 z]) ∧ ∃ o, (w.alloc o).grownBy w' v.ownBlock := by
  obtain ⟨i0, hi, hz0, hz1, hz2⟩ := info_parts (show (Tryd.prog.info? 5).map (fun i => (i.zero, i.size, i.bytes)) = some (some (.int .u8 0), 1, 1) by kernel_rfl)
  go_enter Tryd.func41, Tryd.ntmps41
  go_wp2_with (at_builtin; refine wpList_append_own _ rfl _ _ 46 rfl B 5 i0 (.int .u8 0) 1 1 Tryd.underlying46 hi hz0 hz1 hz2 rfl (by decide) _ _ _ rfl (hown.alloc _) ⟨w.heap.size, 0, none⟩ 1 1 [.int .u8 z] rfl rfl ?c1 ?c2 ?c3 ?c4 ?c5 ?_)
  all_goals first
    | (intro v' w2 hown' hgrow _; go_wp2; go_ret; exact ⟨_, rfl, hown', _, hgrow⟩)
    | (unfold maxLen; omega)
    | omega
    | (simp; omega)
    | rfl
    | (intro u hu; simp at hu; subst hu; rfl)
    | (intro j u hj
       match j, hj with
       | 0, hj => simp at hj; subst hj; simp [Addr.add]
       | (j + 1), hj => simp at hj)
theorem writeRune_any (B b : Nat) (l : Bs) (c : UInt8) (hc : c.toNat < 128) (w : World) (h : BldAt B b l w) (hlen : l.length + 4 ≤ 140737488355328) :
    Calls Tryd.prog 25 #[.pointer (some ⟨b, 0, none⟩), .int .i32 (c.toNat : Nat)] w fun e w' => e = .returned (.tuple #[.int .i64 1, .nilIface]) ∧ BldAt B b (l ++ [c]) w' ∧ Below B w w' ∧ BldKept b w w' := by
  have hBl := bld_lt h
  have HCL := Lib.hid (Lib.byteCells_length l)
  have hsz4 : (Lib.byteCells l).length + 4 ≤ 140737488355328 := by rw [HCL.out]; exact hlen
  have hsc : [Value.int .u8 ((c.toNat : Nat) : Int)] = Lib.byteCells [c] := rfl
  obtain ⟨z, hz⟩ : ∃ z : Int, ((c.toNat : Nat) : Int) = z := ⟨_, rfl⟩
  have hz0 : 0 ≤ z := by omega
  have hz1 : z ≤ 127 := by omega
  rw [hz] at hsc ⊢
  have HSC := Lib.hid hsc
  clear hsc hz
  have HCC := Lib.hid (copyCheck_any B b l w h)
  obtain ⟨N, hN⟩ : ∃ N, (Lib.byteCells l).length = N := ⟨_, rfl⟩
  rw [hN] at hsz4 HCL
  have HN := Lib.hid hN
  clear hN
  go_enter Tryd.func25, Tryd.ntmps25
  go_wp2_with (go_at_call 40; refine HCC.out.mono ?_)
  rintro e w1 ⟨rfl, h1, hb1, hk1⟩
  obtain ⟨hB, v, hbk, hown, hne⟩ := h1
  rw [HN.out] at hown
  obtain ⟨av, cap, rfl⟩ : ∃ av cap, v = .slice av N cap := by
    rcases hown.2 with ⟨hv, h0⟩ | ⟨g, cap, cur, hv, _⟩
    · exact ⟨none, 0, by rw [hv, h0]⟩
    · exact ⟨_, _, hv⟩
  have c0 : w1.cell? ⟨b, 0, none⟩ = some (.pointer (some ⟨b, 0, none⟩)) := by rw [Lib.cell_of_heap hbk]; rfl
  have c1 : w1.cell? ⟨b, 1, none⟩ = some (.slice av N cap) := by rw [Lib.cell_of_heap hbk]; rfl
  have hlt : b < w1.heap.size := by have := hb1.size; omega
  have HAR := Lib.hid (appendRune_any B _ _ _ z hz0 hz1 w1 hown (by omega) (by have := hb1.size; omega))
  have hclI : (N : Int) ≤ 140737488355328 := by omega
  go_wp2_with (go_at_call 41; refine HAR.out.mono ?_)
  rintro e w2 ⟨v', rfl, hown', o, hgrow⟩
  have hb2 : w2.heap[b]? = some (.cells #[.pointer (some ⟨b, 0, none⟩), .slice av N cap] 48 (0, 0)) := by
    rw [hgrow.block b (by simp; omega) (fun e => hne e.symm), Lib.alloc_old w1 _ b hlt]
    exact hbk
  have d1 : w2.cell? ⟨b, 1, none⟩ = some (.slice av N cap) := by rw [Lib.cell_of_heap hb2]; rfl
  have f1 : w2.frozen? ⟨b, 1, none⟩ = false := Lib.frozen_of_heap hb2 1
  obtain ⟨g, cap', rfl⟩ : ∃ g cap', v' = .slice (some ⟨g, 0, none⟩) (N + 1) cap' := by
    rcases hown'.2 with ⟨_, h0⟩ | ⟨g, cap, cur, hv, _⟩
    · omega
    · exact ⟨g, cap, hv⟩
  have hown2 : w2.ownsRow B 5 1 (.slice (some ⟨g, 0, none⟩) (N + 1) cap') (Lib.byteCells (l ++ [c])).length (Lib.byteCells (l ++ [c])) := by
    rw [Lib.byteCells_length (l ++ [c]), List.length_append, Lib.byteCells_append, ← HCL.out, ← HSC.out]; exact hown'
  have hkk := Lib.OthersKept.grown (hk1.alloc o) hgrow (kind_of (hown.alloc o))
  have hbb := (hb1.alloc (by have := hb1.size; omega) o).grown hgrow (by have := hb1.size; simp; omega) (fun k hk => (hown.lt k hk).1)
  have HO := Lib.hid hown2
  clear hown' hown2 hgrow hown
  go_wp2
  go_ret2
  refine ⟨?_, .inr ?_, ?_, hkk.setCell ⟨b, 1, none⟩ rfl _⟩
  · show Ending.returned (.tuple #[.int .i64 ((N : Int) + 1 - N), .nilIface]) = _
    rw [show ((N : Int) + 1 - N) = 1 by omega]
  · exact Lib.BuilderAt.put (T := 48) (e := 5) hB hb2 (bs' := Lib.byteCells (l ++ [c])) HO.out (by decide)
  · exact hbb.setCell (p := ⟨b, 1, none⟩) hB _
theorem string_any (B b : Nat) (l : Bs) (w : World) (h : BldAt B b l w) :
    Calls Tryd.prog 27 #[.pointer (some ⟨b, 0, none⟩)] w fun e w' => e = .returned (.string (strOf l)) ∧ Below B w w' := by
  have hBl := bld_lt h
  refine (Tryd.Builder_String_any B b l w h (by omega)).mono ?_
  rintro e w' ⟨rfl, h2⟩
  exact ⟨rfl, h2⟩
end Go.Proofs.YtgdnnaiidmfncaaDoor

namespace Go.Proofs.YtgdnnaiidmfncaaDoor
open Go.RowKit
set_option maxHeartbeats 4000000
set_option maxRecDepth 100000

def printV (x : Ins) : Value := if rightI x = true then .tuple #[.string (strOf (textI x)), .int .i64 0] else .tuple #[.string (strOf []), .int .i64 1]
theorem forms_len : ∀ r, r ∈ rowsI → r.1.length ≤ 5 ∧ r.2.length ≤ 7 := by decide
theorem form_len (op : Int) : (rowI op).1.length ≤ 5 ∧ (rowI op).2.length ≤ 7 := by
  rcases row_mem op with h | h
  · rw [h]; decide
  · exact forms_len _ h.1
theorem bld_iter {B b : Nat} {l : Bs} {w : World} (h : BldAt B b l w) {k : Nat} {s : ByteArray} {pos : Nat} (hk : IterAt w k s pos) (pos' : Nat) : BldAt B b l (w.iterAt k s pos') := by
  have aux : ∀ p, Lib.BuilderAt 48 5 B b p (Lib.byteCells l) w → Lib.BuilderAt 48 5 B b p (Lib.byteCells l) (w.iterAt k s pos') := by
    rintro p ⟨hB, v, hb, hown, hne⟩
    refine ⟨hB, v, ?_, ?_, hne⟩
    · rw [Lib.iterAt_other _ _ _ _ _ (fun e => by subst e; rw [hk] at hb; cases hb)]; exact hb
    · exact own_iterAt hown hk pos'
  exact h.elim (fun h => .inl (aux _ h)) (fun h => .inr (aux _ h))
theorem bld_alloc {B b : Nat} {l : Bs} {w : World} (h : BldAt B b l w) (o : Obj) : BldAt B b l (w.alloc o) := by
  have aux : ∀ p, Lib.BuilderAt 48 5 B b p (Lib.byteCells l) w → Lib.BuilderAt 48 5 B b p (Lib.byteCells l) (w.alloc o) := by
    rintro p h0
    have hlt := h0.lt
    obtain ⟨hB, v, hb, hown, hne⟩ := h0
    exact ⟨hB, v, (Lib.alloc_old w o b hlt).trans hb, hown.alloc o, hne⟩
  exact h.elim (fun h => .inl (aux _ h)) (fun h => .inr (aux _ h))
theorem bld_old {B b : Nat} {l : Bs} {w w' : World} (h : BldAt B b l w) (hb' : Below w.heap.size w w') : BldAt B b l w' := by
  have aux : ∀ p, Lib.BuilderAt 48 5 B b p (Lib.byteCells l) w → Lib.BuilderAt 48 5 B b p (Lib.byteCells l) w' := by
    rintro p h0
    have hlt := h0.lt
    obtain ⟨hB, v, hb, hown, hne⟩ := h0
    exact ⟨hB, v, (hb'.block b hlt).trans hb, own_below hown hb', hne⟩
  exact h.elim (fun h => .inl (aux _ h)) (fun h => .inr (aux _ h))
/-- What a right instruction's form has at a character. -/
theorem print_cases (x : Ins) (hx : FitsI x) (hr : rightI x = true) (c : UInt8) (hc : c ∈ (rowI x.op).2) :
    (c = 76 ∧ pieceI x c = x.name ∧ x.name.length ≤ 40 ∧ ∀ b, partP b c = .pointer none) ∨
    (c ≠ 76 ∧ pieceI x c = [c] ∧ c.toNat < 128 ∧ ∀ b, partP b c = .pointer none) ∨
    (c ≠ 76 ∧ ∃ (j : Nat) (v : Int), (∀ b, partP b c = .pointer (some ⟨b, j, none⟩)) ∧ (insCells x)[j]? = some (.int .i64 v) ∧ -9223372036854775808 ≤ v ∧ v ≤ 9223372036854775807 ∧ ((c = 78 ∨ c = 83) ∧ pieceI x c = Lib.itoa v ∨ c ≠ 78 ∧ c ≠ 83 ∧ pieceI x c = 120 :: Lib.itoa v)) := by
  obtain ⟨hck, hc7⟩ := (row_ok x.op).2.1 c hc
  obtain ⟨hfo, _, hlab⟩ := right_open hr
  have hmay := ((foldR_spec x _ _ _).1 hfo).1 c hc
  rcases hck with h | h
  · right; left
    have e : c = 32 ∨ c = 44 ∨ c = 40 ∨ c = 41 := by
      simp only [sepB, Bool.or_eq_true, beq_iff_eq] at h
      rcases h with ((h | h) | h) | h <;> simp [h]
    refine ⟨?_, piece_sep x c h, hc7, ?_⟩
    · rcases e with rfl | rfl | rfl | rfl <;> decide
    · rcases e with rfl | rfl | rfl | rfl <;> exact fun _ => rfl
  · rcases keys_cases h with rfl | rfl | rfl | rfl | rfl | rfl
    · have h1 := hmay (by decide) x.d rfl
      have h2 : 0 ≤ x.d ∧ x.d < 32 := by simpa [mayI] using h1
      exact .inr (.inr ⟨by decide, 1, x.d, fun _ => rfl, rfl, by omega, by omega, .inr ⟨by decide, by decide, rfl⟩⟩)
    · have h1 := hmay (by decide) x.a rfl
      have h2 : 0 ≤ x.a ∧ x.a < 32 := by simpa [mayI] using h1
      exact .inr (.inr ⟨by decide, 2, x.a, fun _ => rfl, rfl, by omega, by omega, .inr ⟨by decide, by decide, rfl⟩⟩)
    · have h1 := hmay (by decide) x.b rfl
      have h2 : 0 ≤ x.b ∧ x.b < 32 := by simpa [mayI] using h1
      exact .inr (.inr ⟨by decide, 3, x.b, fun _ => rfl, rfl, by omega, by omega, .inr ⟨by decide, by decide, rfl⟩⟩)
    · exact .inr (.inr ⟨by decide, 4, x.n, fun _ => rfl, rfl, hx.1, hx.2, .inl ⟨.inl rfl, rfl⟩⟩)
    · exact .inr (.inr ⟨by decide, 4, x.n, fun _ => rfl, rfl, hx.1, hx.2, .inl ⟨.inr rfl, rfl⟩⟩)
    · exact .inl ⟨rfl, rfl, (label_mem (hlab.1 hc)).2.2, fun _ => rfl⟩
theorem OwnAt.under {w w' : World} {b B : Nat} {cs : List Value} {T : TypeId} (h : OwnAt w b cs T) (hb : Below B w w') (hlt : b < B) : OwnAt w' b cs T := (hb.block b hlt).trans h
theorem print_any (x : Ins) (hx : FitsI x) (hn : x.name.length ≤ 9223372036854775807) (w : World) (hl : ILib w) :
    Calls Tryd.prog 6 #[insV x] w fun e w' => e = .returned (printV x) ∧ Below w.heap.size w w' := by
  have HO1 := Lib.hid (OwnAt.new w (insCells x) 23)
  have HB1 := Lib.hid ((Below.refl w.heap.size w).alloc (Nat.le_refl _) (.cells (insCells x).toArray 23))
  have HR := Lib.hid (fun w1 => right_any x hn w1)
  unfold printV
  cases hr : rightI x with
  | false =>
    rw [if_neg (by simp)]
    rw [hr] at HR
    clear hr
    unfold insV at HR ⊢
    go_enter Tryd.func6, Tryd.ntmps6
    go_wp2_with fail
    refine (HR.out _).mono ?_
    rintro e w1 ⟨rfl, hb1⟩
    have HB2 := Lib.hid (HB1.out.trans (hb1.mono HB1.out.size))
    clear hb1
    go_wp2_with fail
    go_ret2
    exact ⟨rfl, HB2.out⟩
  | true =>
    rw [if_pos rfl]
    rw [hr] at HR
    have HRX := Lib.hid hr
    have HX := Lib.hid hx
    have HL0 := Lib.hid hl
    have HTX := Lib.hid (show textI x = (rowI x.op).1 ++ ((if (rowI x.op).2 = [] then [] else [32]) ++ (rowI x.op).2.flatMap (pieceI x)) from rfl)
    obtain ⟨r, hrow⟩ : ∃ r, rowI x.op = r := ⟨_, rfl⟩
    obtain ⟨word, form⟩ := r
    have hfl := form_len x.op
    rw [hrow] at hfl
    have HROW := Lib.hid hrow
    have HPC : Hid (∀ c, c ∈ form → _) := fun c hc => print_cases x hx hr c (by rw [hrow]; exact hc)
    have HF7 : Hid (∀ c, c ∈ form → c.toNat < 128) := fun c hc => ((row_ok x.op).2.1 c (by rw [hrow]; exact hc)).2
    have hwl : word.length ≤ 5 := hfl.1
    have hfl7 : form.length ≤ 7 := hfl.2
    clear hr hx hl hrow hn hfl
    unfold insV at HR ⊢
    go_enter Tryd.func6, Tryd.ntmps6
    go_wp2_with fail
    refine (HR.out _).mono ?_
    rintro e w1 ⟨rfl, hb1⟩
    have HB2 := Lib.hid (HB1.out.trans (hb1.mono HB1.out.size))
    have HO2 := Lib.hid (HO1.out.old hb1)
    have hl1 := HO2.out.lt
    clear hb1 HO1 HB1
    have c0 := HO2.out.at 0 _ rfl
    go_wp2_with fail
    refine (rowOf_any x.op _).mono ?_
    rw [HROW.out]
    rintro e w2 ⟨rfl, hb2⟩
    unfold rowV
    have HB3 := Lib.hid (HB2.out.trans (hb2.mono HB2.out.size))
    have HO3 := Lib.hid (HO2.out.old hb2)
    have hl2 := HO3.out.lt
    have hl3 := HB3.out.size
    clear hb2 HO2 HB2 c0 hl1
    have hbA : Below w2.heap.size w2 (w2.alloc (.cells #[.string (strOf word), .string (strOf form)] 43)) := (Below.refl _ _).alloc (Nat.le_refl _) _
    have HO4 := Lib.hid (HO3.out.old hbA)
    have HP4 := Lib.hid (OwnAt.new w2 [.string (strOf word), .string (strOf form)] 43)
    have HB4 := Lib.hid (HB3.out.trans (hbA.mono HB3.out.size))
    have hs4 : (w2.alloc (.cells #[.string (strOf word), .string (strOf form)] 43)).heap.size = w2.heap.size + 1 := by simp
    obtain ⟨W3, hW3⟩ : ∃ W3, w2.alloc (.cells #[.string (strOf word), .string (strOf form)] 43) = W3 := ⟨_, rfl⟩
    rw [hW3] at HO4 HP4 HB4 hs4
    have hbB : Below W3.heap.size W3 (W3.alloc (.cells #[.pointer none, .slice none 0 0] 48)) := (Below.refl _ _).alloc (Nat.le_refl _) _
    have HBL := Lib.hid (show BldAt W3.heap.size W3.heap.size [] (W3.alloc (.cells #[.pointer none, .slice none 0 0] 48)) from Lib.fresh_isBuilder 48 5 W3)
    have HO5 := Lib.hid (HO4.out.old hbB)
    have HP5 := Lib.hid (HP4.out.old hbB)
    have HB5 := Lib.hid (HB4.out.trans (hbB.mono HB4.out.size))
    have k0 := HP4.out.at 0 _ rfl
    have k1 := HP4.out.at 1 _ rfl
    clear hbA hbB HO3 HB3 HO4 HP4 HB4
    rw [hs4] at HBL
    have hX : w.heap.size < w2.heap.size := hl2
    obtain ⟨X, hXe⟩ : ∃ X, w2.heap.size = X := ⟨_, rfl⟩
    rw [hXe] at hs4 HBL HP5 hX k0 k1
    have HWS := Lib.hid (fun l w' h hz => writeString_any (X + 1) (X + 1) l word w' h hz)
    have hs5 : (W3.alloc (.cells #[.pointer none, .slice none 0 0] 48)).heap.size = X + 1 + 1 := by simp [hs4]
    obtain ⟨W4, hW4⟩ : ∃ W4, W3.alloc (.cells #[.pointer none, .slice none 0 0] 48) = W4 := ⟨_, rfl⟩
    rw [hW4] at HBL HO5 HP5 HB5 hs5
    have m0 := HP5.out.at 0 _ rfl
    go_wp2_with fail
    refine (HWS.out [] _ HBL.out (by simp; omega)).mono ?_
    rintro e w5 ⟨rfl, hbl, hbw, hkp⟩
    rw [List.nil_append] at hbl
    have HBL5 := Lib.hid hbl
    have HO6 := Lib.hid (HO5.out.under hbw (by omega))
    have HP6 := Lib.hid (HP5.out.under hbw (by omega))
    have HB6 := Lib.hid (HB5.out.trans (hbw.mono (by omega)))
    have hs6 := hbw.size
    have m1 := HP6.out.at 1 _ rfl
    clear hbl hbw hkp HBL HO5 HP5 HB5 HWS m0 k0 k1
    obtain ⟨pre, hpre⟩ : ∃ pre, word ++ (if form = [] then [] else [32]) = pre := ⟨_, rfl⟩
    have hpl : pre.length ≤ 6 := by
      rw [← hpre, List.length_append]
      split <;> simp <;> omega
    have HTXT : Hid (textI x = pre ++ form.flatMap (pieceI x)) := by
      show _ = _
      rw [HTX.out, HROW.out, ← hpre, List.append_assoc]
    have HPRE := Lib.hid hpre
    clear hpre HTX
    by_cases hfe : form = []
    · have hpe : pre = word := by rw [← HPRE.out, if_pos hfe, List.append_nil]
      have hfe' : form.isEmpty = true := by simpa using hfe
      rw [← hpe] at HBL5
      clear HPRE hpe hfe
      go_wp2_with fail
      obtain ⟨J, hJ⟩ : ∃ J, w5.heap.size = J := ⟨_, rfl⟩
      have hJX : X + 1 < J := by rw [← hJ]; exact (bld_lt HBL5.out).2
      have HIT := Lib.hid (IterAt.new w5 (strOf form))
      rw [hJ] at HIT ⊢
      have hpl' : pre.length ≤ 6 + 0 * 41 := by omega
      go_loopw [7, 8] (fun _ _ wr => ∃ k, k ≤ form.length ∧ Hid (OwnAt wr w.heap.size (insCells x) 23) ∧ Hid (BldAt (X + 1) (X + 1) (pre ++ (form.take k).flatMap (pieceI x)) wr) ∧ Hid (IterAt wr J (strOf form) k) ∧ Hid (Below w.heap.size w wr) ∧ Hid ((pre ++ (form.take k).flatMap (pieceI x)).length ≤ 6 + k * 41)) (fun _ _ wr => form.length - wr.iterPos J)
      case atStart => exact ⟨0, Nat.zero_le _, Lib.hid (HO6.out.old ((Below.refl _ _).alloc (Nat.le_refl _) _)), Lib.hid ((List.append_nil pre).symm ▸ bld_alloc HBL5.out (.stringIter (strOf form) 0)), HIT, Lib.hid (HB6.out.alloc HB6.out.size _), Lib.hid (by simpa using hpl')⟩
      case round =>
        obtain ⟨k, hk, H1, H2, H3, H4, H5⟩ := hrel
        clear HO6 HBL5 HB6 HIT
        obtain ⟨acc, hacc⟩ : ∃ acc, pre ++ (form.take k).flatMap (pieceI x) = acc := ⟨_, rfl⟩
        rw [hacc] at H2 H5
        have hpos0 := iterPos_at H3.out
        by_cases hlt : k < form.length
        · obtain ⟨c, hc⟩ : ∃ c, form[k] = c := ⟨_, rfl⟩
          have hc7 := HF7.out form[k] (List.getElem_mem hlt)
          have hcs := HPC.out form[k] (List.getElem_mem hlt)
          have hnx := fun ty => iter_next (P := Tryd.prog) H3.out hlt hc7 ty
          have HNEXT : Hid (pre ++ (form.take (k + 1)).flatMap (pieceI x) = acc ++ pieceI x form[k]) := by
            show _ = _
            rw [← hacc, List.take_succ_eq_append_getElem hlt, List.flatMap_append, List.append_assoc]
            simp
          rw [hc] at hc7 hcs hnx HNEXT
          have G1 := Lib.hid (H1.out.iter (show w.heap.size ≠ J by omega) (strOf form) (k + 1))
          have G2 := Lib.hid (bld_iter H2.out H3.out (k + 1))
          have G3 := Lib.hid (H3.out.step (k + 1))
          have G4 := Lib.hid (Lib.below_iterAt H4.out (k := J) (by omega) (strOf form) (k + 1))
          obtain ⟨W, hW⟩ : ∃ W, wr.iterAt J (strOf form) (k + 1) = W := ⟨_, rfl⟩
          rw [hW] at G1 G2 G3 G4 hnx
          have hal : acc.length ≤ 1000 := by have := H5.out; omega
          have HPA : Hid (∀ b w', Calls Tryd.prog 24 #[.pointer (some ⟨b, 0, none⟩), .int .i32 (c.toNat : Nat)] w' fun e w'' => e = .returned (partP b c) ∧ w' = w'') := fun b w' => part_any b c w'
          have h76 := u8_eq c 76 (by decide)
          have h78 := u8_eq c 78 (by decide)
          have h83 := u8_eq c 83 (by decide)
          simp only [show ((76 : Nat) : Int) = 76 from rfl, show ((78 : Nat) : Int) = 78 from rfl, show ((83 : Nat) : Int) = 83 from rfl] at h76 h78 h83
          have hacn : acc.length + 1 ≤ 6 + (k + 1) * 41 ∧ acc.length + 41 ≤ 6 + (k + 1) * 41 := by have := H5.out; omega
          have hgl := G3.out.lt
          have fin : ∀ (p : Bs) (w' : World), pieceI x c = p → p.length ≤ 41 → Hid (OwnAt w' w.heap.size (insCells x) 23) → BldAt (X + 1) (X + 1) (acc ++ p) w' → IterAt w' J (strOf form) (k + 1) → Below w.heap.size w w' →
              (∃ k, k ≤ form.length ∧ Hid (OwnAt w' w.heap.size (insCells x) 23) ∧ Hid (BldAt (X + 1) (X + 1) (pre ++ (form.take k).flatMap (pieceI x)) w') ∧ Hid (IterAt w' J (strOf form) k) ∧ Hid (Below w.heap.size w w') ∧ Hid ((pre ++ (form.take k).flatMap (pieceI x)).length ≤ 6 + k * 41)) ∧ form.length - w'.iterPos J < form.length - wr.iterPos J := by
            intro p w' hp hpz q1 q2 q3 q4
            refine ⟨⟨k + 1, hlt, q1, Lib.hid (by rw [HNEXT.out, hp]; exact q2), Lib.hid q3, Lib.hid q4, Lib.hid (by rw [HNEXT.out, hp, List.length_append]; omega)⟩, ?_⟩
            rw [hpos0, iterPos_at q3]; omega
          have FIN := Lib.hid fin
          clear fin hpos0 hacc H1 H2 H3 H4 H5 HNEXT hc hacn
          rcases hcs with ⟨rfl, hpc, hnl, hp⟩ | ⟨hc76, hpc, _, hp⟩ | ⟨hc76, j, v, hp, hx, hv0, hv1, hpc⟩
          · have hz : (76 : UInt8).toNat = 76 := rfl
            have c5 := G1.out.at 5 _ rfl
            have HWN := Lib.hid (fun w' h => writeString_any (X + 1) (X + 1) acc x.name w' h (by omega))
            have HPCE := Lib.hid hpc
            clear h76 h78 h83 hpc
            go_wp2_with (first
              | (go_at_call 24; refine (HPA.out _ _).mono ?_; rw [hp]; rintro e w7 ⟨rfl, rfl⟩)
              | (go_at_call 22; refine (HWN.out _ G2.out).mono ?_; rintro e w8 ⟨rfl, hbl8, hbw8, hkp8⟩))
            exact FIN.out x.name _ HPCE.out (by omega) (Lib.hid (G1.out.under hbw8 (by omega))) hbl8 (G3.out.kept hkp8 (by simp; omega)) (G4.out.trans (hbw8.mono (by omega)))
          · have g76 : ((c.toNat : Int) == 76) = false := by rw [h76]; exact decide_eq_false hc76
            have HWN := Lib.hid (fun w' h => writeRune_any (X + 1) (X + 1) acc c hc7 w' h (by omega))
            have HPCE := Lib.hid hpc
            obtain ⟨z, hz⟩ : ∃ z : Int, ((c.toNat : Nat) : Int) = z := ⟨_, rfl⟩
            rw [hz] at HPA HWN g76
            simp only [hz] at hnx
            clear h76 h78 h83 hpc hz hc7
            go_wp2_with (first
              | (go_at_call 24; refine (HPA.out _ _).mono ?_; rw [hp]; rintro e w7 ⟨rfl, rfl⟩)
              | (go_at_call 25; refine (HWN.out _ G2.out).mono ?_; rintro e w8 ⟨rfl, hbl8, hbw8, hkp8⟩))
            exact FIN.out [c] _ HPCE.out (by simp) (Lib.hid (G1.out.under hbw8 (by omega))) hbl8 (G3.out.kept hkp8 (by simp; omega)) (G4.out.trans (hbw8.mono (by omega)))
          · have g76 : ((c.toNat : Int) == 76) = false := by rw [h76]; exact decide_eq_false hc76
            have cj := G1.out.at j _ hx
            have HIA := Lib.hid (fun w' h => itoa_any v hv0 hv1 w' h)
            have hil := Lib.itoa_length_le v hv0 hv1
            obtain ⟨z, hz⟩ : ∃ z : Int, ((c.toNat : Nat) : Int) = z := ⟨_, rfl⟩
            rw [hz] at HPA g76 h78 h83
            simp only [hz] at hnx
            have HT1 := Lib.hid (HL0.out.old G4.out).pow
            generalize hie : Lib.itoa v = t at *
            clear hie hz hc7 h76 hx
            rcases hpc with ⟨hk2, hpc⟩ | ⟨hk1, hk2, hpc⟩
            · have HWN := Lib.hid (fun w' h => writeString_any (X + 1) (X + 1) acc t w' h (by omega))
              have HPCE := Lib.hid hpc
              rcases hk2 with rfl | rfl
              · have g78 : (z == 78) = true := by rw [h78]; rfl
                clear h78 h83 hpc
                go_wp2_with (first
                  | (go_at_call 24; refine (HPA.out _ _).mono ?_; rw [hp]; rintro e w7 ⟨rfl, rfl⟩)
                  | (go_at_call 26; refine (HIA.out _ HT1.out).mono ?_; rintro e w9 ⟨rfl, hb9⟩; have G2' := Lib.hid (bld_old G2.out hb9); have hs9 := hb9.size)
                  | (go_at_call 22; refine (HWN.out _ G2'.out).mono ?_; rintro e w8 ⟨rfl, hbl8, hbw8, hkp8⟩))
                exact FIN.out t _ HPCE.out (by omega) (Lib.hid ((G1.out.old hb9).under hbw8 (by omega))) hbl8 ((G3.out.old hb9).kept hkp8 (by simp; omega)) ((G4.out.trans (hb9.mono (by omega))).trans (hbw8.mono (by omega)))
              · have g78 : (z == 78) = false := by rw [h78]; rfl
                have g83 : (z == 83) = true := by rw [h83]; rfl
                clear h78 h83 hpc
                go_wp2_with (first
                  | (go_at_call 24; refine (HPA.out _ _).mono ?_; rw [hp]; rintro e w7 ⟨rfl, rfl⟩)
                  | (go_at_call 26; refine (HIA.out _ HT1.out).mono ?_; rintro e w9 ⟨rfl, hb9⟩; have G2' := Lib.hid (bld_old G2.out hb9); have hs9 := hb9.size)
                  | (go_at_call 22; refine (HWN.out _ G2'.out).mono ?_; rintro e w8 ⟨rfl, hbl8, hbw8, hkp8⟩))
                exact FIN.out t _ HPCE.out (by omega) (Lib.hid ((G1.out.old hb9).under hbw8 (by omega))) hbl8 ((G3.out.old hb9).kept hkp8 (by simp; omega)) ((G4.out.trans (hb9.mono (by omega))).trans (hbw8.mono (by omega)))
            · have g78 : (z == 78) = false := by rw [h78]; exact decide_eq_false hk1
              have g83 : (z == 83) = false := by rw [h83]; exact decide_eq_false hk2
              have HWN := Lib.hid (fun w' h => writeString_any (X + 1) (X + 1) acc (120 :: t) w' h (by simp; omega))
              have HPCE := Lib.hid hpc
              have hcat : (9223372036854775807 < 1 + t.length) = False := by simp; omega
              clear h78 h83 hpc hk1 hk2
              go_wp2_with (first
                | (go_at_call 24; refine (HPA.out _ _).mono ?_; rw [hp]; rintro e w7 ⟨rfl, rfl⟩)
                | (go_at_call 26; refine (HIA.out _ HT1.out).mono ?_; rintro e w9 ⟨rfl, hb9⟩; have G2' := Lib.hid (bld_old G2.out hb9); have hs9 := hb9.size)
                | (go_at_call 22; refine (HWN.out _ G2'.out).mono ?_; rintro e w8 ⟨rfl, hbl8, hbw8, hkp8⟩))
              exact FIN.out (120 :: t) _ HPCE.out (by simp; omega) (Lib.hid ((G1.out.old hb9).under hbw8 (by omega))) hbl8 ((G3.out.old hb9).kept hkp8 (by simp; omega)) ((G4.out.trans (hb9.mono (by omega))).trans (hbw8.mono (by omega)))
        · have hnx := fun ty => iter_end (P := Tryd.prog) H3.out hlt ty
          have hke : acc = textI x := by rw [HTXT.out, ← hacc, List.take_of_length_le (by omega)]
          rw [hke] at H2
          clear hke hacc H5
          have HS := Lib.hid (fun w' h => string_any (X + 1) (X + 1) (textI x) w' h)
          go_wp2_with (go_at_call 27; refine (HS.out _ H2.out).mono ?_; rintro e w8 ⟨rfl, hb8⟩)
          go_ret2
          exact ⟨rfl, H4.out.trans (hb8.mono (by omega))⟩
    · have hfe' : form.isEmpty = false := by simpa using hfe
      have hpe : pre = word ++ [32] := by rw [← HPRE.out, if_neg hfe]
      have HWB := Lib.hid (fun w' h => writeByte_any (X + 1) (X + 1) word 32 w' h (by omega))
      rw [← hpe] at HWB
      clear HPRE hpe hfe
      go_wp2_with fail
      refine (HWB.out _ HBL5.out).mono ?_
      rintro e w6 ⟨rfl, hbl, hbw, hkp⟩
      have HBL6 := Lib.hid hbl
      have HO7 := Lib.hid (HO6.out.under hbw (by omega))
      have HP7 := Lib.hid (HP6.out.under hbw (by omega))
      have HB7 := Lib.hid (HB6.out.trans (hbw.mono (by omega)))
      have hs7 := hbw.size
      have m2 := HP7.out.at 1 _ rfl
      clear hbl hbw hkp HO6 HP6 HB6 HBL5 HWB m1
      go_wp2_with fail
      obtain ⟨J, hJ⟩ : ∃ J, w6.heap.size = J := ⟨_, rfl⟩
      have hJX : X + 1 < J := by rw [← hJ]; exact (bld_lt HBL6.out).2
      have HIT := Lib.hid (IterAt.new w6 (strOf form))
      rw [hJ] at HIT ⊢
      have hpl' : pre.length ≤ 6 + 0 * 41 := by omega
      go_loopw [7, 8] (fun _ _ wr => ∃ k, k ≤ form.length ∧ Hid (OwnAt wr w.heap.size (insCells x) 23) ∧ Hid (BldAt (X + 1) (X + 1) (pre ++ (form.take k).flatMap (pieceI x)) wr) ∧ Hid (IterAt wr J (strOf form) k) ∧ Hid (Below w.heap.size w wr) ∧ Hid ((pre ++ (form.take k).flatMap (pieceI x)).length ≤ 6 + k * 41)) (fun _ _ wr => form.length - wr.iterPos J)
      case atStart => exact ⟨0, Nat.zero_le _, Lib.hid (HO7.out.old ((Below.refl _ _).alloc (Nat.le_refl _) _)), Lib.hid ((List.append_nil pre).symm ▸ bld_alloc HBL6.out (.stringIter (strOf form) 0)), HIT, Lib.hid (HB7.out.alloc HB7.out.size _), Lib.hid (by simpa using hpl')⟩
      case round =>
        obtain ⟨k, hk, H1, H2, H3, H4, H5⟩ := hrel
        clear HO7 HBL6 HB7 HIT
        obtain ⟨acc, hacc⟩ : ∃ acc, pre ++ (form.take k).flatMap (pieceI x) = acc := ⟨_, rfl⟩
        rw [hacc] at H2 H5
        have hpos0 := iterPos_at H3.out
        by_cases hlt : k < form.length
        · obtain ⟨c, hc⟩ : ∃ c, form[k] = c := ⟨_, rfl⟩
          have hc7 := HF7.out form[k] (List.getElem_mem hlt)
          have hcs := HPC.out form[k] (List.getElem_mem hlt)
          have hnx := fun ty => iter_next (P := Tryd.prog) H3.out hlt hc7 ty
          have HNEXT : Hid (pre ++ (form.take (k + 1)).flatMap (pieceI x) = acc ++ pieceI x form[k]) := by
            show _ = _
            rw [← hacc, List.take_succ_eq_append_getElem hlt, List.flatMap_append, List.append_assoc]
            simp
          rw [hc] at hc7 hcs hnx HNEXT
          have G1 := Lib.hid (H1.out.iter (show w.heap.size ≠ J by omega) (strOf form) (k + 1))
          have G2 := Lib.hid (bld_iter H2.out H3.out (k + 1))
          have G3 := Lib.hid (H3.out.step (k + 1))
          have G4 := Lib.hid (Lib.below_iterAt H4.out (k := J) (by omega) (strOf form) (k + 1))
          obtain ⟨W, hW⟩ : ∃ W, wr.iterAt J (strOf form) (k + 1) = W := ⟨_, rfl⟩
          rw [hW] at G1 G2 G3 G4 hnx
          have hal : acc.length ≤ 1000 := by have := H5.out; omega
          have HPA : Hid (∀ b w', Calls Tryd.prog 24 #[.pointer (some ⟨b, 0, none⟩), .int .i32 (c.toNat : Nat)] w' fun e w'' => e = .returned (partP b c) ∧ w' = w'') := fun b w' => part_any b c w'
          have h76 := u8_eq c 76 (by decide)
          have h78 := u8_eq c 78 (by decide)
          have h83 := u8_eq c 83 (by decide)
          simp only [show ((76 : Nat) : Int) = 76 from rfl, show ((78 : Nat) : Int) = 78 from rfl, show ((83 : Nat) : Int) = 83 from rfl] at h76 h78 h83
          have hacn : acc.length + 1 ≤ 6 + (k + 1) * 41 ∧ acc.length + 41 ≤ 6 + (k + 1) * 41 := by have := H5.out; omega
          have hgl := G3.out.lt
          have fin : ∀ (p : Bs) (w' : World), pieceI x c = p → p.length ≤ 41 → Hid (OwnAt w' w.heap.size (insCells x) 23) → BldAt (X + 1) (X + 1) (acc ++ p) w' → IterAt w' J (strOf form) (k + 1) → Below w.heap.size w w' →
              (∃ k, k ≤ form.length ∧ Hid (OwnAt w' w.heap.size (insCells x) 23) ∧ Hid (BldAt (X + 1) (X + 1) (pre ++ (form.take k).flatMap (pieceI x)) w') ∧ Hid (IterAt w' J (strOf form) k) ∧ Hid (Below w.heap.size w w') ∧ Hid ((pre ++ (form.take k).flatMap (pieceI x)).length ≤ 6 + k * 41)) ∧ form.length - w'.iterPos J < form.length - wr.iterPos J := by
            intro p w' hp hpz q1 q2 q3 q4
            refine ⟨⟨k + 1, hlt, q1, Lib.hid (by rw [HNEXT.out, hp]; exact q2), Lib.hid q3, Lib.hid q4, Lib.hid (by rw [HNEXT.out, hp, List.length_append]; omega)⟩, ?_⟩
            rw [hpos0, iterPos_at q3]; omega
          have FIN := Lib.hid fin
          clear fin hpos0 hacc H1 H2 H3 H4 H5 HNEXT hc hacn
          rcases hcs with ⟨rfl, hpc, hnl, hp⟩ | ⟨hc76, hpc, _, hp⟩ | ⟨hc76, j, v, hp, hx, hv0, hv1, hpc⟩
          · have hz : (76 : UInt8).toNat = 76 := rfl
            have c5 := G1.out.at 5 _ rfl
            have HWN := Lib.hid (fun w' h => writeString_any (X + 1) (X + 1) acc x.name w' h (by omega))
            have HPCE := Lib.hid hpc
            clear h76 h78 h83 hpc
            go_wp2_with (first
              | (go_at_call 24; refine (HPA.out _ _).mono ?_; rw [hp]; rintro e w7 ⟨rfl, rfl⟩)
              | (go_at_call 22; refine (HWN.out _ G2.out).mono ?_; rintro e w8 ⟨rfl, hbl8, hbw8, hkp8⟩))
            exact FIN.out x.name _ HPCE.out (by omega) (Lib.hid (G1.out.under hbw8 (by omega))) hbl8 (G3.out.kept hkp8 (by simp; omega)) (G4.out.trans (hbw8.mono (by omega)))
          · have g76 : ((c.toNat : Int) == 76) = false := by rw [h76]; exact decide_eq_false hc76
            have HWN := Lib.hid (fun w' h => writeRune_any (X + 1) (X + 1) acc c hc7 w' h (by omega))
            have HPCE := Lib.hid hpc
            obtain ⟨z, hz⟩ : ∃ z : Int, ((c.toNat : Nat) : Int) = z := ⟨_, rfl⟩
            rw [hz] at HPA HWN g76
            simp only [hz] at hnx
            clear h76 h78 h83 hpc hz hc7
            go_wp2_with (first
              | (go_at_call 24; refine (HPA.out _ _).mono ?_; rw [hp]; rintro e w7 ⟨rfl, rfl⟩)
              | (go_at_call 25; refine (HWN.out _ G2.out).mono ?_; rintro e w8 ⟨rfl, hbl8, hbw8, hkp8⟩))
            exact FIN.out [c] _ HPCE.out (by simp) (Lib.hid (G1.out.under hbw8 (by omega))) hbl8 (G3.out.kept hkp8 (by simp; omega)) (G4.out.trans (hbw8.mono (by omega)))
          · have g76 : ((c.toNat : Int) == 76) = false := by rw [h76]; exact decide_eq_false hc76
            have cj := G1.out.at j _ hx
            have HIA := Lib.hid (fun w' h => itoa_any v hv0 hv1 w' h)
            have hil := Lib.itoa_length_le v hv0 hv1
            obtain ⟨z, hz⟩ : ∃ z : Int, ((c.toNat : Nat) : Int) = z := ⟨_, rfl⟩
            rw [hz] at HPA g76 h78 h83
            simp only [hz] at hnx
            have HT1 := Lib.hid (HL0.out.old G4.out).pow
            generalize hie : Lib.itoa v = t at *
            clear hie hz hc7 h76 hx
            rcases hpc with ⟨hk2, hpc⟩ | ⟨hk1, hk2, hpc⟩
            · have HWN := Lib.hid (fun w' h => writeString_any (X + 1) (X + 1) acc t w' h (by omega))
              have HPCE := Lib.hid hpc
              rcases hk2 with rfl | rfl
              · have g78 : (z == 78) = true := by rw [h78]; rfl
                clear h78 h83 hpc
                go_wp2_with (first
                  | (go_at_call 24; refine (HPA.out _ _).mono ?_; rw [hp]; rintro e w7 ⟨rfl, rfl⟩)
                  | (go_at_call 26; refine (HIA.out _ HT1.out).mono ?_; rintro e w9 ⟨rfl, hb9⟩; have G2' := Lib.hid (bld_old G2.out hb9); have hs9 := hb9.size)
                  | (go_at_call 22; refine (HWN.out _ G2'.out).mono ?_; rintro e w8 ⟨rfl, hbl8, hbw8, hkp8⟩))
                exact FIN.out t _ HPCE.out (by omega) (Lib.hid ((G1.out.old hb9).under hbw8 (by omega))) hbl8 ((G3.out.old hb9).kept hkp8 (by simp; omega)) ((G4.out.trans (hb9.mono (by omega))).trans (hbw8.mono (by omega)))
              · have g78 : (z == 78) = false := by rw [h78]; rfl
                have g83 : (z == 83) = true := by rw [h83]; rfl
                clear h78 h83 hpc
                go_wp2_with (first
                  | (go_at_call 24; refine (HPA.out _ _).mono ?_; rw [hp]; rintro e w7 ⟨rfl, rfl⟩)
                  | (go_at_call 26; refine (HIA.out _ HT1.out).mono ?_; rintro e w9 ⟨rfl, hb9⟩; have G2' := Lib.hid (bld_old G2.out hb9); have hs9 := hb9.size)
                  | (go_at_call 22; refine (HWN.out _ G2'.out).mono ?_; rintro e w8 ⟨rfl, hbl8, hbw8, hkp8⟩))
                exact FIN.out t _ HPCE.out (by omega) (Lib.hid ((G1.out.old hb9).under hbw8 (by omega))) hbl8 ((G3.out.old hb9).kept hkp8 (by simp; omega)) ((G4.out.trans (hb9.mono (by omega))).trans (hbw8.mono (by omega)))
            · have g78 : (z == 78) = false := by rw [h78]; exact decide_eq_false hk1
              have g83 : (z == 83) = false := by rw [h83]; exact decide_eq_false hk2
              have HWN := Lib.hid (fun w' h => writeString_any (X + 1) (X + 1) acc (120 :: t) w' h (by simp; omega))
              have HPCE := Lib.hid hpc
              have hcat : (9223372036854775807 < 1 + t.length) = False := by simp; omega
              clear h78 h83 hpc hk1 hk2
              go_wp2_with (first
                | (go_at_call 24; refine (HPA.out _ _).mono ?_; rw [hp]; rintro e w7 ⟨rfl, rfl⟩)
                | (go_at_call 26; refine (HIA.out _ HT1.out).mono ?_; rintro e w9 ⟨rfl, hb9⟩; have G2' := Lib.hid (bld_old G2.out hb9); have hs9 := hb9.size)
                | (go_at_call 22; refine (HWN.out _ G2'.out).mono ?_; rintro e w8 ⟨rfl, hbl8, hbw8, hkp8⟩))
              exact FIN.out (120 :: t) _ HPCE.out (by simp; omega) (Lib.hid ((G1.out.old hb9).under hbw8 (by omega))) hbl8 ((G3.out.old hb9).kept hkp8 (by simp; omega)) ((G4.out.trans (hb9.mono (by omega))).trans (hbw8.mono (by omega)))
        · have hnx := fun ty => iter_end (P := Tryd.prog) H3.out hlt ty
          have hke : acc = textI x := by rw [HTXT.out, ← hacc, List.take_of_length_le (by omega)]
          rw [hke] at H2
          clear hke hacc H5
          have HS := Lib.hid (fun w' h => string_any (X + 1) (X + 1) (textI x) w' h)
          go_wp2_with (go_at_call 27; refine (HS.out _ H2.out).mono ?_; rintro e w8 ⟨rfl, hb8⟩)
          go_ret2
          exact ⟨rfl, H4.out.trans (hb8.mono (by omega))⟩
end Go.Proofs.YtgdnnaiidmfncaaDoor
