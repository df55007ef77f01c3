/-
  whole's deferred closure: what it makes of a panic, and of none. Conditions: the results lie in blocks of their own.
-/
import Derived.Test.YtcfpfnoldgnloaaGreatDoorPn15
import Derived.Defers
import Derived.Recover
import Derived.Laws.Pointers
set_option linter.unusedVariables false
set_option linter.unusedSimpArgs false
namespace Go.Proofs.YtcfpfnoldgnloaaGreatDoor
open Go.RowKit
set_option maxRecDepth 100000
set_option maxHeartbeats 4000000

section
variable {P : Program} {Q : Exit → Act → List Frame → World → Prop} {a : Act} {cs : List Frame} {w : World}
/-- The operations of a plain region, one behind the other; recover among them. -/
def wpLS (P : Program) (Q : Exit → Act → List Frame → World → Prop) : List Oper → Act → List Frame → World → Prop
  | [], a, cs, w => Q .normal a cs w
  | o :: rest, a, cs, w => o.guard = none ∧ match (execOp a.eval o).run P w with
    | .ok .recover w' => (match recoverD cs with
      | some (v, cs') => wpLS P Q rest (a.put o.dst v) cs' w'
      | none => wpLS P Q rest (a.put o.dst .nilIface) cs w')
    | r => o.upon P a (fun a' w' => wpLS P Q rest a' cs w') (fun e a' w' => Q e a' cs w') r
theorem upon_mono {o : Oper} {a : Act} {K K' : Act → World → Prop} {Q' : Exit → Act → World → Prop} (hk : ∀ a w, K a w → K' a w) {r : Result Next} (h : o.upon P a K Q' r) : o.upon P a K' Q' r := by
  unfold Oper.upon at h ⊢
  split at h
  · exact hk _ _ h
  · exact hk _ _ h
  · exact hk _ _ h
  · refine Calls.mono h ?_
    intro e w' q
    cases e with
    | returned v => exact hk _ _ q
    | panicked c => exact q
    | outgrown => exact q
  · exact Rows.mono h (fun v w' q => hk _ _ q)
  · exact h
  · exact h
theorem opsS_list {ops : Array Oper} : ∀ (n k : Nat), k + n = ops.size → ∀ (a : Act) (cs : List Frame) (w : World), wpLS P Q (ops.toList.drop k) a cs w → wpOpsS P ops Q (List.range' k n) a cs w
  | 0, k, hk, a, cs, w, h => by
    rw [List.drop_of_length_le (by rw [Array.length_toList]; omega)] at h
    exact h
  | n + 1, k, hk, a, cs, w, h => by
    have hlt : k < ops.toList.length := by rw [Array.length_toList]; omega
    rw [List.drop_eq_getElem_cons hlt] at h
    obtain ⟨hg, h⟩ := h
    have ho : ops[k]? = some (ops.toList[k]) := by rw [← Array.getElem?_toList, List.getElem?_eq_getElem hlt]
    have ih := opsS_list (ops := ops) n (k + 1) (by omega)
    rw [List.range'_succ, wpOpsS, ho]
    simp only [Region.wanted, hg, if_true]
    split at h
    · rename_i w' hr
      rw [hr]
      dsimp only
      split at h
      · rename_i v cs' hc
        rw [hc]
        exact ih _ _ _ h
      · rename_i hc
        rw [hc]
        exact ih _ _ _ h
    · rename_i r hn
      split
      · rename_i w' hr
        exact absurd hr (hn w')
      · exact upon_mono (fun a w q => ih _ _ _ q) h
theorem wpS_list {id : Nat} {ops : Array Oper} {l : List Oper} (hl : ops.toList = l) (h : wpLS P Q l a cs w) : (Code.region id ops false).wpS P Q a cs w := by
  apply wpS_region
  rw [List.range_eq_range']
  exact opsS_list ops.size 0 (by omega) a cs w (by rw [List.drop_zero, hl]; exact h)
theorem lS_step {o : Oper} {rest : List Oper} (hg : o.guard = none) (h : ∀ K' : Act → World → Prop, (∀ a w, wpLS P Q rest a cs w → K' a w) → o.wp P a w K' (fun e a' w' => Q e a' cs w')) : wpLS P Q (o :: rest) a cs w := by
  refine ⟨hg, ?_⟩
  have h1 := h _ (fun _ _ q => q)
  unfold Oper.wp at h1
  split
  · rename_i w' hr
    rw [hr] at h1
    exact h1.elim
  · exact h1
theorem lS_some {o : Oper} {rest : List Oper} (hg : o.guard = none) (hr : (execOp a.eval o).run P w = .ok .recover w) {v : Value} {cs' : List Frame} (hc : recoverD cs = some (v, cs')) (h : wpLS P Q rest (a.put o.dst v) cs' w) : wpLS P Q (o :: rest) a cs w := by
  refine ⟨hg, ?_⟩
  rw [hr]
  dsimp only
  rw [hc]
  exact h
theorem lS_none {o : Oper} {rest : List Oper} (hg : o.guard = none) (hr : (execOp a.eval o).run P w = .ok .recover w) (hc : recoverD cs = none) (h : wpLS P Q rest (a.put o.dst .nilIface) cs w) : wpLS P Q (o :: rest) a cs w := by
  refine ⟨hg, ?_⟩
  rw [hr]
  dsimp only
  rw [hc]
  exact h
end
@[go_sem] theorem assert_nil (w : World) : (Instr.typeAssert .nilIface 20 110 true).run Tryz.prog w = .ok (.tuple #[.agg #[.int .i64 0], .bool false]) w := by kernel_rfl
@[go_sem] theorem assert_wrong (v : Value) (w : World) : (Instr.typeAssert (.iface 110 v) 20 110 true).run Tryz.prog w = .ok (.tuple #[v, .bool true]) w := by kernel_rfl
def wrongV (n : Int) : Value := .iface 110 (.agg #[.int .i64 n])
structure VCE (b0 b1 b2 T0 T1 B : Nat) (n x1 x2 : Int) (a0 a1 a2 a3 a4 : Value) (W : World) (L : Nat → Bool) (z12 z13 z14 : Value) (wx : World) : Prop where
  ord : L 5 = true → ∀ j, j < 5 → L j = true
  p4_3 : L 4 = true → L 3 = true
  c0 : L 0 = true → z12 = .agg #[.int .i64 0, .int .i64 0, .int .i64 0, .string ⟨#[]⟩, .slice none 0 0]
  c1 : L 1 = true → z13 = .pointer (some ⟨T0, 0, none⟩)
  c2 : L 2 = true → z14 = .int .i64 n
  fr : Below B W wx
  o0 : L 3 = false → OwnAt wx b0 [a0, a1, a2, a3, a4] 27
  o0t : L 3 = true → OwnAt wx b0 [.int .i64 0, .int .i64 0, .int .i64 0, .string ⟨#[]⟩, .slice none 0 0] 27
  o1 : L 4 = false → OwnAt wx b1 [.int .i64 x1] 28
  o1t : L 4 = true → OwnAt wx b1 [.int .i64 40] 28
  o2 : L 5 = false → OwnAt wx b2 [.int .i64 x2] 3
  o2t : L 5 = true → OwnAt wx b2 [.int .i64 n] 3
  wr : OwnAt wx T0 [.int .i64 n] 110
  nn : OwnAt wx T1 [.int .i64 0, .int .i64 0, .int .i64 0, .string ⟨#[]⟩, .slice none 0 0] 27
def ICE (b0 b1 b2 T0 T1 B : Nat) (n x1 x2 : Int) (a0 a1 a2 a3 a4 : Value) (W : World) (q4 q6 q7 q8 q9 q10 q11 : Value) (L : Nat → Bool) (a' : Act) (w' : World) : Prop :=
  ∃ z12 z13 z14 : Value, VCE b0 b1 b2 T0 T1 B n x1 x2 a0 a1 a2 a3 a4 W L z12 z13 z14 w' ∧ a' = ⟨[.pointer (some ⟨b0, 0, none⟩), .pointer (some ⟨b1, 0, none⟩), .pointer (some ⟨b2, 0, none⟩), .pointer (some ⟨T0, 0, none⟩), q4, .pointer (some ⟨T1, 0, none⟩), q6, q7, q8, q9, q10, q11, z12, z13, z14].toArray, []⟩
def RCE (b0 b1 b2 T0 T1 B : Nat) (n x1 x2 : Int) (a0 a1 a2 a3 a4 : Value) (W : World) (q4 q6 q7 q8 q9 q10 q11 : Value) (a' : Act) (w' : World) : Prop :=
  (Below B W w' ∧ OwnAt w' b0 [.int .i64 0, .int .i64 0, .int .i64 0, .string ⟨#[]⟩, .slice none 0 0] 27 ∧ OwnAt w' b1 [.int .i64 40] 28 ∧ OwnAt w' b2 [.int .i64 n] 3) ∧ a' = ⟨[.pointer (some ⟨b0, 0, none⟩), .pointer (some ⟨b1, 0, none⟩), .pointer (some ⟨b2, 0, none⟩), .pointer (some ⟨T0, 0, none⟩), q4, .pointer (some ⟨T1, 0, none⟩), q6, q7, q8, q9, q10, q11, .agg #[.int .i64 0, .int .i64 0, .int .i64 0, .string ⟨#[]⟩, .slice none 0 0], .pointer (some ⟨T0, 0, none⟩), .int .i64 n].toArray, []⟩
theorem reg_CE (b0 b1 b2 T0 T1 B : Nat) (n x1 x2 : Int) (a0 a1 a2 a3 a4 : Value) (W : World) (h0 : OwnAt W b0 [a0, a1, a2, a3, a4] 27) (h1 : OwnAt W b1 [.int .i64 x1] 28) (h2 : OwnAt W b2 [.int .i64 x2] 3) (hw : OwnAt W T0 [.int .i64 n] 110) (hn : OwnAt W T1 [.int .i64 0, .int .i64 0, .int .i64 0, .string ⟨#[]⟩, .slice none 0 0] 27) (h01 : b0 < b1) (h12 : b1 < b2) (h2t : b2 < T0) (htt : T0 < T1) (hB : B ≤ b0) (q4 q6 q7 q8 q9 q10 q11 q12 q13 q14 : Value) (J K' : Act → World → Prop) (hJ : ∀ a' w', RCE b0 b1 b2 T0 T1 B n x1 x2 a0 a1 a2 a3 a4 W q4 q6 q7 q8 q9 q10 q11 a' w' → J a' w') (hM : ∀ a' w', Met J a' w' → K' a' w') :
    Code.wp Tryz.prog ((Tryz.f57.body.bind (regOf 3)).getD .skip) (Exit.then K' (fun _ _ _ => False)) ⟨[.pointer (some ⟨b0, 0, none⟩), .pointer (some ⟨b1, 0, none⟩), .pointer (some ⟨b2, 0, none⟩), .pointer (some ⟨T0, 0, none⟩), q4, .pointer (some ⟨T1, 0, none⟩), q6, q7, q8, q9, q10, q11, q12, q13, q14].toArray, []⟩ W := by
  have H0 := Lib.hid h0; have H1 := Lib.hid h1; have H2 := Lib.hid h2; have HW := Lib.hid hw; have HN := Lib.hid hn
  clear h0 h1 h2 hw hn
  conv => arg 2; whnf
  (try dsimp only)
  refine region_by (by kernel_rfl) (by kernel_rfl) (ICE b0 b1 b2 T0 T1 B n x1 x2 a0 a1 a2 a3 a4 W q4 q6 q7 q8 q9 q10 q11) ?_ ?_ ?_
  · exact ⟨q12, q13, q14, ⟨(fun h => by cases h), (fun h => by cases h), (fun h => by cases h), (fun h => by cases h), (fun h => by cases h), ((Below.refl _ _).drew), (fun _ => H0.out.old (Below.refl _ _).drew), (fun h => by cases h), (fun _ => H1.out.old (Below.refl _ _).drew), (fun h => by cases h), (fun _ => H2.out.old (Below.refl _ _).drew), (fun h => by cases h), (HW.out.old (Below.refl _ _).drew), (HN.out.old (Below.refl _ _).drew)⟩, rfl⟩
  · intro L act wx k hI hk hl hd
    obtain ⟨z12, z13, z14, hV, rfl⟩ := hI
    have hk : k = 0 ∨ k = 1 ∨ k = 2 ∨ k = 3 ∨ k = 4 ∨ k = 5 := by
      have : k < 6 := hk
      omega
    rcases hk with rfl | rfl | rfl | rfl | rfl | rfl
    · have nl := kf hV.ord hl
      have hn := hV.nn
      have n0 := hn.at 0 _ rfl
      have nf0 := hn.fz 0
      have n1 := hn.at 1 _ rfl
      have nf1 := hn.fz 1
      have n2 := hn.at 2 _ rfl
      have nf2 := hn.fz 2
      have n3 := hn.at 3 _ rfl
      have nf3 := hn.fz 3
      have n4 := hn.at 4 _ rfl
      have nf4 := hn.fz 4
      have nlt := hn.lt
      refine op_at _ rfl rfl (fun K' hK => ?_)
      conv => arg 2; whnf
      go_wp2_with fail
      exact ⟨.agg #[.int .i64 0, .int .i64 0, .int .i64 0, .string ⟨#[]⟩, .slice none 0 0], z13, z14, ⟨(kl nl), (kq hV.p4_3), (fun _ => rfl), (kc hV.c1), (kc hV.c2), hV.fr, (fun h0 => hV.o0 (kb h0)), (kc hV.o0t), (fun h0 => hV.o1 (kb h0)), (kc hV.o1t), (fun h0 => hV.o2 (kb h0)), (kl nl), hV.wr, hV.nn⟩, rfl⟩
    · have nl := kf hV.ord hl
      refine op_at _ rfl rfl (fun K' hK => ?_)
      conv => arg 2; whnf
      go_wp2_with fail
      exact ⟨z12, .pointer (some ⟨T0, 0, none⟩), z14, ⟨(kl nl), (kq hV.p4_3), (kc hV.c0), (fun _ => rfl), (kc hV.c2), hV.fr, (fun h0 => hV.o0 (kb h0)), (kc hV.o0t), (fun h0 => hV.o1 (kb h0)), (kc hV.o1t), (fun h0 => hV.o2 (kb h0)), (kl nl), hV.wr, hV.nn⟩, rfl⟩
    · have nl := kf hV.ord hl
      have d1 : L 1 = true := hd _ rfl ⟨1, .data⟩ (by simp) rfl
      obtain rfl := (hV.c1 d1).symm
      have hw := hV.wr
      have w0 := hw.at 0 _ rfl
      have wf0 := hw.fz 0
      have wlt := hw.lt
      refine op_at _ rfl rfl (fun K' hK => ?_)
      conv => arg 2; whnf
      go_wp2_with fail
      exact ⟨z12, .pointer (some ⟨T0, 0, none⟩), .int .i64 n, ⟨(kl nl), (kq hV.p4_3), (kc hV.c0), (kc hV.c1), (fun _ => rfl), hV.fr, (fun h0 => hV.o0 (kb h0)), (kc hV.o0t), (fun h0 => hV.o1 (kb h0)), (kc hV.o1t), (fun h0 => hV.o2 (kb h0)), (kl nl), hV.wr, hV.nn⟩, rfl⟩
    · have nl := kf hV.ord hl
      have d0 : L 0 = true := hd _ rfl ⟨0, .data⟩ (by simp) rfl
      obtain rfl := (hV.c0 d0).symm
      have ho := hV.o0 hl
      have x0 := ho.at 0 _ rfl
      have xf0 := ho.fz 0
      have x1 := ho.at 1 _ rfl
      have xf1 := ho.fz 1
      have x2 := ho.at 2 _ rfl
      have xf2 := ho.fz 2
      have x3 := ho.at 3 _ rfl
      have xf3 := ho.fz 3
      have x4 := ho.at 4 _ rfl
      have xf4 := ho.fz 4
      have xlt := ho.lt
      refine op_at _ rfl rfl (fun K' hK => ?_)
      conv => arg 2; whnf
      go_wp2_with fail
      exact ⟨.agg #[.int .i64 0, .int .i64 0, .int .i64 0, .string ⟨#[]⟩, .slice none 0 0], z13, z14, ⟨(kl nl), (fun _ => upd_same L 3), (kc hV.c0), (kc hV.c1), (kc hV.c2), (((((hV.fr.setCell (p := ⟨b0, 0, none⟩) (show B ≤ b0 by omega) _).setCell (p := ⟨b0, 1, none⟩) (show B ≤ b0 by omega) _).setCell (p := ⟨b0, 2, none⟩) (show B ≤ b0 by omega) _).setCell (p := ⟨b0, 3, none⟩) (show B ≤ b0 by omega) _).setCell (p := ⟨b0, 4, none⟩) (show B ≤ b0 by omega) _), (ks), (fun _ => (((((ho.set 0 (.int .i64 0)).set 1 (.int .i64 0)).set 2 (.int .i64 0)).set 3 (.string ⟨#[]⟩)).set 4 (.slice none 0 0))), (fun h => ((((((hV.o1 (kb h)).other (by omega) _ _).other (by omega) _ _).other (by omega) _ _).other (by omega) _ _).other (by omega) _ _)), (fun h => ((((((hV.o1t (kb h)).other (by omega) _ _).other (by omega) _ _).other (by omega) _ _).other (by omega) _ _).other (by omega) _ _)), (fun h => ((((((hV.o2 (kb h)).other (by omega) _ _).other (by omega) _ _).other (by omega) _ _).other (by omega) _ _).other (by omega) _ _)), (kl nl), (((((hV.wr.other (by omega) _ _).other (by omega) _ _).other (by omega) _ _).other (by omega) _ _).other (by omega) _ _), (((((hV.nn.other (by omega) _ _).other (by omega) _ _).other (by omega) _ _).other (by omega) _ _).other (by omega) _ _)⟩, rfl⟩
    · have nl := kf hV.ord hl
      have d3 : L 3 = true := hd _ rfl ⟨3, .chain⟩ (by simp) rfl
      have ho := hV.o1 hl
      have x0 := ho.at 0 _ rfl
      have xf0 := ho.fz 0
      have xlt := ho.lt
      refine op_at _ rfl rfl (fun K' hK => ?_)
      conv => arg 2; whnf
      go_wp2_with fail
      exact ⟨z12, z13, z14, ⟨(kl nl), (kd (d3)), (kc hV.c0), (kc hV.c1), (kc hV.c2), (hV.fr.setCell (p := ⟨b1, 0, none⟩) (show B ≤ b1 by omega) _), (fun h => ((hV.o0 (kb h)).other (by omega) _ _)), (fun h => ((hV.o0t (kb h)).other (by omega) _ _)), (ks), (fun _ => ho.set 0 (.int .i64 40)), (fun h => ((hV.o2 (kb h)).other (by omega) _ _)), (kl nl), (hV.wr.other (by omega) _ _), (hV.nn.other (by omega) _ _)⟩, rfl⟩
    · have before : ∀ j, j < 5 → L j = true := fun j hj => by
        have hj : j = 0 ∨ j = 1 ∨ j = 2 ∨ j = 3 ∨ j = 4 := by omega
        rcases hj with rfl | rfl | rfl | rfl | rfl
        · exact hd _ rfl ⟨0, .phase⟩ (by simp) rfl
        · exact hd _ rfl ⟨1, .phase⟩ (by simp) rfl
        · exact hd _ rfl ⟨2, .data⟩ (by simp) rfl
        · exact hd _ rfl ⟨3, .phase⟩ (by simp) rfl
        · exact hd _ rfl ⟨4, .chain⟩ (by simp) rfl
      have d2 : L 2 = true := hd _ rfl ⟨2, .data⟩ (by simp) rfl
      obtain rfl := (hV.c2 d2).symm
      have d4 : L 4 = true := hd _ rfl ⟨4, .chain⟩ (by simp) rfl
      have ho := hV.o2 hl
      have x0 := ho.at 0 _ rfl
      have xf0 := ho.fz 0
      have xlt := ho.lt
      refine op_at _ rfl rfl (fun K' hK => ?_)
      conv => arg 2; whnf
      go_wp2_with fail
      exact ⟨z12, z13, .int .i64 n, ⟨(fun _ j hj => by rw [upd_ne L (show j ≠ 5 by omega)]; exact before j hj), (kq hV.p4_3), (kc hV.c0), (kc hV.c1), (kc hV.c2), (hV.fr.setCell (p := ⟨b2, 0, none⟩) (show B ≤ b2 by omega) _), (fun h => by rw [upd_ne L (by decide), before 3 (by decide)] at h; cases h), (fun h => ((hV.o0t (kb h)).other (by omega) _ _)), (fun h => by rw [upd_ne L (by decide), before 4 (by decide)] at h; cases h), (fun h => ((hV.o1t (kb h)).other (by omega) _ _)), (ks), (fun _ => ho.set 0 (.int .i64 n)), (hV.wr.other (by omega) _ _), (hV.nn.other (by omega) _ _)⟩, rfl⟩
  · intro L act wx hI hall
    obtain ⟨z12, z13, z14, hV, rfl⟩ := hI
    obtain rfl := (hV.c0 (hall 0 (by decide))).symm
    obtain rfl := (hV.c1 (hall 1 (by decide))).symm
    obtain rfl := (hV.c2 (hall 2 (by decide))).symm
    exact hM _ _ (Met.intro (hJ _ _ ⟨⟨hV.fr, hV.o0t (hall 3 (by decide)), hV.o1t (hall 4 (by decide)), hV.o2t (hall 5 (by decide))⟩, rfl⟩))
theorem catchE_idle (b0 b1 b2 : Nat) (w : World) :
    CallsD Tryz.prog 57 #[.pointer (some ⟨b0, 0, none⟩), .pointer (some ⟨b1, 0, none⟩), .pointer (some ⟨b2, 0, none⟩)] .returning w fun e u' w' => e = .returned (.tuple #[]) ∧ u' = .returning ∧ Below w.heap.size w w' := by
  refine callsD_of_wpS Tryz.func57 rfl fun c₀ cs hu => ?_
  have hfr : (#[Value.pointer (some ⟨b0, 0, none⟩), .pointer (some ⟨b1, 0, none⟩), .pointer (some ⟨b2, 0, none⟩)] ++ Array.replicate (Tryz.f57.ntmps - (#[Value.pointer (some ⟨b0, 0, none⟩), .pointer (some ⟨b1, 0, none⟩), .pointer (some ⟨b2, 0, none⟩)] : Array Value).size) undef) = #[.pointer (some ⟨b0, 0, none⟩), .pointer (some ⟨b1, 0, none⟩), .pointer (some ⟨b2, 0, none⟩), undef, undef, undef, undef, undef, undef, undef, undef, undef, undef, undef, undef] := by
    rw [Tryz.ntmps57]; rfl
  rw [hfr]
  clear hfr
  apply wpS_seq
  refine wpS_list rfl ?_
  refine lS_none rfl ?hr ?hc ?hh
  case hc => simp only [recoverD, hu]
  case hr => simp [go_sem]
  case hh =>
  iterate 7
    refine lS_step rfl (fun K' hK => ?_)
    go_wp2_with fail
  show Code.wpS _ _ _ _ _ _
  refine wpS_of_wp ?_
  go_wp2_with fail
  refine ⟨rfl, .returning, by cases c₀; cases hu; rfl, .tuple #[], by simp [results, Tryz.results57], rfl, rfl, (Below.refl _ _).alloc (Nat.le_refl _) _⟩
theorem catchE_panic (b0 b1 b2 : Nat) (n x1 x2 : Int) (a0 a1 a2 a3 a4 : Value) (older : List PanicEntry) (B : Nat) (w : World) (h0 : OwnAt w b0 [a0, a1, a2, a3, a4] 27) (h1 : OwnAt w b1 [.int .i64 x1] 28) (h2 : OwnAt w b2 [.int .i64 x2] 3) (h01 : b0 < b1) (h12 : b1 < b2) (hB : B ≤ b0) :
    CallsD Tryz.prog 57 #[.pointer (some ⟨b0, 0, none⟩), .pointer (some ⟨b1, 0, none⟩), .pointer (some ⟨b2, 0, none⟩)] (.panicking ({ v := wrongV n, recovered := false } :: older)) w fun e u' w' => e = .returned (.tuple #[]) ∧ u' = .panicking ({ v := wrongV n, recovered := true } :: older) ∧ Below B w w' ∧
      OwnAt w' b0 [.int .i64 0, .int .i64 0, .int .i64 0, .string ⟨#[]⟩, .slice none 0 0] 27 ∧ OwnAt w' b1 [.int .i64 40] 28 ∧ OwnAt w' b2 [.int .i64 n] 3 := by
  refine callsD_of_wpS Tryz.func57 rfl fun c₀ cs hu => ?_
  have hfr : (#[Value.pointer (some ⟨b0, 0, none⟩), .pointer (some ⟨b1, 0, none⟩), .pointer (some ⟨b2, 0, none⟩)] ++ Array.replicate (Tryz.f57.ntmps - (#[Value.pointer (some ⟨b0, 0, none⟩), .pointer (some ⟨b1, 0, none⟩), .pointer (some ⟨b2, 0, none⟩)] : Array Value).size) undef) = #[.pointer (some ⟨b0, 0, none⟩), .pointer (some ⟨b1, 0, none⟩), .pointer (some ⟨b2, 0, none⟩), undef, undef, undef, undef, undef, undef, undef, undef, undef, undef, undef, undef] := by
    rw [Tryz.ntmps57]; rfl
  rw [hfr]
  clear hfr
  apply wpS_seq
  refine wpS_list rfl ?_
  refine lS_some rfl ?hr (v := wrongV n) (cs' := { c₀ with mode := .panicking ({ v := wrongV n, recovered := true } :: older) } :: cs) ?hc ?hh
  case hc => simp only [recoverD, hu]
  case hr => simp [go_sem]
  case hh =>
  unfold wrongV at *
  have H0 := Lib.hid h0; have H1 := Lib.hid h1; have H2 := Lib.hid h2
  clear hu h0 h1 h2
  iterate 7
    refine lS_step rfl (fun K' hK => ?_)
    go_wp2_with fail
  show Code.wpS _ _ _ _ _ _
  refine wpS_of_wp ?_
  go_upto_region 3 with (fail)
  have hb1 : Below w.heap.size w ((w.alloc (.cells #[.int .i64 n] 110)).alloc (.cells #[.int .i64 0, .int .i64 0, .int .i64 0, .string ⟨#[]⟩, .slice none 0 0] 27)) := ((Below.refl _ _).alloc (Nat.le_refl _) _).alloc (by simp) _
  have hw := (OwnAt.new w [.int .i64 n] 110).alloc (.cells #[.int .i64 0, .int .i64 0, .int .i64 0, .string ⟨#[]⟩, .slice none 0 0] 27)
  have hn := OwnAt.new (w.alloc (.cells #[.int .i64 n] 110)) [.int .i64 0, .int .i64 0, .int .i64 0, .string ⟨#[]⟩, .slice none 0 0] 27
  rw [show (w.alloc (.cells #[.int .i64 n] 110)).heap.size = w.heap.size + 1 by simp] at hn
  have hlt := H2.out.lt
  refine wp_mono (Q := Exit.then (Met (RCE b0 b1 b2 w.heap.size (w.heap.size + 1) B n x1 x2 a0 a1 a2 a3 a4 _ _ _ _ _ _ _ _)) (fun _ _ _ => False)) (reg_CE b0 b1 b2 w.heap.size (w.heap.size + 1) B n x1 x2 a0 a1 a2 a3 a4 _ (H0.out.old hb1) (H1.out.old hb1) (H2.out.old hb1) hw hn h01 h12 hlt (Nat.lt_succ_self _) hB _ _ _ _ _ _ _ _ _ _ _ _ (fun _ _ q => q) (fun _ _ q => q)) ?_
  intro e a' w' hq
  cases e with
  | normal =>
    obtain ⟨⟨g0, g1, g2, g3⟩, rfl⟩ := (show RCE b0 b1 b2 w.heap.size (w.heap.size + 1) B n x1 x2 a0 a1 a2 a3 a4 _ _ _ _ _ _ _ _ a' w' from hq)
    exact ⟨rfl, _, rfl, .tuple #[], by simp [results, Tryz.results57], rfl, rfl, (hb1.mono (by omega)).trans g0, g1, g2, g3⟩
  | _ => exact False.elim hq
structure VCP (b0 b1 b2 T0 T1 B : Nat) (n x1 x2 : Int) (a0 a1 : Value) (W : World) (L : Nat → Bool) (z12 z13 z14 : Value) (wx : World) : Prop where
  ord : L 5 = true → ∀ j, j < 5 → L j = true
  p4_3 : L 4 = true → L 3 = true
  c0 : L 0 = true → z12 = .agg #[.slice none 0 0, .slice none 0 0]
  c1 : L 1 = true → z13 = .pointer (some ⟨T0, 0, none⟩)
  c2 : L 2 = true → z14 = .int .i64 n
  fr : Below B W wx
  o0 : L 3 = false → OwnAt wx b0 [a0, a1] 34
  o0t : L 3 = true → OwnAt wx b0 [.slice none 0 0, .slice none 0 0] 34
  o1 : L 4 = false → OwnAt wx b1 [.int .i64 x1] 28
  o1t : L 4 = true → OwnAt wx b1 [.int .i64 40] 28
  o2 : L 5 = false → OwnAt wx b2 [.int .i64 x2] 3
  o2t : L 5 = true → OwnAt wx b2 [.int .i64 n] 3
  wr : OwnAt wx T0 [.int .i64 n] 110
  nn : OwnAt wx T1 [.slice none 0 0, .slice none 0 0] 34
def ICP (b0 b1 b2 T0 T1 B : Nat) (n x1 x2 : Int) (a0 a1 : Value) (W : World) (q4 q6 q7 q8 q9 q10 q11 : Value) (L : Nat → Bool) (a' : Act) (w' : World) : Prop :=
  ∃ z12 z13 z14 : Value, VCP b0 b1 b2 T0 T1 B n x1 x2 a0 a1 W L z12 z13 z14 w' ∧ a' = ⟨[.pointer (some ⟨b0, 0, none⟩), .pointer (some ⟨b1, 0, none⟩), .pointer (some ⟨b2, 0, none⟩), .pointer (some ⟨T0, 0, none⟩), q4, .pointer (some ⟨T1, 0, none⟩), q6, q7, q8, q9, q10, q11, z12, z13, z14].toArray, []⟩
def RCP (b0 b1 b2 T0 T1 B : Nat) (n x1 x2 : Int) (a0 a1 : Value) (W : World) (q4 q6 q7 q8 q9 q10 q11 : Value) (a' : Act) (w' : World) : Prop :=
  (Below B W w' ∧ OwnAt w' b0 [.slice none 0 0, .slice none 0 0] 34 ∧ OwnAt w' b1 [.int .i64 40] 28 ∧ OwnAt w' b2 [.int .i64 n] 3) ∧ a' = ⟨[.pointer (some ⟨b0, 0, none⟩), .pointer (some ⟨b1, 0, none⟩), .pointer (some ⟨b2, 0, none⟩), .pointer (some ⟨T0, 0, none⟩), q4, .pointer (some ⟨T1, 0, none⟩), q6, q7, q8, q9, q10, q11, .agg #[.slice none 0 0, .slice none 0 0], .pointer (some ⟨T0, 0, none⟩), .int .i64 n].toArray, []⟩
theorem reg_CP (b0 b1 b2 T0 T1 B : Nat) (n x1 x2 : Int) (a0 a1 : Value) (W : World) (h0 : OwnAt W b0 [a0, a1] 34) (h1 : OwnAt W b1 [.int .i64 x1] 28) (h2 : OwnAt W b2 [.int .i64 x2] 3) (hw : OwnAt W T0 [.int .i64 n] 110) (hn : OwnAt W T1 [.slice none 0 0, .slice none 0 0] 34) (h01 : b0 < b1) (h12 : b1 < b2) (h2t : b2 < T0) (htt : T0 < T1) (hB : B ≤ b0) (q4 q6 q7 q8 q9 q10 q11 q12 q13 q14 : Value) (J K' : Act → World → Prop) (hJ : ∀ a' w', RCP b0 b1 b2 T0 T1 B n x1 x2 a0 a1 W q4 q6 q7 q8 q9 q10 q11 a' w' → J a' w') (hM : ∀ a' w', Met J a' w' → K' a' w') :
    Code.wp Tryz.prog ((Tryz.f63.body.bind (regOf 3)).getD .skip) (Exit.then K' (fun _ _ _ => False)) ⟨[.pointer (some ⟨b0, 0, none⟩), .pointer (some ⟨b1, 0, none⟩), .pointer (some ⟨b2, 0, none⟩), .pointer (some ⟨T0, 0, none⟩), q4, .pointer (some ⟨T1, 0, none⟩), q6, q7, q8, q9, q10, q11, q12, q13, q14].toArray, []⟩ W := by
  have H0 := Lib.hid h0; have H1 := Lib.hid h1; have H2 := Lib.hid h2; have HW := Lib.hid hw; have HN := Lib.hid hn
  clear h0 h1 h2 hw hn
  conv => arg 2; whnf
  (try dsimp only)
  refine region_by (by kernel_rfl) (by kernel_rfl) (ICP b0 b1 b2 T0 T1 B n x1 x2 a0 a1 W q4 q6 q7 q8 q9 q10 q11) ?_ ?_ ?_
  · exact ⟨q12, q13, q14, ⟨(fun h => by cases h), (fun h => by cases h), (fun h => by cases h), (fun h => by cases h), (fun h => by cases h), ((Below.refl _ _).drew), (fun _ => H0.out.old (Below.refl _ _).drew), (fun h => by cases h), (fun _ => H1.out.old (Below.refl _ _).drew), (fun h => by cases h), (fun _ => H2.out.old (Below.refl _ _).drew), (fun h => by cases h), (HW.out.old (Below.refl _ _).drew), (HN.out.old (Below.refl _ _).drew)⟩, rfl⟩
  · intro L act wx k hI hk hl hd
    obtain ⟨z12, z13, z14, hV, rfl⟩ := hI
    have hk : k = 0 ∨ k = 1 ∨ k = 2 ∨ k = 3 ∨ k = 4 ∨ k = 5 := by
      have : k < 6 := hk
      omega
    rcases hk with rfl | rfl | rfl | rfl | rfl | rfl
    · have nl := kf hV.ord hl
      have hn := hV.nn
      have n0 := hn.at 0 _ rfl
      have nf0 := hn.fz 0
      have n1 := hn.at 1 _ rfl
      have nf1 := hn.fz 1
      have nlt := hn.lt
      refine op_at _ rfl rfl (fun K' hK => ?_)
      conv => arg 2; whnf
      go_wp2_with fail
      exact ⟨.agg #[.slice none 0 0, .slice none 0 0], z13, z14, ⟨(kl nl), (kq hV.p4_3), (fun _ => rfl), (kc hV.c1), (kc hV.c2), hV.fr, (fun h0 => hV.o0 (kb h0)), (kc hV.o0t), (fun h0 => hV.o1 (kb h0)), (kc hV.o1t), (fun h0 => hV.o2 (kb h0)), (kl nl), hV.wr, hV.nn⟩, rfl⟩
    · have nl := kf hV.ord hl
      refine op_at _ rfl rfl (fun K' hK => ?_)
      conv => arg 2; whnf
      go_wp2_with fail
      exact ⟨z12, .pointer (some ⟨T0, 0, none⟩), z14, ⟨(kl nl), (kq hV.p4_3), (kc hV.c0), (fun _ => rfl), (kc hV.c2), hV.fr, (fun h0 => hV.o0 (kb h0)), (kc hV.o0t), (fun h0 => hV.o1 (kb h0)), (kc hV.o1t), (fun h0 => hV.o2 (kb h0)), (kl nl), hV.wr, hV.nn⟩, rfl⟩
    · have nl := kf hV.ord hl
      have d1 : L 1 = true := hd _ rfl ⟨1, .data⟩ (by simp) rfl
      obtain rfl := (hV.c1 d1).symm
      have hw := hV.wr
      have w0 := hw.at 0 _ rfl
      have wf0 := hw.fz 0
      have wlt := hw.lt
      refine op_at _ rfl rfl (fun K' hK => ?_)
      conv => arg 2; whnf
      go_wp2_with fail
      exact ⟨z12, .pointer (some ⟨T0, 0, none⟩), .int .i64 n, ⟨(kl nl), (kq hV.p4_3), (kc hV.c0), (kc hV.c1), (fun _ => rfl), hV.fr, (fun h0 => hV.o0 (kb h0)), (kc hV.o0t), (fun h0 => hV.o1 (kb h0)), (kc hV.o1t), (fun h0 => hV.o2 (kb h0)), (kl nl), hV.wr, hV.nn⟩, rfl⟩
    · have nl := kf hV.ord hl
      have d0 : L 0 = true := hd _ rfl ⟨0, .data⟩ (by simp) rfl
      obtain rfl := (hV.c0 d0).symm
      have ho := hV.o0 hl
      have x0 := ho.at 0 _ rfl
      have xf0 := ho.fz 0
      have x1 := ho.at 1 _ rfl
      have xf1 := ho.fz 1
      have xlt := ho.lt
      refine op_at _ rfl rfl (fun K' hK => ?_)
      conv => arg 2; whnf
      go_wp2_with fail
      exact ⟨.agg #[.slice none 0 0, .slice none 0 0], z13, z14, ⟨(kl nl), (fun _ => upd_same L 3), (kc hV.c0), (kc hV.c1), (kc hV.c2), ((hV.fr.setCell (p := ⟨b0, 0, none⟩) (show B ≤ b0 by omega) _).setCell (p := ⟨b0, 1, none⟩) (show B ≤ b0 by omega) _), (ks), (fun _ => ((ho.set 0 (.slice none 0 0)).set 1 (.slice none 0 0))), (fun h => (((hV.o1 (kb h)).other (by omega) _ _).other (by omega) _ _)), (fun h => (((hV.o1t (kb h)).other (by omega) _ _).other (by omega) _ _)), (fun h => (((hV.o2 (kb h)).other (by omega) _ _).other (by omega) _ _)), (kl nl), ((hV.wr.other (by omega) _ _).other (by omega) _ _), ((hV.nn.other (by omega) _ _).other (by omega) _ _)⟩, rfl⟩
    · have nl := kf hV.ord hl
      have d3 : L 3 = true := hd _ rfl ⟨3, .chain⟩ (by simp) rfl
      have ho := hV.o1 hl
      have x0 := ho.at 0 _ rfl
      have xf0 := ho.fz 0
      have xlt := ho.lt
      refine op_at _ rfl rfl (fun K' hK => ?_)
      conv => arg 2; whnf
      go_wp2_with fail
      exact ⟨z12, z13, z14, ⟨(kl nl), (kd (d3)), (kc hV.c0), (kc hV.c1), (kc hV.c2), (hV.fr.setCell (p := ⟨b1, 0, none⟩) (show B ≤ b1 by omega) _), (fun h => ((hV.o0 (kb h)).other (by omega) _ _)), (fun h => ((hV.o0t (kb h)).other (by omega) _ _)), (ks), (fun _ => ho.set 0 (.int .i64 40)), (fun h => ((hV.o2 (kb h)).other (by omega) _ _)), (kl nl), (hV.wr.other (by omega) _ _), (hV.nn.other (by omega) _ _)⟩, rfl⟩
    · have before : ∀ j, j < 5 → L j = true := fun j hj => by
        have hj : j = 0 ∨ j = 1 ∨ j = 2 ∨ j = 3 ∨ j = 4 := by omega
        rcases hj with rfl | rfl | rfl | rfl | rfl
        · exact hd _ rfl ⟨0, .phase⟩ (by simp) rfl
        · exact hd _ rfl ⟨1, .phase⟩ (by simp) rfl
        · exact hd _ rfl ⟨2, .data⟩ (by simp) rfl
        · exact hd _ rfl ⟨3, .phase⟩ (by simp) rfl
        · exact hd _ rfl ⟨4, .chain⟩ (by simp) rfl
      have d2 : L 2 = true := hd _ rfl ⟨2, .data⟩ (by simp) rfl
      obtain rfl := (hV.c2 d2).symm
      have d4 : L 4 = true := hd _ rfl ⟨4, .chain⟩ (by simp) rfl
      have ho := hV.o2 hl
      have x0 := ho.at 0 _ rfl
      have xf0 := ho.fz 0
      have xlt := ho.lt
      refine op_at _ rfl rfl (fun K' hK => ?_)
      conv => arg 2; whnf
      go_wp2_with fail
      exact ⟨z12, z13, .int .i64 n, ⟨(fun _ j hj => by rw [upd_ne L (show j ≠ 5 by omega)]; exact before j hj), (kq hV.p4_3), (kc hV.c0), (kc hV.c1), (kc hV.c2), (hV.fr.setCell (p := ⟨b2, 0, none⟩) (show B ≤ b2 by omega) _), (fun h => by rw [upd_ne L (by decide), before 3 (by decide)] at h; cases h), (fun h => ((hV.o0t (kb h)).other (by omega) _ _)), (fun h => by rw [upd_ne L (by decide), before 4 (by decide)] at h; cases h), (fun h => ((hV.o1t (kb h)).other (by omega) _ _)), (ks), (fun _ => ho.set 0 (.int .i64 n)), (hV.wr.other (by omega) _ _), (hV.nn.other (by omega) _ _)⟩, rfl⟩
  · intro L act wx hI hall
    obtain ⟨z12, z13, z14, hV, rfl⟩ := hI
    obtain rfl := (hV.c0 (hall 0 (by decide))).symm
    obtain rfl := (hV.c1 (hall 1 (by decide))).symm
    obtain rfl := (hV.c2 (hall 2 (by decide))).symm
    exact hM _ _ (Met.intro (hJ _ _ ⟨⟨hV.fr, hV.o0t (hall 3 (by decide)), hV.o1t (hall 4 (by decide)), hV.o2t (hall 5 (by decide))⟩, rfl⟩))
theorem catchP_idle (b0 b1 b2 : Nat) (w : World) :
    CallsD Tryz.prog 63 #[.pointer (some ⟨b0, 0, none⟩), .pointer (some ⟨b1, 0, none⟩), .pointer (some ⟨b2, 0, none⟩)] .returning w fun e u' w' => e = .returned (.tuple #[]) ∧ u' = .returning ∧ Below w.heap.size w w' := by
  refine callsD_of_wpS Tryz.func63 rfl fun c₀ cs hu => ?_
  have hfr : (#[Value.pointer (some ⟨b0, 0, none⟩), .pointer (some ⟨b1, 0, none⟩), .pointer (some ⟨b2, 0, none⟩)] ++ Array.replicate (Tryz.f63.ntmps - (#[Value.pointer (some ⟨b0, 0, none⟩), .pointer (some ⟨b1, 0, none⟩), .pointer (some ⟨b2, 0, none⟩)] : Array Value).size) undef) = #[.pointer (some ⟨b0, 0, none⟩), .pointer (some ⟨b1, 0, none⟩), .pointer (some ⟨b2, 0, none⟩), undef, undef, undef, undef, undef, undef, undef, undef, undef, undef, undef, undef] := by
    rw [Tryz.ntmps63]; rfl
  rw [hfr]
  clear hfr
  apply wpS_seq
  refine wpS_list rfl ?_
  refine lS_none rfl ?hr ?hc ?hh
  case hc => simp only [recoverD, hu]
  case hr => simp [go_sem]
  case hh =>
  iterate 7
    refine lS_step rfl (fun K' hK => ?_)
    go_wp2_with fail
  show Code.wpS _ _ _ _ _ _
  refine wpS_of_wp ?_
  go_wp2_with fail
  refine ⟨rfl, .returning, by cases c₀; cases hu; rfl, .tuple #[], by simp [results, Tryz.results63], rfl, rfl, (Below.refl _ _).alloc (Nat.le_refl _) _⟩
theorem catchP_panic (b0 b1 b2 : Nat) (n x1 x2 : Int) (a0 a1 : Value) (older : List PanicEntry) (B : Nat) (w : World) (h0 : OwnAt w b0 [a0, a1] 34) (h1 : OwnAt w b1 [.int .i64 x1] 28) (h2 : OwnAt w b2 [.int .i64 x2] 3) (h01 : b0 < b1) (h12 : b1 < b2) (hB : B ≤ b0) :
    CallsD Tryz.prog 63 #[.pointer (some ⟨b0, 0, none⟩), .pointer (some ⟨b1, 0, none⟩), .pointer (some ⟨b2, 0, none⟩)] (.panicking ({ v := wrongV n, recovered := false } :: older)) w fun e u' w' => e = .returned (.tuple #[]) ∧ u' = .panicking ({ v := wrongV n, recovered := true } :: older) ∧ Below B w w' ∧
      OwnAt w' b0 [.slice none 0 0, .slice none 0 0] 34 ∧ OwnAt w' b1 [.int .i64 40] 28 ∧ OwnAt w' b2 [.int .i64 n] 3 := by
  refine callsD_of_wpS Tryz.func63 rfl fun c₀ cs hu => ?_
  have hfr : (#[Value.pointer (some ⟨b0, 0, none⟩), .pointer (some ⟨b1, 0, none⟩), .pointer (some ⟨b2, 0, none⟩)] ++ Array.replicate (Tryz.f63.ntmps - (#[Value.pointer (some ⟨b0, 0, none⟩), .pointer (some ⟨b1, 0, none⟩), .pointer (some ⟨b2, 0, none⟩)] : Array Value).size) undef) = #[.pointer (some ⟨b0, 0, none⟩), .pointer (some ⟨b1, 0, none⟩), .pointer (some ⟨b2, 0, none⟩), undef, undef, undef, undef, undef, undef, undef, undef, undef, undef, undef, undef] := by
    rw [Tryz.ntmps63]; rfl
  rw [hfr]
  clear hfr
  apply wpS_seq
  refine wpS_list rfl ?_
  refine lS_some rfl ?hr (v := wrongV n) (cs' := { c₀ with mode := .panicking ({ v := wrongV n, recovered := true } :: older) } :: cs) ?hc ?hh
  case hc => simp only [recoverD, hu]
  case hr => simp [go_sem]
  case hh =>
  unfold wrongV at *
  have H0 := Lib.hid h0; have H1 := Lib.hid h1; have H2 := Lib.hid h2
  clear hu h0 h1 h2
  iterate 7
    refine lS_step rfl (fun K' hK => ?_)
    go_wp2_with fail
  show Code.wpS _ _ _ _ _ _
  refine wpS_of_wp ?_
  go_upto_region 3 with (fail)
  have hb1 : Below w.heap.size w ((w.alloc (.cells #[.int .i64 n] 110)).alloc (.cells #[.slice none 0 0, .slice none 0 0] 34)) := ((Below.refl _ _).alloc (Nat.le_refl _) _).alloc (by simp) _
  have hw := (OwnAt.new w [.int .i64 n] 110).alloc (.cells #[.slice none 0 0, .slice none 0 0] 34)
  have hn := OwnAt.new (w.alloc (.cells #[.int .i64 n] 110)) [.slice none 0 0, .slice none 0 0] 34
  rw [show (w.alloc (.cells #[.int .i64 n] 110)).heap.size = w.heap.size + 1 by simp] at hn
  have hlt := H2.out.lt
  refine wp_mono (Q := Exit.then (Met (RCP b0 b1 b2 w.heap.size (w.heap.size + 1) B n x1 x2 a0 a1 _ _ _ _ _ _ _ _)) (fun _ _ _ => False)) (reg_CP b0 b1 b2 w.heap.size (w.heap.size + 1) B n x1 x2 a0 a1 _ (H0.out.old hb1) (H1.out.old hb1) (H2.out.old hb1) hw hn h01 h12 hlt (Nat.lt_succ_self _) hB _ _ _ _ _ _ _ _ _ _ _ _ (fun _ _ q => q) (fun _ _ q => q)) ?_
  intro e a' w' hq
  cases e with
  | normal =>
    obtain ⟨⟨g0, g1, g2, g3⟩, rfl⟩ := (show RCP b0 b1 b2 w.heap.size (w.heap.size + 1) B n x1 x2 a0 a1 _ _ _ _ _ _ _ _ a' w' from hq)
    exact ⟨rfl, _, rfl, .tuple #[], by simp [results, Tryz.results63], rfl, rfl, (hb1.mono (by omega)).trans g0, g1, g2, g3⟩
  | _ => exact False.elim hq
end Go.Proofs.YtcfpfnoldgnloaaGreatDoor
