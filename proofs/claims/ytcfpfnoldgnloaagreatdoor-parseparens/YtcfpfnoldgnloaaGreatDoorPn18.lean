/-
  What tree.only answers of an expression, a kind each. No condition.
  tree.only, tree.well and tree.RightExpr, of every expression in memory. No condition beside the cells.
-/
import Derived.Test.YtcfpfnoldgnloaaGreatDoorPn17
set_option linter.unusedVariables false
set_option linter.unusedSimpArgs false
namespace Go.Proofs.YtcfpfnoldgnloaaGreatDoor
open Go.RowKit
set_option maxHeartbeats 1000000
set_option maxRecDepth 20000

theorem only_num (o n : Int) (nm : Bs) (s : Value) (w : World) :
    Calls Tryz.prog 122 #[.agg #[.int .i64 1, .int .i64 o, .int .i64 n, .string (strOf nm), s]] w fun r w' => r = .returned (.tuple #[.agg #[.int .i64 1, .int .i64 0, .int .i64 n, .string (strOf []), .slice none 0 0], .int .i64 0, .bool (decide (0 ≤ n))]) ∧ Below w.heap.size w w' := by
  go_enter Tryz.func122, Tryz.ntmps122
  go_wp2_with fail
  go_region
  go_wp2_with fail
  all_goals (refine bodyPost_ret (v := .tuple #[.agg #[.int .i64 1, .int .i64 0, .int .i64 n, .string (strOf []), .slice none 0 0], .int .i64 0, .bool (decide (0 ≤ n))]) (by simp [results, Tryz.results122, go_sem]) rfl ⟨rfl, ?_⟩)
  all_goals (repeat (first | exact Below.refl _ _ | refine Below.setCell ?_ (by simp) _ | refine Below.drew ?_ | refine Below.alloc ?_ (by simp) _))

theorem only_var (o n : Int) (nm : Bs) (s : Value) (w : World) :
    Calls Tryz.prog 122 #[.agg #[.int .i64 2, .int .i64 o, .int .i64 n, .string (strOf nm), s]] w fun r w' => r = .returned (.tuple #[.agg #[.int .i64 2, .int .i64 0, .int .i64 0, .string (strOf nm), .slice none 0 0], .int .i64 0, .bool (isName nm)]) ∧ Below w.heap.size w w' := by
  go_enter Tryz.func122, Tryz.ntmps122
  go_wp2_with fail
  go_region_held3 (fun w' => w'.cell? ⟨w.heap.size, 3, none⟩ = some (.string (strOf nm)) ∧ w'.cell? ⟨w.heap.size + 1, 0, none⟩ = some (.int .i64 2) ∧ w'.cell? ⟨w.heap.size + 1, 1, none⟩ = some (.int .i64 0) ∧ w'.cell? ⟨w.heap.size + 1, 2, none⟩ = some (.int .i64 0) ∧ w'.cell? ⟨w.heap.size + 1, 3, none⟩ = some (.string (strOf nm)) ∧ w'.cell? ⟨w.heap.size + 1, 4, none⟩ = some (.slice none 0 0)) (first | (simp [*, setCell_self, World.cell?_alloc_lt]; done) | go_keep) (first | (go_at_call 112; refine (name_any _ _).mono ?_; rintro e w1 ⟨he, hb⟩; subst he; obtain ⟨hc, hf⟩ := bcell hb; have hz : w.heap.size + 1 < w1.heap.size := (by have := hb.size; simp at this; omega); have g03 : w1.cell? ⟨w.heap.size, 3, none⟩ = some (.string (strOf nm)) := below_keeps hb (by simp [World.cell?_alloc_lt]); have g10 : w1.cell? ⟨w.heap.size + 1, 0, none⟩ = some (.int .i64 2) := below_keeps hb (by simp [World.cell?_alloc_lt]); have g11 : w1.cell? ⟨w.heap.size + 1, 1, none⟩ = some (.int .i64 0) := below_keeps hb (by simp [World.cell?_alloc_lt]); have g12 : w1.cell? ⟨w.heap.size + 1, 2, none⟩ = some (.int .i64 0) := below_keeps hb (by simp [World.cell?_alloc_lt]); have g13 : w1.cell? ⟨w.heap.size + 1, 3, none⟩ = some (.string (strOf nm)) := below_keeps hb (by simp [World.cell?_alloc_lt]); have g14 : w1.cell? ⟨w.heap.size + 1, 4, none⟩ = some (.slice none 0 0) := below_keeps hb (by simp [World.cell?_alloc_lt])))
  go_wp2_with fail
  all_goals (refine bodyPost_ret (v := .tuple #[.agg #[.int .i64 2, .int .i64 0, .int .i64 0, .string (strOf nm), .slice none 0 0], .int .i64 0, .bool (isName nm)]) (by simp [results, Tryz.results122, go_sem, hc]) rfl ⟨rfl, ?_⟩)
  all_goals (repeat (refine Below.setCell ?_ (by simp) _))
  all_goals (exact (((Below.refl _ _).alloc (Nat.le_refl _) _).alloc (by simp) _).drew.trans (hb.mono (by simp; omega)))
theorem only_one17 (n : Int) (nm : Bs) (s : Value) (w : World) :
    Calls Tryz.prog 122 #[.agg #[.int .i64 3, .int .i64 17, .int .i64 n, .string (strOf nm), s]] w fun r w' => r = .returned (.tuple #[.agg #[.int .i64 3, .int .i64 17, .int .i64 0, .string (strOf []), .slice none 0 0], .int .i64 1, .bool true]) ∧ Below w.heap.size w w' := by
  go_enter Tryz.func122, Tryz.ntmps122
  go_wp2_with fail
  go_region
  go_wp2_with fail
  all_goals (refine bodyPost_ret (v := .tuple #[.agg #[.int .i64 3, .int .i64 17, .int .i64 0, .string (strOf []), .slice none 0 0], .int .i64 1, .bool true]) (by simp [results, Tryz.results122, go_sem]) rfl ⟨rfl, ?_⟩)
  all_goals (repeat (first | exact Below.refl _ _ | refine Below.setCell ?_ (by simp) _ | refine Below.drew ?_ | refine Below.alloc ?_ (by simp) _))

theorem only_one18 (n : Int) (nm : Bs) (s : Value) (w : World) :
    Calls Tryz.prog 122 #[.agg #[.int .i64 3, .int .i64 18, .int .i64 n, .string (strOf nm), s]] w fun r w' => r = .returned (.tuple #[.agg #[.int .i64 3, .int .i64 18, .int .i64 0, .string (strOf []), .slice none 0 0], .int .i64 1, .bool true]) ∧ Below w.heap.size w w' := by
  go_enter Tryz.func122, Tryz.ntmps122
  go_wp2_with fail
  go_region
  go_wp2_with fail
  all_goals (refine bodyPost_ret (v := .tuple #[.agg #[.int .i64 3, .int .i64 18, .int .i64 0, .string (strOf []), .slice none 0 0], .int .i64 1, .bool true]) (by simp [results, Tryz.results122, go_sem]) rfl ⟨rfl, ?_⟩)
  all_goals (repeat (first | exact Below.refl _ _ | refine Below.setCell ?_ (by simp) _ | refine Below.drew ?_ | refine Below.alloc ?_ (by simp) _))

theorem only_one19 (n : Int) (nm : Bs) (s : Value) (w : World) :
    Calls Tryz.prog 122 #[.agg #[.int .i64 3, .int .i64 19, .int .i64 n, .string (strOf nm), s]] w fun r w' => r = .returned (.tuple #[.agg #[.int .i64 3, .int .i64 19, .int .i64 0, .string (strOf []), .slice none 0 0], .int .i64 1, .bool true]) ∧ Below w.heap.size w w' := by
  go_enter Tryz.func122, Tryz.ntmps122
  go_wp2_with fail
  go_region
  go_wp2_with fail
  all_goals (refine bodyPost_ret (v := .tuple #[.agg #[.int .i64 3, .int .i64 19, .int .i64 0, .string (strOf []), .slice none 0 0], .int .i64 1, .bool true]) (by simp [results, Tryz.results122, go_sem]) rfl ⟨rfl, ?_⟩)
  all_goals (repeat (first | exact Below.refl _ _ | refine Below.setCell ?_ (by simp) _ | refine Below.drew ?_ | refine Below.alloc ?_ (by simp) _))

theorem only_one (o n : Int) (nm : Bs) (s : Value) (w : World) (h1 : o ≠ 17) (h2 : o ≠ 18) (h3 : o ≠ 19) :
    Calls Tryz.prog 122 #[.agg #[.int .i64 3, .int .i64 o, .int .i64 n, .string (strOf nm), s]] w fun r w' => r = .returned (.tuple #[.agg #[.int .i64 3, .int .i64 o, .int .i64 0, .string (strOf []), .slice none 0 0], .int .i64 1, .bool false]) ∧ Below w.heap.size w w' := by
  have k1 : (o == 17) = false := by simpa using h1
  have k2 : (o == 18) = false := by simpa using h2
  have k3 : (o == 19) = false := by simpa using h3
  clear h1 h2 h3
  go_enter Tryz.func122, Tryz.ntmps122
  go_wp2_with fail
  go_region
  go_wp2_with fail
  all_goals (refine bodyPost_ret (v := .tuple #[.agg #[.int .i64 3, .int .i64 o, .int .i64 0, .string (strOf []), .slice none 0 0], .int .i64 1, .bool false]) (by simp [results, Tryz.results122, go_sem]) rfl ⟨rfl, ?_⟩)
  all_goals (repeat (first | exact Below.refl _ _ | refine Below.setCell ?_ (by simp) _ | refine Below.drew ?_ | refine Below.alloc ?_ (by simp) _))

theorem only_two (o n : Int) (nm : Bs) (s : Value) (w : World) :
    Calls Tryz.prog 122 #[.agg #[.int .i64 4, .int .i64 o, .int .i64 n, .string (strOf nm), s]] w fun r w' => r = .returned (.tuple #[.agg #[.int .i64 4, .int .i64 o, .int .i64 0, .string (strOf []), .slice none 0 0], .int .i64 2, .bool (decide (0 < levelOf o))]) ∧ Below w.heap.size w w' := by
  go_enter Tryz.func122, Tryz.ntmps122
  go_wp2_with fail
  go_region_held3 (fun w' => w'.cell? ⟨w.heap.size, 1, none⟩ = some (.int .i64 o) ∧ w'.cell? ⟨w.heap.size + 1, 0, none⟩ = some (.int .i64 4) ∧ w'.cell? ⟨w.heap.size + 1, 1, none⟩ = some (.int .i64 o) ∧ w'.cell? ⟨w.heap.size + 1, 2, none⟩ = some (.int .i64 0) ∧ w'.cell? ⟨w.heap.size + 1, 3, none⟩ = some (.string (strOf [])) ∧ w'.cell? ⟨w.heap.size + 1, 4, none⟩ = some (.slice none 0 0)) (first | (simp [*, setCell_self, World.cell?_alloc_lt]; done) | go_keep) (first | (go_at_call 74; refine (level_any _ _).mono ?_; rintro e w1 ⟨he, hb⟩; subst he; obtain ⟨hc, hf⟩ := bcell hb; have hz : w.heap.size + 1 < w1.heap.size := (by have := hb.size; simp at this; omega); have g01 : w1.cell? ⟨w.heap.size, 1, none⟩ = some (.int .i64 o) := below_keeps hb (by simp [World.cell?_alloc_lt]); have g10 : w1.cell? ⟨w.heap.size + 1, 0, none⟩ = some (.int .i64 4) := below_keeps hb (by simp [World.cell?_alloc_lt]); have g11 : w1.cell? ⟨w.heap.size + 1, 1, none⟩ = some (.int .i64 o) := below_keeps hb (by simp [World.cell?_alloc_lt]); have g12 : w1.cell? ⟨w.heap.size + 1, 2, none⟩ = some (.int .i64 0) := below_keeps hb (by simp [World.cell?_alloc_lt]); have g13 : w1.cell? ⟨w.heap.size + 1, 3, none⟩ = some (.string (strOf [])) := below_keeps hb (by simp [World.cell?_alloc_lt]); have g14 : w1.cell? ⟨w.heap.size + 1, 4, none⟩ = some (.slice none 0 0) := below_keeps hb (by simp [World.cell?_alloc_lt])))
  go_wp2_with fail
  all_goals (refine bodyPost_ret (v := .tuple #[.agg #[.int .i64 4, .int .i64 o, .int .i64 0, .string (strOf []), .slice none 0 0], .int .i64 2, .bool (decide (0 < levelOf o))]) (by simp [results, Tryz.results122, go_sem, hc]) rfl ⟨rfl, ?_⟩)
  all_goals (repeat (refine Below.setCell ?_ (by simp) _))
  all_goals (exact (((Below.refl _ _).alloc (Nat.le_refl _) _).alloc (by simp) _).drew.trans (hb.mono (by simp; omega)))
theorem only_call (o n : Int) (nm : Bs) (a : Option Addr) (len cap : Nat) (hn : isName nm = true) (w : World) :
    Calls Tryz.prog 122 #[.agg #[.int .i64 5, .int .i64 o, .int .i64 n, .string (strOf nm), .slice a len cap]] w fun r w' => r = .returned (.tuple #[.agg #[.int .i64 5, .int .i64 0, .int .i64 0, .string (strOf nm), .slice none 0 0], .int .i64 len, .bool (decide ((len : Int) ≤ 6))]) ∧ Below w.heap.size w w' := by
  go_enter Tryz.func122, Tryz.ntmps122
  go_wp2_with fail
  go_region_held3 (fun w' => w'.cell? ⟨w.heap.size, 3, none⟩ = some (.string (strOf nm)) ∧ w'.cell? ⟨w.heap.size, 4, none⟩ = some (.slice a len cap) ∧ w'.cell? ⟨w.heap.size + 1, 0, none⟩ = some (.int .i64 5) ∧ w'.cell? ⟨w.heap.size + 1, 1, none⟩ = some (.int .i64 0) ∧ w'.cell? ⟨w.heap.size + 1, 2, none⟩ = some (.int .i64 0) ∧ w'.cell? ⟨w.heap.size + 1, 3, none⟩ = some (.string (strOf nm)) ∧ w'.cell? ⟨w.heap.size + 1, 4, none⟩ = some (.slice none 0 0)) (first | (simp [*, setCell_self, World.cell?_alloc_lt]; done) | go_keep) (first | (go_at_call 112; refine (name_any _ _).mono ?_; rintro e w1 ⟨he, hb⟩; rw [hn] at he; subst he; obtain ⟨hc, hf⟩ := bcell hb; have hz : w.heap.size + 1 < w1.heap.size := (by have := hb.size; simp at this; omega); have g03 : w1.cell? ⟨w.heap.size, 3, none⟩ = some (.string (strOf nm)) := below_keeps hb (by simp [World.cell?_alloc_lt]); have g04 : w1.cell? ⟨w.heap.size, 4, none⟩ = some (.slice a len cap) := below_keeps hb (by simp [World.cell?_alloc_lt]); have g10 : w1.cell? ⟨w.heap.size + 1, 0, none⟩ = some (.int .i64 5) := below_keeps hb (by simp [World.cell?_alloc_lt]); have g11 : w1.cell? ⟨w.heap.size + 1, 1, none⟩ = some (.int .i64 0) := below_keeps hb (by simp [World.cell?_alloc_lt]); have g12 : w1.cell? ⟨w.heap.size + 1, 2, none⟩ = some (.int .i64 0) := below_keeps hb (by simp [World.cell?_alloc_lt]); have g13 : w1.cell? ⟨w.heap.size + 1, 3, none⟩ = some (.string (strOf nm)) := below_keeps hb (by simp [World.cell?_alloc_lt]); have g14 : w1.cell? ⟨w.heap.size + 1, 4, none⟩ = some (.slice none 0 0) := below_keeps hb (by simp [World.cell?_alloc_lt])))
  go_wp2_with fail
  all_goals (refine bodyPost_ret (v := .tuple #[.agg #[.int .i64 5, .int .i64 0, .int .i64 0, .string (strOf nm), .slice none 0 0], .int .i64 len, .bool (decide ((len : Int) ≤ 6))]) (by simp [results, Tryz.results122, go_sem, hc]) rfl ⟨rfl, ?_⟩)
  all_goals (repeat (refine Below.setCell ?_ (by simp) _))
  all_goals (exact (((Below.refl _ _).alloc (Nat.le_refl _) _).alloc (by simp) _).drew.trans (hb.mono (by simp; omega)))
theorem only_call0 (o n : Int) (nm : Bs) (a : Option Addr) (len cap : Nat) (hn : isName nm = false) (w : World) :
    Calls Tryz.prog 122 #[.agg #[.int .i64 5, .int .i64 o, .int .i64 n, .string (strOf nm), .slice a len cap]] w fun r w' => r = .returned (.tuple #[.agg #[.int .i64 5, .int .i64 0, .int .i64 0, .string (strOf nm), .slice none 0 0], .int .i64 len, .bool false]) ∧ Below w.heap.size w w' := by
  go_enter Tryz.func122, Tryz.ntmps122
  go_wp2_with fail
  refine wp_region_held_drew (S := (fun w' => w'.cell? ⟨w.heap.size, 3, none⟩ = some (.string (strOf nm)) ∧ w'.cell? ⟨w.heap.size, 4, none⟩ = some (.slice a len cap) ∧ w'.cell? ⟨w.heap.size + 1, 0, none⟩ = some (.int .i64 5) ∧ w'.cell? ⟨w.heap.size + 1, 1, none⟩ = some (.int .i64 0) ∧ w'.cell? ⟨w.heap.size + 1, 2, none⟩ = some (.int .i64 0) ∧ w'.cell? ⟨w.heap.size + 1, 3, none⟩ = some (.string (strOf nm)) ∧ w'.cell? ⟨w.heap.size + 1, 4, none⟩ = some (.slice none 0 0))) (by kernel_rfl) ?_ (fun hHeld => ?_)
  · (first | (simp [*, setCell_self, World.cell?_alloc_lt]; done) | go_keep)
  refine wpAnyH_take (i := 0) (v := ?_) rfl (by kernel_rfl) (by kernel_rfl) (by kernel_rfl) (fun _ _ _ h => h) (Or.inl ⟨rfl, ?_⟩) (by assumption) ?_
  rotate_left 1
  · intro w hSw; (try dsimp only at hSw); go_simp; (try with_reducible rfl)
  (try simp only [Act.put, List.setIfInBounds_toArray, List.set_cons_zero, List.set_cons_succ])
  refine wpAnyH_take (i := 1) (v := ?_) rfl (by kernel_rfl) (by kernel_rfl) (by kernel_rfl) (fun _ _ _ h => h) (Or.inl ⟨rfl, ?_⟩) (by assumption) ?_
  rotate_left 1
  · intro w hSw; (try dsimp only at hSw); go_simp; (try with_reducible rfl)
  (try simp only [Act.put, List.setIfInBounds_toArray, List.set_cons_zero, List.set_cons_succ])
  refine wpAnyH_take (i := 2) (v := ?_) rfl (by kernel_rfl) (by kernel_rfl) (by kernel_rfl) (fun _ _ _ h => h) (Or.inl ⟨rfl, ?_⟩) (by assumption) ?_
  rotate_left 1
  · intro w hSw; (try dsimp only at hSw); go_simp; (try with_reducible rfl)
  (try simp only [Act.put, List.setIfInBounds_toArray, List.set_cons_zero, List.set_cons_succ])
  refine wpAnyH_take (i := 3) (v := ?_) rfl (by kernel_rfl) (by kernel_rfl) (by kernel_rfl) (fun _ _ _ h => h) (Or.inl ⟨rfl, ?_⟩) (by assumption) ?_
  rotate_left 1
  · intro w hSw; (try dsimp only at hSw); go_simp; (try with_reducible rfl)
  (try simp only [Act.put, List.setIfInBounds_toArray, List.set_cons_zero, List.set_cons_succ])
  refine wpAnyH_take (i := 4) (v := ?_) rfl (by kernel_rfl) (by kernel_rfl) (by kernel_rfl) (fun _ _ _ h => h) (Or.inl ⟨rfl, ?_⟩) (by assumption) ?_
  rotate_left 1
  · intro w hSw; (try dsimp only at hSw); go_simp; (try with_reducible rfl)
  (try simp only [Act.put, List.setIfInBounds_toArray, List.set_cons_zero, List.set_cons_succ])
  refine wpAnyH_take (i := 5) (v := ?_) rfl (by kernel_rfl) (by kernel_rfl) (by kernel_rfl) (fun _ _ _ h => h) (Or.inl ⟨rfl, ?_⟩) (by assumption) ?_
  rotate_left 1
  · intro w hSw; (try dsimp only at hSw); go_simp; (try with_reducible rfl)
  (try simp only [Act.put, List.setIfInBounds_toArray, List.set_cons_zero, List.set_cons_succ])
  refine wpAnyH_ready (rs := [6]) (by kernel_rfl) (by simp) ?_
  refine AllReadyH.cons rfl (fun K hK => ?_) AllReadyH.nil
  (try simp only [List.getElem_toArray, List.getElem_cons_succ, List.getElem_cons_zero])
  go_simp; go_at_call 112; refine (name_any _ _).mono ?_; rintro e w1 ⟨he, hb⟩; rw [hn] at he; subst he; obtain ⟨hc, hf⟩ := bcell hb; have hz : w.heap.size + 1 < w1.heap.size := (by have := hb.size; simp at this; omega); have g03 : w1.cell? ⟨w.heap.size, 3, none⟩ = some (.string (strOf nm)) := below_keeps hb (by simp [World.cell?_alloc_lt]); have g04 : w1.cell? ⟨w.heap.size, 4, none⟩ = some (.slice a len cap) := below_keeps hb (by simp [World.cell?_alloc_lt]); have g10 : w1.cell? ⟨w.heap.size + 1, 0, none⟩ = some (.int .i64 5) := below_keeps hb (by simp [World.cell?_alloc_lt]); have g11 : w1.cell? ⟨w.heap.size + 1, 1, none⟩ = some (.int .i64 0) := below_keeps hb (by simp [World.cell?_alloc_lt]); have g12 : w1.cell? ⟨w.heap.size + 1, 2, none⟩ = some (.int .i64 0) := below_keeps hb (by simp [World.cell?_alloc_lt]); have g13 : w1.cell? ⟨w.heap.size + 1, 3, none⟩ = some (.string (strOf nm)) := below_keeps hb (by simp [World.cell?_alloc_lt]); have g14 : w1.cell? ⟨w.heap.size + 1, 4, none⟩ = some (.slice none 0 0) := below_keeps hb (by simp [World.cell?_alloc_lt])
  refine hK.out _ _ ?_ (fun hHeld => ?_)
  · (try dsimp only); (first | (simp [*, setCell_self, World.cell?_alloc_lt]; done) | go_keep)
  clear hK K
  (try simp only [Act.put, List.setIfInBounds_toArray, List.set_cons_zero, List.set_cons_succ])
  refine wpAnyH_take (i := 7) (v := ?_) rfl (by kernel_rfl) (by kernel_rfl) (by kernel_rfl) (fun _ _ _ h => h) (Or.inl ⟨rfl, ?_⟩) (by assumption) ?_
  rotate_left 1
  · intro w hSw; (try dsimp only at hSw); go_simp; (try with_reducible rfl)
  (try simp only [Act.put, List.setIfInBounds_toArray, List.set_cons_zero, List.set_cons_succ])
  refine wpAnyH_take (i := 8) rfl (by kernel_rfl) (by kernel_rfl) (by kernel_rfl) (fun _ _ _ h => h) (Or.inr ⟨rfl, rfl⟩) (by assumption) ?_
  (try simp only [Act.put, List.setIfInBounds_toArray, List.set_cons_zero, List.set_cons_succ])
  refine wpAnyH_take (i := 9) rfl (by kernel_rfl) (by kernel_rfl) (by kernel_rfl) (fun _ _ _ h => h) (Or.inr ⟨rfl, rfl⟩) (by assumption) ?_
  (try simp only [Act.put, List.setIfInBounds_toArray, List.set_cons_zero, List.set_cons_succ])
  refine wpAnyH_take (i := 10) rfl (by kernel_rfl) (by kernel_rfl) (by kernel_rfl) (fun _ _ _ h => h) (Or.inr ⟨rfl, rfl⟩) (by assumption) ?_
  (try simp only [Act.put, List.setIfInBounds_toArray, List.set_cons_zero, List.set_cons_succ])
  refine wpAnyH_take (i := 11) rfl (by kernel_rfl) (by kernel_rfl) (by kernel_rfl) (fun _ _ _ h => h) (Or.inr ⟨rfl, rfl⟩) (by assumption) ?_
  (try simp only [Act.put, List.setIfInBounds_toArray, List.set_cons_zero, List.set_cons_succ])
  refine wpAnyH_take (i := 12) (v := ?_) rfl (by kernel_rfl) (by kernel_rfl) (by kernel_rfl) (fun _ _ _ h => h) (Or.inl ⟨rfl, ?_⟩) (by assumption) ?_
  rotate_left 1
  · intro w hSw; (try dsimp only at hSw); go_simp; (try with_reducible rfl)
  (try simp only [Act.put, List.setIfInBounds_toArray, List.set_cons_zero, List.set_cons_succ])
  refine wpAnyH_ready (rs := [13]) (by kernel_rfl) (by simp) ?_
  refine AllReadyH.cons rfl (fun K hK => ?_) AllReadyH.nil
  (try simp only [List.getElem_toArray, List.getElem_cons_succ, List.getElem_cons_zero])
  go_simp
  refine hK.out _ _ ?_ (fun hHeld => ?_)
  · (try dsimp only); (first | (simp [*, setCell_self, World.cell?_alloc_lt]; done) | go_keep)
  clear hK K
  (try simp only [Act.put, List.setIfInBounds_toArray, List.set_cons_zero, List.set_cons_succ])
  refine wpAnyH_ready (rs := [14]) (by kernel_rfl) (by simp) ?_
  refine AllReadyH.cons rfl (fun K hK => ?_) AllReadyH.nil
  (try simp only [List.getElem_toArray, List.getElem_cons_succ, List.getElem_cons_zero])
  go_simp
  refine hK.out _ _ ?_ (fun hHeld => ?_)
  · (try dsimp only); (first | (simp [*, setCell_self, World.cell?_alloc_lt]; done) | go_keep)
  clear hK K
  (try simp only [Act.put, List.setIfInBounds_toArray, List.set_cons_zero, List.set_cons_succ])
  refine wpAnyH_ready (rs := [15]) (by kernel_rfl) (by simp) ?_
  refine AllReadyH.cons rfl (fun K hK => ?_) AllReadyH.nil
  (try simp only [List.getElem_toArray, List.getElem_cons_succ, List.getElem_cons_zero])
  go_simp
  refine hK.out _ _ ?_ (fun hHeld => ?_)
  · (try dsimp only); (first | (simp [*, setCell_self, World.cell?_alloc_lt]; done) | go_keep)
  clear hK K
  (try simp only [Act.put, List.setIfInBounds_toArray, List.set_cons_zero, List.set_cons_succ])
  refine wpAnyH_done (by kernel_rfl) ?_ _
  go_wp2_with fail
  all_goals (refine bodyPost_ret (v := .tuple #[.agg #[.int .i64 5, .int .i64 0, .int .i64 0, .string (strOf nm), .slice none 0 0], .int .i64 len, .bool false]) (by simp [results, Tryz.results122, go_sem, hc]) rfl ⟨rfl, ?_⟩)
  all_goals (repeat (refine Below.setCell ?_ (by simp) _))
  all_goals (exact (((Below.refl _ _).alloc (Nat.le_refl _) _).alloc (by simp) _).drew.trans (hb.mono (by simp; omega)))
theorem only_index (o n : Int) (nm : Bs) (s : Value) (w : World) :
    Calls Tryz.prog 122 #[.agg #[.int .i64 6, .int .i64 o, .int .i64 n, .string (strOf nm), s]] w fun r w' => r = .returned (.tuple #[.agg #[.int .i64 6, .int .i64 0, .int .i64 0, .string (strOf nm), .slice none 0 0], .int .i64 1, .bool (isName nm)]) ∧ Below w.heap.size w w' := by
  go_enter Tryz.func122, Tryz.ntmps122
  go_wp2_with fail
  go_region_held3 (fun w' => w'.cell? ⟨w.heap.size, 3, none⟩ = some (.string (strOf nm)) ∧ w'.cell? ⟨w.heap.size + 1, 0, none⟩ = some (.int .i64 6) ∧ w'.cell? ⟨w.heap.size + 1, 1, none⟩ = some (.int .i64 0) ∧ w'.cell? ⟨w.heap.size + 1, 2, none⟩ = some (.int .i64 0) ∧ w'.cell? ⟨w.heap.size + 1, 3, none⟩ = some (.string (strOf nm)) ∧ w'.cell? ⟨w.heap.size + 1, 4, none⟩ = some (.slice none 0 0)) (first | (simp [*, setCell_self, World.cell?_alloc_lt]; done) | go_keep) (first | (go_at_call 112; refine (name_any _ _).mono ?_; rintro e w1 ⟨he, hb⟩; subst he; obtain ⟨hc, hf⟩ := bcell hb; have hz : w.heap.size + 1 < w1.heap.size := (by have := hb.size; simp at this; omega); have g03 : w1.cell? ⟨w.heap.size, 3, none⟩ = some (.string (strOf nm)) := below_keeps hb (by simp [World.cell?_alloc_lt]); have g10 : w1.cell? ⟨w.heap.size + 1, 0, none⟩ = some (.int .i64 6) := below_keeps hb (by simp [World.cell?_alloc_lt]); have g11 : w1.cell? ⟨w.heap.size + 1, 1, none⟩ = some (.int .i64 0) := below_keeps hb (by simp [World.cell?_alloc_lt]); have g12 : w1.cell? ⟨w.heap.size + 1, 2, none⟩ = some (.int .i64 0) := below_keeps hb (by simp [World.cell?_alloc_lt]); have g13 : w1.cell? ⟨w.heap.size + 1, 3, none⟩ = some (.string (strOf nm)) := below_keeps hb (by simp [World.cell?_alloc_lt]); have g14 : w1.cell? ⟨w.heap.size + 1, 4, none⟩ = some (.slice none 0 0) := below_keeps hb (by simp [World.cell?_alloc_lt])))
  go_wp2_with fail
  all_goals (refine bodyPost_ret (v := .tuple #[.agg #[.int .i64 6, .int .i64 0, .int .i64 0, .string (strOf nm), .slice none 0 0], .int .i64 1, .bool (isName nm)]) (by simp [results, Tryz.results122, go_sem, hc]) rfl ⟨rfl, ?_⟩)
  all_goals (repeat (refine Below.setCell ?_ (by simp) _))
  all_goals (exact (((Below.refl _ _).alloc (Nat.le_refl _) _).alloc (by simp) _).drew.trans (hb.mono (by simp; omega)))
theorem only_read (o n : Int) (nm : Bs) (s : Value) (w : World) :
    Calls Tryz.prog 122 #[.agg #[.int .i64 7, .int .i64 o, .int .i64 n, .string (strOf nm), s]] w fun r w' => r = .returned (.tuple #[.agg #[.int .i64 7, .int .i64 0, .int .i64 0, .string (strOf []), .slice none 0 0], .int .i64 0, .bool true]) ∧ Below w.heap.size w w' := by
  go_enter Tryz.func122, Tryz.ntmps122
  go_wp2_with fail
  all_goals (refine bodyPost_ret (v := .tuple #[.agg #[.int .i64 7, .int .i64 0, .int .i64 0, .string (strOf []), .slice none 0 0], .int .i64 0, .bool true]) (by simp [results, Tryz.results122, go_sem]) rfl ⟨rfl, ?_⟩)
  all_goals (repeat (first | exact Below.refl _ _ | refine Below.setCell ?_ (by simp) _ | refine Below.drew ?_ | refine Below.alloc ?_ (by simp) _))

theorem only_other (k : Int) (h1 : (k == 1) = false) (h2 : (k == 2) = false) (h3 : (k == 3) = false) (h4 : (k == 4) = false) (h5 : (k == 5) = false) (h6 : (k == 6) = false) (h7 : (k == 7) = false) (o n : Int) (nm : Bs) (s : Value) (w : World) :
    Calls Tryz.prog 122 #[.agg #[.int .i64 k, .int .i64 o, .int .i64 n, .string (strOf nm), s]] w fun r w' => r = .returned (.tuple #[.agg #[.int .i64 k, .int .i64 0, .int .i64 0, .string (strOf []), .slice none 0 0], .int .i64 0, .bool false]) ∧ Below w.heap.size w w' := by
  go_enter Tryz.func122, Tryz.ntmps122
  go_wp2_with fail
  all_goals (refine bodyPost_ret (v := .tuple #[.agg #[.int .i64 k, .int .i64 0, .int .i64 0, .string (strOf []), .slice none 0 0], .int .i64 0, .bool false]) (by simp [results, Tryz.results122, go_sem]) rfl ⟨rfl, ?_⟩)
  all_goals (repeat (first | exact Below.refl _ _ | refine Below.setCell ?_ (by simp) _ | refine Below.drew ?_ | refine Below.alloc ?_ (by simp) _))

end Go.Proofs.YtcfpfnoldgnloaaGreatDoor

namespace Go.Proofs.YtcfpfnoldgnloaaGreatDoor
open Go.RowKit
set_option maxHeartbeats 1000000
set_option maxRecDepth 20000

theorem only_any (e : Ex) (a : Option Addr) (cap : Nat) (w : World) :
    Calls Tryz.prog 122 #[exV e (.slice a e.args.length cap)] w fun r w' => r = .returned (.tuple #[.agg #[.int .i64 e.kind, .int .i64 (onlyOp e), .int .i64 (onlyN e), .string (strOf (onlyName e)), .slice none 0 0], .int .i64 (onlyArgs e), .bool (onlyOk e)]) ∧ Below w.heap.size w w' := by
  obtain ⟨k, o, n, nm, args⟩ := e
  show Calls _ _ #[.agg #[.int .i64 k, .int .i64 o, .int .i64 n, .string (strOf nm), .slice a args.length cap]] _ _
  have key : ∀ {R R' : Ending → World → Prop}, R = R' → Calls Tryz.prog 122 #[.agg #[.int .i64 k, .int .i64 o, .int .i64 n, .string (strOf nm), .slice a args.length cap]] w R → Calls Tryz.prog 122 #[.agg #[.int .i64 k, .int .i64 o, .int .i64 n, .string (strOf nm), .slice a args.length cap]] w R' := fun h => h ▸ id
  by_cases h1 : k = 1
  · subst h1; exact only_num _ _ _ _ _
  by_cases h2 : k = 2
  · subst h2; exact only_var _ _ _ _ _
  by_cases h3 : k = 3
  · subst h3
    by_cases q1 : o = 17
    · subst q1; exact only_one17 _ _ _ _
    by_cases q2 : o = 18
    · subst q2; exact only_one18 _ _ _ _
    by_cases q3 : o = 19
    · subst q3; exact only_one19 _ _ _ _
    refine key ?_ (only_one o n nm _ w q1 q2 q3)
    simp [onlyOp, onlyN, onlyName, onlyArgs, onlyOk, Ex.kind, Ex.op, q1, q2, q3]
  by_cases h4 : k = 4
  · subst h4; exact only_two _ _ _ _ _
  by_cases h5 : k = 5
  · subst h5
    cases hn : isName nm
    · refine key ?_ (only_call0 o n nm a args.length cap hn w)
      simp [onlyOp, onlyN, onlyName, onlyArgs, onlyOk, Ex.kind, Ex.name, Ex.args, hn]
    · refine key ?_ (only_call o n nm a args.length cap hn w)
      simp [onlyOp, onlyN, onlyName, onlyArgs, onlyOk, Ex.kind, Ex.name, Ex.args, hn]; rfl
  by_cases h6 : k = 6
  · subst h6; exact only_index _ _ _ _ _
  by_cases h7 : k = 7
  · subst h7; exact only_read _ _ _ _ _
  refine key ?_ (only_other k (by simpa using h1) (by simpa using h2) (by simpa using h3) (by simpa using h4) (by simpa using h5) (by simpa using h6) (by simpa using h7) o n nm _ w)
  simp [onlyOp, onlyN, onlyName, onlyArgs, onlyOk, Ex.kind, h1, h2, h3, h4, h5, h6, h7]

def WellOf (e : Ex) : Prop := ∀ (D : Nat → Prop) (s : Value) (w : World), ExsAt D w e.args s →
  Calls Tryz.prog 62 #[exV e s] w fun r w' => r = .returned (.bool (wellOk e)) ∧ Below w.heap.size w w'
theorem well_fn (e : Ex) (ih : WellOf e) (D : Nat → Prop) (s : Value) (w : World) (h : ExsAt D w e.args s) :
    Calls Tryz.prog 123 #[exV e s] w fun r w' => r = .returned (.bool (!wellOk e)) ∧ Below w.heap.size w w' := by
  have H := Lib.hid h; clear h
  have IH := Lib.hid ih; clear ih
  go_enter Tryz.func123, Tryz.ntmps123
  go_wp2_with fail
  refine (IH.out D s _ (H.out.old ((Below.refl _ _).alloc (Nat.le_refl _) _))).mono ?_
  rintro r w1 ⟨rfl, hb⟩
  go_wp2_with fail
  go_ret
  exact ⟨rfl, ((Below.refl _ _).alloc (Nat.le_refl _) _).trans (hb.mono (by simp))⟩

theorem well_step (e : Ex) (ih : ∀ x, x ∈ e.args → WellOf x) : WellOf e := by
  intro D s w h
  have H := Lib.hid h
  have IH := Lib.hid ih; clear ih
  generalize hl : e.args = l at h
  cases h with
  | mk _ a cap b off sv hcap hfit ha h0 h1 h2 h3 h4 hs =>
    subst hl
    clear hcap hfit ha h0 h1 h2 h3 h4 hs
    have HO := Lib.hid (only_any e a cap ((w.alloc (.cells #[.int .i64 e.kind, .int .i64 e.op, .int .i64 e.n, .string (strOf e.name), .slice a e.args.length cap] 27))))
    go_enter Tryz.func62, Tryz.ntmps62
    go_wp2_with fail
    refine HO.out.mono ?_
    rintro r w1 ⟨rfl, hb⟩
    obtain ⟨hc, hf⟩ := bcell hb
    have hz : w.heap.size < w1.heap.size := by have := hb.size; simp at this; omega
    go_wp2_with fail
    · refine (contains_exs 123 #[] Tryz.call123 e.args _ D _ (((H.out.old ((Below.refl _ _).alloc (Nat.le_refl _) _)).old hb).old ((Below.refl _ _).alloc (Nat.le_refl _) _)) (fun x => !wellOk x) ?_).mono ?_
      · intro x s' w2 hx _ hs
        exact well_fn x (IH.out x hx) D s' w2 hs
      · rintro r w2 ⟨rfl, hb2⟩
        go_wp2_with fail
        go_ret
        refine ⟨ret_bool ?_, ((((Below.refl _ _).alloc (Nat.le_refl _) _).trans (hb.mono (by simp))).alloc (by omega) _).trans (hb2.mono (by simp; omega))⟩
        rw [wellOk_eq]; simp [wellHere, *, List.any_eq_not_all_not]
    all_goals
      go_ret
      refine ⟨ret_bool ?_, (((Below.refl _ _).alloc (Nat.le_refl _) _).trans (hb.mono (by simp))).alloc (by omega) _⟩
      rw [wellOk_eq]; simp [wellHere, *]

theorem well_any : ∀ (n : Nat) (e : Ex), SizeOf.sizeOf e ≤ n → WellOf e
  | 0, e, h => by cases e; simp at h
  | n + 1, e, h => well_step e fun x hx => well_any n x (by have := Ex.size_lt hx; omega)

/-- tree.RightExpr. -/
theorem rightExpr_any (e : Ex) (D : Nat → Prop) (s : Value) (w : World) (h : ExsAt D w e.args s) :
    Calls Tryz.prog 28 #[exV e s] w fun r w' => r = .returned (.bool (rightEx e)) ∧ Below w.heap.size w w' := by
  have H := Lib.hid h; clear h
  have E : Hid (rightEx e = (deepOk 40 e && wellOk e)) := rfl
  go_enter Tryz.func28, Tryz.ntmps28
  go_wp2_with fail
  refine (deep_any 40 (by omega) D e s _ (H.out.old ((Below.refl _ _).alloc (Nat.le_refl _) _))).mono ?_
  rintro r w1 ⟨rfl, hb⟩
  obtain ⟨hc, hf⟩ := bcell hb
  cases hd : deepOk 40 e
  · have HD := Lib.hid hd; clear hd
    go_wp2_with fail
    go_ret
    exact ⟨ret_bool (by rw [E.out, HD.out]; rfl), ((Below.refl _ _).alloc (Nat.le_refl _) _).trans (hb.mono (by simp))⟩
  · have HD := Lib.hid hd; clear hd
    go_wp2_with fail
    refine (well_any _ e (Nat.le_refl _) D s _ ((H.out.old ((Below.refl _ _).alloc (Nat.le_refl _) _)).old hb)).mono ?_
    rintro r w2 ⟨rfl, hb2⟩
    go_wp2_with fail
    go_ret
    exact ⟨ret_bool (by rw [E.out, HD.out]; rfl), ((Below.refl _ _).alloc (Nat.le_refl _) _).trans ((hb.mono (by simp)).trans (hb2.mono (by have := hb.size; simp at this; omega)))⟩
end Go.Proofs.YtcfpfnoldgnloaaGreatDoor
