/-
  Which expressions and programs may be: what tree's functions answer of trees in memory. No condition beside the trees' cells.
  What tree.only answers of an expression, a kind each. No condition.
  tree.only, tree.well and tree.RightExpr, of every expression in memory. No condition beside the cells.
  tree.formOf, tree.stmt, tree.stmts: which statements may be. No condition beside the cells.
  tree.named and tree.Right: which programs may be. No condition beside the cells.
-/
import Derived.Test.YtcfpfnoldgnloaaGreatDoorTreeA
import Derived.Test.YtcfpfnoldgnloaaGreatDoorCells
import Derived.Test.YtcfpfnoldgnloaaGreatDoorTreeB
set_option linter.unusedVariables false
set_option linter.unusedSimpArgs false
namespace Go.Proofs.YtcfpfnoldgnloaaGreatDoor
open Go.RowKit
set_option maxHeartbeats 400000
set_option maxRecDepth 20000

theorem exAt_mem {l : List Ex} {i : Nat} (h : i < l.length) : exAt l i ∈ l := by
  simp only [exAt, List.getD_eq_getElem?_getD, List.getElem?_eq_getElem h, Option.getD_some]; exact List.getElem_mem h
theorem exAt_get {l : List Ex} {i : Nat} (h : i < l.length) : exAt l i = l[i] := by
  simp [exAt, List.getElem?_eq_getElem h]
theorem stAt_mem {l : List St} {i : Nat} (h : i < l.length) : stAt l i ∈ l := by
  simp only [stAt, List.getD_eq_getElem?_getD, List.getElem?_eq_getElem h, Option.getD_some]; exact List.getElem_mem h
theorem stAt_get {l : List St} {i : Nat} (h : i < l.length) : stAt l i = l[i] := by
  simp [stAt, List.getElem?_eq_getElem h]

/-- slices.ContainsFunc over expressions in memory. -/
theorem contains_exs (k : FuncId) (caps : Array Value) (hk : ∀ args w, (callFunc k args).run Tryz.prog w = .ok (.enter k args) w) (l : List Ex) (s : Value) (D : Nat → Prop) (w : World) (h : ExsAt D w l s) (f : Ex → Bool)
    (hf : ∀ e s' w1, e ∈ l → Below w.heap.size w w1 → ExsAt D w1 e.args s' → Calls Tryz.prog k (#[exV e s'] ++ caps) w1 fun r w2 => r = .returned (.bool (f e)) ∧ Below w1.heap.size w1 w2) :
    Calls Tryz.prog 120 #[s, .func (.func k) #[] caps] w fun r w' => r = .returned (.bool (l.any f)) ∧ Below w.heap.size w w' := by
  cases h with
  | mk _ a cap b off sv hcap hfit ha h0 h1 h2 h3 h4 hs =>
    rw [← anyN_list f (fun i => f (exAt l i)) l (fun i hi => by rw [exAt_get hi])]
    refine containsFuncE a l.length cap k caps hk w (fun i => .int .i64 (exAt l i).kind) (fun i => .int .i64 (exAt l i).op) (fun i => .int .i64 (exAt l i).n) (fun i => .string (strOf (exAt l i).name)) sv (fun i => f (exAt l i)) (hfit).out ?_ ?_
    · rcases ha with ha | ⟨ha, _⟩
      · exact .inl ha
      · exact .inr ⟨b, off, ha, fun i hi => ⟨h0 i hi, h1 i hi, h2 i hi, h3 i hi, h4 i hi⟩⟩
    · intro i hi w1 hb
      exact hf (exAt l i) (sv i) w1 (exAt_mem hi) hb ((hs i hi).old hb)

abbrev stV (x : St) (a t e : Value) : Value := .agg #[.int .i64 x.kind, .string (strOf x.name), a, t, e]
/-- slices.ContainsFunc over statements in memory. -/
theorem contains_sts (k : FuncId) (caps : Array Value) (hk : ∀ args w, (callFunc k args).run Tryz.prog w = .ok (.enter k args) w) (l : List St) (s : Value) (D : Nat → Prop) (w : World) (h : StsAt D w l s) (f : St → Bool)
    (hf : ∀ x a t e w1, x ∈ l → Below w.heap.size w w1 → ExsAt D w1 x.args a → StsAt D w1 x.thn t → StsAt D w1 x.els e → Calls Tryz.prog k (#[stV x a t e] ++ caps) w1 fun r w2 => r = .returned (.bool (f x)) ∧ Below w1.heap.size w1 w2) :
    Calls Tryz.prog 113 #[s, .func (.func k) #[] caps] w fun r w' => r = .returned (.bool (l.any f)) ∧ Below w.heap.size w w' := by
  cases h with
  | mk _ a cap b off sa st se hcap hfit ha h0 h1 h2 h3 h4 ea et ee =>
    rw [← anyN_list f (fun i => f (stAt l i)) l (fun i hi => by rw [stAt_get hi])]
    refine containsFuncT a l.length cap k caps hk w (fun i => .int .i64 (stAt l i).kind) (fun i => .string (strOf (stAt l i).name)) sa st se (fun i => f (stAt l i)) (hfit).out ?_ ?_
    · rcases ha with ha | ⟨ha, _⟩
      · exact .inl ha
      · exact .inr ⟨b, off, ha, fun i hi => ⟨h0 i hi, h1 i hi, h2 i hi, h3 i hi, h4 i hi⟩⟩
    · intro i hi w1 hb
      exact hf (stAt l i) (sa i) (st i) (se i) w1 (stAt_mem hi) hb ((ea i hi).old hb) ((et i hi).old hb) ((ee i hi).old hb)

/-- The deep contract at a depth. -/
def DeepAt (m : Nat) : Prop := ∀ (D : Nat → Prop) (e : Ex) (s : Value) (w : World), ExsAt D w e.args s →
  Calls Tryz.prog 61 #[exV e s, .int .i64 m] w fun r w' => r = .returned (.bool (deepOk m e)) ∧ Below w.heap.size w w'

theorem deep_fn (m : Nat) (ih : DeepAt m) (D : Nat → Prop) (e : Ex) (s : Value) (w : World) (h : ExsAt D w e.args s) (B : Nat) (hB : w.cell? ⟨B, 0, none⟩ = some (.int .i64 (m + 1))) (hm : m ≤ 1000) :
    Calls Tryz.prog 121 #[exV e s, .pointer (some ⟨B, 0, none⟩)] w fun r w' => r = .returned (.bool (!deepOk m e)) ∧ Below w.heap.size w w' := by
  have H := Lib.hid h; clear h
  have hBl : B < w.heap.size := World.block_lt_of_cell? _ _ hB
  go_enter Tryz.func121, Tryz.ntmps121
  go_wp2_with fail
  refine (ih D e s _ (H.out.old ((Below.refl _ _).alloc (Nat.le_refl _) _))).mono ?_
  rintro r w1 ⟨rfl, hb⟩
  go_wp2_with fail
  go_ret
  exact ⟨rfl, ((Below.refl _ _).alloc (Nat.le_refl _) _).trans (hb.mono (by simp))⟩

theorem deep_any : ∀ m, m ≤ 1000 → DeepAt m
  | 0, _ => by
    intro D e s w _
    go_enter Tryz.func61, Tryz.ntmps61
    go_wp2_with fail
    go_ret
    exact ⟨rfl, ((Below.refl _ _).alloc (Nat.le_refl _) _).alloc (by simp) _⟩
  | m + 1, hm => by
    intro D e s w h
    have ih := Lib.hid (deep_any m (by omega))
    have H := Lib.hid h; clear h
    have hm' : (0 : Int) < (m : Int) + 1 := by omega
    go_enter Tryz.func61, Tryz.ntmps61
    go_wp2_with fail
    refine (contains_exs 121 _ Tryz.call121 e.args s D _ (H.out.old (((Below.refl _ _).alloc (Nat.le_refl _) _).alloc (by simp) _)) (fun x => !deepOk m x) ?_).mono ?_
    · intro x s' w1 _ hb hx
      exact deep_fn m ih.out D x s' w1 hx _ (below_keeps hb (by simp)) (by omega)
    · rintro r w1 ⟨rfl, hb⟩
      go_wp2_with fail
      go_ret
      exact ⟨ret_bool (by simp [deepOk, List.any_eq_not_all_not]), (((Below.refl _ _).alloc (Nat.le_refl _) _).alloc (by simp) _).trans (hb.mono (by simp; omega))⟩
end Go.Proofs.YtcfpfnoldgnloaaGreatDoor

namespace Go.Proofs.YtcfpfnoldgnloaaGreatDoor
open Go.RowKit
set_option maxHeartbeats 1000000
set_option maxRecDepth 20000

theorem only_num (o n : Int) (nm : Bs) (s : Value) (w : World) :
    Calls Tryz.prog 122 #[.agg #[.int .i64 1, .int .i64 o, .int .i64 n, .string (strOf nm), s]] w fun r w' => r = .returned (.tuple #[.agg #[.int .i64 1, .int .i64 0, .int .i64 n, .string (strOf []), .slice none 0 0], .int .i64 0, .bool (decide (0 ≤ n))]) ∧ Below w.heap.size w w' := by
  go_enter Tryz.func122, Tryz.ntmps122
  go_wp2_with fail
  go_region
  go_wp2_with fail
  all_goals (refine bodyPost_ret (v := .tuple #[.agg #[.int .i64 1, .int .i64 0, .int .i64 n, .string (strOf []), .slice none 0 0], .int .i64 0, .bool (decide (0 ≤ n))]) (by simp [results, Tryz.results122, go_sem]) rfl ⟨rfl, ?_⟩)
  all_goals (repeat (first | exact Below.refl _ _ | refine Below.setCell ?_ (by simp) _ | refine Below.drew ?_ | refine Below.alloc ?_ (by simp) _))

theorem only_var (o n : Int) (nm : Bs) (s : Value) (w : World) :
    Calls Tryz.prog 122 #[.agg #[.int .i64 2, .int .i64 o, .int .i64 n, .string (strOf nm), s]] w fun r w' => r = .returned (.tuple #[.agg #[.int .i64 2, .int .i64 0, .int .i64 0, .string (strOf nm), .slice none 0 0], .int .i64 0, .bool (isName nm)]) ∧ Below w.heap.size w w' := by
  go_enter Tryz.func122, Tryz.ntmps122
  go_wp2_with fail
  go_region_held3 (fun w' => w'.cell? ⟨w.heap.size, 3, none⟩ = some (.string (strOf nm)) ∧ w'.cell? ⟨w.heap.size + 1, 0, none⟩ = some (.int .i64 2) ∧ w'.cell? ⟨w.heap.size + 1, 1, none⟩ = some (.int .i64 0) ∧ w'.cell? ⟨w.heap.size + 1, 2, none⟩ = some (.int .i64 0) ∧ w'.cell? ⟨w.heap.size + 1, 3, none⟩ = some (.string (strOf nm)) ∧ w'.cell? ⟨w.heap.size + 1, 4, none⟩ = some (.slice none 0 0)) (first | (simp [*, setCell_self, World.cell?_alloc_lt]; done) | go_keep) (first | (go_at_call 112; refine (name_any _ _).mono ?_; rintro e w1 ⟨he, hb⟩; subst he; obtain ⟨hc, hf⟩ := bcell hb; have hz : w.heap.size + 1 < w1.heap.size := (by have := hb.size; simp at this; omega); have g03 : w1.cell? ⟨w.heap.size, 3, none⟩ = some (.string (strOf nm)) := below_keeps hb (by simp [World.cell?_alloc_lt]); have g10 : w1.cell? ⟨w.heap.size + 1, 0, none⟩ = some (.int .i64 2) := below_keeps hb (by simp [World.cell?_alloc_lt]); have g11 : w1.cell? ⟨w.heap.size + 1, 1, none⟩ = some (.int .i64 0) := below_keeps hb (by simp [World.cell?_alloc_lt]); have g12 : w1.cell? ⟨w.heap.size + 1, 2, none⟩ = some (.int .i64 0) := below_keeps hb (by simp [World.cell?_alloc_lt]); have g13 : w1.cell? ⟨w.heap.size + 1, 3, none⟩ = some (.string (strOf nm)) := below_keeps hb (by simp [World.cell?_alloc_lt]); have g14 : w1.cell? ⟨w.heap.size + 1, 4, none⟩ = some (.slice none 0 0) := below_keeps hb (by simp [World.cell?_alloc_lt])))
  go_wp2_with fail
  all_goals (refine bodyPost_ret (v := .tuple #[.agg #[.int .i64 2, .int .i64 0, .int .i64 0, .string (strOf nm), .slice none 0 0], .int .i64 0, .bool (isName nm)]) (by simp [results, Tryz.results122, go_sem, hc]) rfl ⟨rfl, ?_⟩)
  all_goals (repeat (refine Below.setCell ?_ (by simp) _))
  all_goals (exact (((Below.refl _ _).alloc (Nat.le_refl _) _).alloc (by simp) _).drew.trans (hb.mono (by simp; omega)))
theorem only_one17 (n : Int) (nm : Bs) (s : Value) (w : World) :
    Calls Tryz.prog 122 #[.agg #[.int .i64 3, .int .i64 17, .int .i64 n, .string (strOf nm), s]] w fun r w' => r = .returned (.tuple #[.agg #[.int .i64 3, .int .i64 17, .int .i64 0, .string (strOf []), .slice none 0 0], .int .i64 1, .bool true]) ∧ Below w.heap.size w w' := by
  go_enter Tryz.func122, Tryz.ntmps122
  go_wp2_with fail
  go_region
  go_wp2_with fail
  all_goals (refine bodyPost_ret (v := .tuple #[.agg #[.int .i64 3, .int .i64 17, .int .i64 0, .string (strOf []), .slice none 0 0], .int .i64 1, .bool true]) (by simp [results, Tryz.results122, go_sem]) rfl ⟨rfl, ?_⟩)
  all_goals (repeat (first | exact Below.refl _ _ | refine Below.setCell ?_ (by simp) _ | refine Below.drew ?_ | refine Below.alloc ?_ (by simp) _))

theorem only_one18 (n : Int) (nm : Bs) (s : Value) (w : World) :
    Calls Tryz.prog 122 #[.agg #[.int .i64 3, .int .i64 18, .int .i64 n, .string (strOf nm), s]] w fun r w' => r = .returned (.tuple #[.agg #[.int .i64 3, .int .i64 18, .int .i64 0, .string (strOf []), .slice none 0 0], .int .i64 1, .bool true]) ∧ Below w.heap.size w w' := by
  go_enter Tryz.func122, Tryz.ntmps122
  go_wp2_with fail
  go_region
  go_wp2_with fail
  all_goals (refine bodyPost_ret (v := .tuple #[.agg #[.int .i64 3, .int .i64 18, .int .i64 0, .string (strOf []), .slice none 0 0], .int .i64 1, .bool true]) (by simp [results, Tryz.results122, go_sem]) rfl ⟨rfl, ?_⟩)
  all_goals (repeat (first | exact Below.refl _ _ | refine Below.setCell ?_ (by simp) _ | refine Below.drew ?_ | refine Below.alloc ?_ (by simp) _))

theorem only_one19 (n : Int) (nm : Bs) (s : Value) (w : World) :
    Calls Tryz.prog 122 #[.agg #[.int .i64 3, .int .i64 19, .int .i64 n, .string (strOf nm), s]] w fun r w' => r = .returned (.tuple #[.agg #[.int .i64 3, .int .i64 19, .int .i64 0, .string (strOf []), .slice none 0 0], .int .i64 1, .bool true]) ∧ Below w.heap.size w w' := by
  go_enter Tryz.func122, Tryz.ntmps122
  go_wp2_with fail
  go_region
  go_wp2_with fail
  all_goals (refine bodyPost_ret (v := .tuple #[.agg #[.int .i64 3, .int .i64 19, .int .i64 0, .string (strOf []), .slice none 0 0], .int .i64 1, .bool true]) (by simp [results, Tryz.results122, go_sem]) rfl ⟨rfl, ?_⟩)
  all_goals (repeat (first | exact Below.refl _ _ | refine Below.setCell ?_ (by simp) _ | refine Below.drew ?_ | refine Below.alloc ?_ (by simp) _))

theorem only_one (o n : Int) (nm : Bs) (s : Value) (w : World) (h1 : o ≠ 17) (h2 : o ≠ 18) (h3 : o ≠ 19) :
    Calls Tryz.prog 122 #[.agg #[.int .i64 3, .int .i64 o, .int .i64 n, .string (strOf nm), s]] w fun r w' => r = .returned (.tuple #[.agg #[.int .i64 3, .int .i64 o, .int .i64 0, .string (strOf []), .slice none 0 0], .int .i64 1, .bool false]) ∧ Below w.heap.size w w' := by
  have k1 : (o == 17) = false := by simpa using h1
  have k2 : (o == 18) = false := by simpa using h2
  have k3 : (o == 19) = false := by simpa using h3
  clear h1 h2 h3
  go_enter Tryz.func122, Tryz.ntmps122
  go_wp2_with fail
  go_region
  go_wp2_with fail
  all_goals (refine bodyPost_ret (v := .tuple #[.agg #[.int .i64 3, .int .i64 o, .int .i64 0, .string (strOf []), .slice none 0 0], .int .i64 1, .bool false]) (by simp [results, Tryz.results122, go_sem]) rfl ⟨rfl, ?_⟩)
  all_goals (repeat (first | exact Below.refl _ _ | refine Below.setCell ?_ (by simp) _ | refine Below.drew ?_ | refine Below.alloc ?_ (by simp) _))

theorem only_two (o n : Int) (nm : Bs) (s : Value) (w : World) :
    Calls Tryz.prog 122 #[.agg #[.int .i64 4, .int .i64 o, .int .i64 n, .string (strOf nm), s]] w fun r w' => r = .returned (.tuple #[.agg #[.int .i64 4, .int .i64 o, .int .i64 0, .string (strOf []), .slice none 0 0], .int .i64 2, .bool (decide (0 < levelOf o))]) ∧ Below w.heap.size w w' := by
  go_enter Tryz.func122, Tryz.ntmps122
  go_wp2_with fail
  go_region_held3 (fun w' => w'.cell? ⟨w.heap.size, 1, none⟩ = some (.int .i64 o) ∧ w'.cell? ⟨w.heap.size + 1, 0, none⟩ = some (.int .i64 4) ∧ w'.cell? ⟨w.heap.size + 1, 1, none⟩ = some (.int .i64 o) ∧ w'.cell? ⟨w.heap.size + 1, 2, none⟩ = some (.int .i64 0) ∧ w'.cell? ⟨w.heap.size + 1, 3, none⟩ = some (.string (strOf [])) ∧ w'.cell? ⟨w.heap.size + 1, 4, none⟩ = some (.slice none 0 0)) (first | (simp [*, setCell_self, World.cell?_alloc_lt]; done) | go_keep) (first | (go_at_call 74; refine (level_any _ _).mono ?_; rintro e w1 ⟨he, hb⟩; subst he; obtain ⟨hc, hf⟩ := bcell hb; have hz : w.heap.size + 1 < w1.heap.size := (by have := hb.size; simp at this; omega); have g01 : w1.cell? ⟨w.heap.size, 1, none⟩ = some (.int .i64 o) := below_keeps hb (by simp [World.cell?_alloc_lt]); have g10 : w1.cell? ⟨w.heap.size + 1, 0, none⟩ = some (.int .i64 4) := below_keeps hb (by simp [World.cell?_alloc_lt]); have g11 : w1.cell? ⟨w.heap.size + 1, 1, none⟩ = some (.int .i64 o) := below_keeps hb (by simp [World.cell?_alloc_lt]); have g12 : w1.cell? ⟨w.heap.size + 1, 2, none⟩ = some (.int .i64 0) := below_keeps hb (by simp [World.cell?_alloc_lt]); have g13 : w1.cell? ⟨w.heap.size + 1, 3, none⟩ = some (.string (strOf [])) := below_keeps hb (by simp [World.cell?_alloc_lt]); have g14 : w1.cell? ⟨w.heap.size + 1, 4, none⟩ = some (.slice none 0 0) := below_keeps hb (by simp [World.cell?_alloc_lt])))
  go_wp2_with fail
  all_goals (refine bodyPost_ret (v := .tuple #[.agg #[.int .i64 4, .int .i64 o, .int .i64 0, .string (strOf []), .slice none 0 0], .int .i64 2, .bool (decide (0 < levelOf o))]) (by simp [results, Tryz.results122, go_sem, hc]) rfl ⟨rfl, ?_⟩)
  all_goals (repeat (refine Below.setCell ?_ (by simp) _))
  all_goals (exact (((Below.refl _ _).alloc (Nat.le_refl _) _).alloc (by simp) _).drew.trans (hb.mono (by simp; omega)))
theorem only_call (o n : Int) (nm : Bs) (a : Option Addr) (len cap : Nat) (hn : isName nm = true) (w : World) :
    Calls Tryz.prog 122 #[.agg #[.int .i64 5, .int .i64 o, .int .i64 n, .string (strOf nm), .slice a len cap]] w fun r w' => r = .returned (.tuple #[.agg #[.int .i64 5, .int .i64 0, .int .i64 0, .string (strOf nm), .slice none 0 0], .int .i64 len, .bool (decide ((len : Int) ≤ 6))]) ∧ Below w.heap.size w w' := by
  go_enter Tryz.func122, Tryz.ntmps122
  go_wp2_with fail
  go_region_held3 (fun w' => w'.cell? ⟨w.heap.size, 3, none⟩ = some (.string (strOf nm)) ∧ w'.cell? ⟨w.heap.size, 4, none⟩ = some (.slice a len cap) ∧ w'.cell? ⟨w.heap.size + 1, 0, none⟩ = some (.int .i64 5) ∧ w'.cell? ⟨w.heap.size + 1, 1, none⟩ = some (.int .i64 0) ∧ w'.cell? ⟨w.heap.size + 1, 2, none⟩ = some (.int .i64 0) ∧ w'.cell? ⟨w.heap.size + 1, 3, none⟩ = some (.string (strOf nm)) ∧ w'.cell? ⟨w.heap.size + 1, 4, none⟩ = some (.slice none 0 0)) (first | (simp [*, setCell_self, World.cell?_alloc_lt]; done) | go_keep) (first | (go_at_call 112; refine (name_any _ _).mono ?_; rintro e w1 ⟨he, hb⟩; rw [hn] at he; subst he; obtain ⟨hc, hf⟩ := bcell hb; have hz : w.heap.size + 1 < w1.heap.size := (by have := hb.size; simp at this; omega); have g03 : w1.cell? ⟨w.heap.size, 3, none⟩ = some (.string (strOf nm)) := below_keeps hb (by simp [World.cell?_alloc_lt]); have g04 : w1.cell? ⟨w.heap.size, 4, none⟩ = some (.slice a len cap) := below_keeps hb (by simp [World.cell?_alloc_lt]); have g10 : w1.cell? ⟨w.heap.size + 1, 0, none⟩ = some (.int .i64 5) := below_keeps hb (by simp [World.cell?_alloc_lt]); have g11 : w1.cell? ⟨w.heap.size + 1, 1, none⟩ = some (.int .i64 0) := below_keeps hb (by simp [World.cell?_alloc_lt]); have g12 : w1.cell? ⟨w.heap.size + 1, 2, none⟩ = some (.int .i64 0) := below_keeps hb (by simp [World.cell?_alloc_lt]); have g13 : w1.cell? ⟨w.heap.size + 1, 3, none⟩ = some (.string (strOf nm)) := below_keeps hb (by simp [World.cell?_alloc_lt]); have g14 : w1.cell? ⟨w.heap.size + 1, 4, none⟩ = some (.slice none 0 0) := below_keeps hb (by simp [World.cell?_alloc_lt])))
  go_wp2_with fail
  all_goals (refine bodyPost_ret (v := .tuple #[.agg #[.int .i64 5, .int .i64 0, .int .i64 0, .string (strOf nm), .slice none 0 0], .int .i64 len, .bool (decide ((len : Int) ≤ 6))]) (by simp [results, Tryz.results122, go_sem, hc]) rfl ⟨rfl, ?_⟩)
  all_goals (repeat (refine Below.setCell ?_ (by simp) _))
  all_goals (exact (((Below.refl _ _).alloc (Nat.le_refl _) _).alloc (by simp) _).drew.trans (hb.mono (by simp; omega)))
theorem only_call0 (o n : Int) (nm : Bs) (a : Option Addr) (len cap : Nat) (hn : isName nm = false) (w : World) :
    Calls Tryz.prog 122 #[.agg #[.int .i64 5, .int .i64 o, .int .i64 n, .string (strOf nm), .slice a len cap]] w fun r w' => r = .returned (.tuple #[.agg #[.int .i64 5, .int .i64 0, .int .i64 0, .string (strOf nm), .slice none 0 0], .int .i64 len, .bool false]) ∧ Below w.heap.size w w' := by
  go_enter Tryz.func122, Tryz.ntmps122
  go_wp2_with fail
  refine wp_region_held_drew (S := (fun w' => w'.cell? ⟨w.heap.size, 3, none⟩ = some (.string (strOf nm)) ∧ w'.cell? ⟨w.heap.size, 4, none⟩ = some (.slice a len cap) ∧ w'.cell? ⟨w.heap.size + 1, 0, none⟩ = some (.int .i64 5) ∧ w'.cell? ⟨w.heap.size + 1, 1, none⟩ = some (.int .i64 0) ∧ w'.cell? ⟨w.heap.size + 1, 2, none⟩ = some (.int .i64 0) ∧ w'.cell? ⟨w.heap.size + 1, 3, none⟩ = some (.string (strOf nm)) ∧ w'.cell? ⟨w.heap.size + 1, 4, none⟩ = some (.slice none 0 0))) (by kernel_rfl) ?_ (fun hHeld => ?_)
  · (first | (simp [*, setCell_self, World.cell?_alloc_lt]; done) | go_keep)
  refine wpAnyH_take (i := 0) (v := ?_) rfl (by kernel_rfl) (by kernel_rfl) (by kernel_rfl) (fun _ _ _ h => h) (Or.inl ⟨rfl, ?_⟩) (by assumption) ?_
  rotate_left 1
  · intro w hSw; (try dsimp only at hSw); go_simp; (try with_reducible rfl)
  (try simp only [Act.put, List.setIfInBounds_toArray, List.set_cons_zero, List.set_cons_succ])
  refine wpAnyH_take (i := 1) (v := ?_) rfl (by kernel_rfl) (by kernel_rfl) (by kernel_rfl) (fun _ _ _ h => h) (Or.inl ⟨rfl, ?_⟩) (by assumption) ?_
  rotate_left 1
  · intro w hSw; (try dsimp only at hSw); go_simp; (try with_reducible rfl)
  (try simp only [Act.put, List.setIfInBounds_toArray, List.set_cons_zero, List.set_cons_succ])
  refine wpAnyH_take (i := 2) (v := ?_) rfl (by kernel_rfl) (by kernel_rfl) (by kernel_rfl) (fun _ _ _ h => h) (Or.inl ⟨rfl, ?_⟩) (by assumption) ?_
  rotate_left 1
  · intro w hSw; (try dsimp only at hSw); go_simp; (try with_reducible rfl)
  (try simp only [Act.put, List.setIfInBounds_toArray, List.set_cons_zero, List.set_cons_succ])
  refine wpAnyH_take (i := 3) (v := ?_) rfl (by kernel_rfl) (by kernel_rfl) (by kernel_rfl) (fun _ _ _ h => h) (Or.inl ⟨rfl, ?_⟩) (by assumption) ?_
  rotate_left 1
  · intro w hSw; (try dsimp only at hSw); go_simp; (try with_reducible rfl)
  (try simp only [Act.put, List.setIfInBounds_toArray, List.set_cons_zero, List.set_cons_succ])
  refine wpAnyH_take (i := 4) (v := ?_) rfl (by kernel_rfl) (by kernel_rfl) (by kernel_rfl) (fun _ _ _ h => h) (Or.inl ⟨rfl, ?_⟩) (by assumption) ?_
  rotate_left 1
  · intro w hSw; (try dsimp only at hSw); go_simp; (try with_reducible rfl)
  (try simp only [Act.put, List.setIfInBounds_toArray, List.set_cons_zero, List.set_cons_succ])
  refine wpAnyH_take (i := 5) (v := ?_) rfl (by kernel_rfl) (by kernel_rfl) (by kernel_rfl) (fun _ _ _ h => h) (Or.inl ⟨rfl, ?_⟩) (by assumption) ?_
  rotate_left 1
  · intro w hSw; (try dsimp only at hSw); go_simp; (try with_reducible rfl)
  (try simp only [Act.put, List.setIfInBounds_toArray, List.set_cons_zero, List.set_cons_succ])
  refine wpAnyH_ready (rs := [6]) (by kernel_rfl) (by simp) ?_
  refine AllReadyH.cons rfl (fun K hK => ?_) AllReadyH.nil
  (try simp only [List.getElem_toArray, List.getElem_cons_succ, List.getElem_cons_zero])
  go_simp; go_at_call 112; refine (name_any _ _).mono ?_; rintro e w1 ⟨he, hb⟩; rw [hn] at he; subst he; obtain ⟨hc, hf⟩ := bcell hb; have hz : w.heap.size + 1 < w1.heap.size := (by have := hb.size; simp at this; omega); have g03 : w1.cell? ⟨w.heap.size, 3, none⟩ = some (.string (strOf nm)) := below_keeps hb (by simp [World.cell?_alloc_lt]); have g04 : w1.cell? ⟨w.heap.size, 4, none⟩ = some (.slice a len cap) := below_keeps hb (by simp [World.cell?_alloc_lt]); have g10 : w1.cell? ⟨w.heap.size + 1, 0, none⟩ = some (.int .i64 5) := below_keeps hb (by simp [World.cell?_alloc_lt]); have g11 : w1.cell? ⟨w.heap.size + 1, 1, none⟩ = some (.int .i64 0) := below_keeps hb (by simp [World.cell?_alloc_lt]); have g12 : w1.cell? ⟨w.heap.size + 1, 2, none⟩ = some (.int .i64 0) := below_keeps hb (by simp [World.cell?_alloc_lt]); have g13 : w1.cell? ⟨w.heap.size + 1, 3, none⟩ = some (.string (strOf nm)) := below_keeps hb (by simp [World.cell?_alloc_lt]); have g14 : w1.cell? ⟨w.heap.size + 1, 4, none⟩ = some (.slice none 0 0) := below_keeps hb (by simp [World.cell?_alloc_lt])
  refine hK.out _ _ ?_ (fun hHeld => ?_)
  · (try dsimp only); (first | (simp [*, setCell_self, World.cell?_alloc_lt]; done) | go_keep)
  clear hK K
  (try simp only [Act.put, List.setIfInBounds_toArray, List.set_cons_zero, List.set_cons_succ])
  refine wpAnyH_take (i := 7) (v := ?_) rfl (by kernel_rfl) (by kernel_rfl) (by kernel_rfl) (fun _ _ _ h => h) (Or.inl ⟨rfl, ?_⟩) (by assumption) ?_
  rotate_left 1
  · intro w hSw; (try dsimp only at hSw); go_simp; (try with_reducible rfl)
  (try simp only [Act.put, List.setIfInBounds_toArray, List.set_cons_zero, List.set_cons_succ])
  refine wpAnyH_take (i := 8) rfl (by kernel_rfl) (by kernel_rfl) (by kernel_rfl) (fun _ _ _ h => h) (Or.inr ⟨rfl, rfl⟩) (by assumption) ?_
  (try simp only [Act.put, List.setIfInBounds_toArray, List.set_cons_zero, List.set_cons_succ])
  refine wpAnyH_take (i := 9) rfl (by kernel_rfl) (by kernel_rfl) (by kernel_rfl) (fun _ _ _ h => h) (Or.inr ⟨rfl, rfl⟩) (by assumption) ?_
  (try simp only [Act.put, List.setIfInBounds_toArray, List.set_cons_zero, List.set_cons_succ])
  refine wpAnyH_take (i := 10) rfl (by kernel_rfl) (by kernel_rfl) (by kernel_rfl) (fun _ _ _ h => h) (Or.inr ⟨rfl, rfl⟩) (by assumption) ?_
  (try simp only [Act.put, List.setIfInBounds_toArray, List.set_cons_zero, List.set_cons_succ])
  refine wpAnyH_take (i := 11) rfl (by kernel_rfl) (by kernel_rfl) (by kernel_rfl) (fun _ _ _ h => h) (Or.inr ⟨rfl, rfl⟩) (by assumption) ?_
  (try simp only [Act.put, List.setIfInBounds_toArray, List.set_cons_zero, List.set_cons_succ])
  refine wpAnyH_take (i := 12) (v := ?_) rfl (by kernel_rfl) (by kernel_rfl) (by kernel_rfl) (fun _ _ _ h => h) (Or.inl ⟨rfl, ?_⟩) (by assumption) ?_
  rotate_left 1
  · intro w hSw; (try dsimp only at hSw); go_simp; (try with_reducible rfl)
  (try simp only [Act.put, List.setIfInBounds_toArray, List.set_cons_zero, List.set_cons_succ])
  refine wpAnyH_ready (rs := [13]) (by kernel_rfl) (by simp) ?_
  refine AllReadyH.cons rfl (fun K hK => ?_) AllReadyH.nil
  (try simp only [List.getElem_toArray, List.getElem_cons_succ, List.getElem_cons_zero])
  go_simp
  refine hK.out _ _ ?_ (fun hHeld => ?_)
  · (try dsimp only); (first | (simp [*, setCell_self, World.cell?_alloc_lt]; done) | go_keep)
  clear hK K
  (try simp only [Act.put, List.setIfInBounds_toArray, List.set_cons_zero, List.set_cons_succ])
  refine wpAnyH_ready (rs := [14]) (by kernel_rfl) (by simp) ?_
  refine AllReadyH.cons rfl (fun K hK => ?_) AllReadyH.nil
  (try simp only [List.getElem_toArray, List.getElem_cons_succ, List.getElem_cons_zero])
  go_simp
  refine hK.out _ _ ?_ (fun hHeld => ?_)
  · (try dsimp only); (first | (simp [*, setCell_self, World.cell?_alloc_lt]; done) | go_keep)
  clear hK K
  (try simp only [Act.put, List.setIfInBounds_toArray, List.set_cons_zero, List.set_cons_succ])
  refine wpAnyH_ready (rs := [15]) (by kernel_rfl) (by simp) ?_
  refine AllReadyH.cons rfl (fun K hK => ?_) AllReadyH.nil
  (try simp only [List.getElem_toArray, List.getElem_cons_succ, List.getElem_cons_zero])
  go_simp
  refine hK.out _ _ ?_ (fun hHeld => ?_)
  · (try dsimp only); (first | (simp [*, setCell_self, World.cell?_alloc_lt]; done) | go_keep)
  clear hK K
  (try simp only [Act.put, List.setIfInBounds_toArray, List.set_cons_zero, List.set_cons_succ])
  refine wpAnyH_done (by kernel_rfl) ?_ _
  go_wp2_with fail
  all_goals (refine bodyPost_ret (v := .tuple #[.agg #[.int .i64 5, .int .i64 0, .int .i64 0, .string (strOf nm), .slice none 0 0], .int .i64 len, .bool false]) (by simp [results, Tryz.results122, go_sem, hc]) rfl ⟨rfl, ?_⟩)
  all_goals (repeat (refine Below.setCell ?_ (by simp) _))
  all_goals (exact (((Below.refl _ _).alloc (Nat.le_refl _) _).alloc (by simp) _).drew.trans (hb.mono (by simp; omega)))
theorem only_index (o n : Int) (nm : Bs) (s : Value) (w : World) :
    Calls Tryz.prog 122 #[.agg #[.int .i64 6, .int .i64 o, .int .i64 n, .string (strOf nm), s]] w fun r w' => r = .returned (.tuple #[.agg #[.int .i64 6, .int .i64 0, .int .i64 0, .string (strOf nm), .slice none 0 0], .int .i64 1, .bool (isName nm)]) ∧ Below w.heap.size w w' := by
  go_enter Tryz.func122, Tryz.ntmps122
  go_wp2_with fail
  go_region_held3 (fun w' => w'.cell? ⟨w.heap.size, 3, none⟩ = some (.string (strOf nm)) ∧ w'.cell? ⟨w.heap.size + 1, 0, none⟩ = some (.int .i64 6) ∧ w'.cell? ⟨w.heap.size + 1, 1, none⟩ = some (.int .i64 0) ∧ w'.cell? ⟨w.heap.size + 1, 2, none⟩ = some (.int .i64 0) ∧ w'.cell? ⟨w.heap.size + 1, 3, none⟩ = some (.string (strOf nm)) ∧ w'.cell? ⟨w.heap.size + 1, 4, none⟩ = some (.slice none 0 0)) (first | (simp [*, setCell_self, World.cell?_alloc_lt]; done) | go_keep) (first | (go_at_call 112; refine (name_any _ _).mono ?_; rintro e w1 ⟨he, hb⟩; subst he; obtain ⟨hc, hf⟩ := bcell hb; have hz : w.heap.size + 1 < w1.heap.size := (by have := hb.size; simp at this; omega); have g03 : w1.cell? ⟨w.heap.size, 3, none⟩ = some (.string (strOf nm)) := below_keeps hb (by simp [World.cell?_alloc_lt]); have g10 : w1.cell? ⟨w.heap.size + 1, 0, none⟩ = some (.int .i64 6) := below_keeps hb (by simp [World.cell?_alloc_lt]); have g11 : w1.cell? ⟨w.heap.size + 1, 1, none⟩ = some (.int .i64 0) := below_keeps hb (by simp [World.cell?_alloc_lt]); have g12 : w1.cell? ⟨w.heap.size + 1, 2, none⟩ = some (.int .i64 0) := below_keeps hb (by simp [World.cell?_alloc_lt]); have g13 : w1.cell? ⟨w.heap.size + 1, 3, none⟩ = some (.string (strOf nm)) := below_keeps hb (by simp [World.cell?_alloc_lt]); have g14 : w1.cell? ⟨w.heap.size + 1, 4, none⟩ = some (.slice none 0 0) := below_keeps hb (by simp [World.cell?_alloc_lt])))
  go_wp2_with fail
  all_goals (refine bodyPost_ret (v := .tuple #[.agg #[.int .i64 6, .int .i64 0, .int .i64 0, .string (strOf nm), .slice none 0 0], .int .i64 1, .bool (isName nm)]) (by simp [results, Tryz.results122, go_sem, hc]) rfl ⟨rfl, ?_⟩)
  all_goals (repeat (refine Below.setCell ?_ (by simp) _))
  all_goals (exact (((Below.refl _ _).alloc (Nat.le_refl _) _).alloc (by simp) _).drew.trans (hb.mono (by simp; omega)))
theorem only_read (o n : Int) (nm : Bs) (s : Value) (w : World) :
    Calls Tryz.prog 122 #[.agg #[.int .i64 7, .int .i64 o, .int .i64 n, .string (strOf nm), s]] w fun r w' => r = .returned (.tuple #[.agg #[.int .i64 7, .int .i64 0, .int .i64 0, .string (strOf []), .slice none 0 0], .int .i64 0, .bool true]) ∧ Below w.heap.size w w' := by
  go_enter Tryz.func122, Tryz.ntmps122
  go_wp2_with fail
  all_goals (refine bodyPost_ret (v := .tuple #[.agg #[.int .i64 7, .int .i64 0, .int .i64 0, .string (strOf []), .slice none 0 0], .int .i64 0, .bool true]) (by simp [results, Tryz.results122, go_sem]) rfl ⟨rfl, ?_⟩)
  all_goals (repeat (first | exact Below.refl _ _ | refine Below.setCell ?_ (by simp) _ | refine Below.drew ?_ | refine Below.alloc ?_ (by simp) _))

theorem only_other (k : Int) (h1 : (k == 1) = false) (h2 : (k == 2) = false) (h3 : (k == 3) = false) (h4 : (k == 4) = false) (h5 : (k == 5) = false) (h6 : (k == 6) = false) (h7 : (k == 7) = false) (o n : Int) (nm : Bs) (s : Value) (w : World) :
    Calls Tryz.prog 122 #[.agg #[.int .i64 k, .int .i64 o, .int .i64 n, .string (strOf nm), s]] w fun r w' => r = .returned (.tuple #[.agg #[.int .i64 k, .int .i64 0, .int .i64 0, .string (strOf []), .slice none 0 0], .int .i64 0, .bool false]) ∧ Below w.heap.size w w' := by
  go_enter Tryz.func122, Tryz.ntmps122
  go_wp2_with fail
  all_goals (refine bodyPost_ret (v := .tuple #[.agg #[.int .i64 k, .int .i64 0, .int .i64 0, .string (strOf []), .slice none 0 0], .int .i64 0, .bool false]) (by simp [results, Tryz.results122, go_sem]) rfl ⟨rfl, ?_⟩)
  all_goals (repeat (first | exact Below.refl _ _ | refine Below.setCell ?_ (by simp) _ | refine Below.drew ?_ | refine Below.alloc ?_ (by simp) _))

end Go.Proofs.YtcfpfnoldgnloaaGreatDoor

namespace Go.Proofs.YtcfpfnoldgnloaaGreatDoor
open Go.RowKit
set_option maxHeartbeats 1000000
set_option maxRecDepth 20000

theorem only_any (e : Ex) (a : Option Addr) (cap : Nat) (w : World) :
    Calls Tryz.prog 122 #[exV e (.slice a e.args.length cap)] w fun r w' => r = .returned (.tuple #[.agg #[.int .i64 e.kind, .int .i64 (onlyOp e), .int .i64 (onlyN e), .string (strOf (onlyName e)), .slice none 0 0], .int .i64 (onlyArgs e), .bool (onlyOk e)]) ∧ Below w.heap.size w w' := by
  obtain ⟨k, o, n, nm, args⟩ := e
  show Calls _ _ #[.agg #[.int .i64 k, .int .i64 o, .int .i64 n, .string (strOf nm), .slice a args.length cap]] _ _
  have key : ∀ {R R' : Ending → World → Prop}, R = R' → Calls Tryz.prog 122 #[.agg #[.int .i64 k, .int .i64 o, .int .i64 n, .string (strOf nm), .slice a args.length cap]] w R → Calls Tryz.prog 122 #[.agg #[.int .i64 k, .int .i64 o, .int .i64 n, .string (strOf nm), .slice a args.length cap]] w R' := fun h => h ▸ id
  by_cases h1 : k = 1
  · subst h1; exact only_num _ _ _ _ _
  by_cases h2 : k = 2
  · subst h2; exact only_var _ _ _ _ _
  by_cases h3 : k = 3
  · subst h3
    by_cases q1 : o = 17
    · subst q1; exact only_one17 _ _ _ _
    by_cases q2 : o = 18
    · subst q2; exact only_one18 _ _ _ _
    by_cases q3 : o = 19
    · subst q3; exact only_one19 _ _ _ _
    refine key ?_ (only_one o n nm _ w q1 q2 q3)
    simp [onlyOp, onlyN, onlyName, onlyArgs, onlyOk, Ex.kind, Ex.op, q1, q2, q3]
  by_cases h4 : k = 4
  · subst h4; exact only_two _ _ _ _ _
  by_cases h5 : k = 5
  · subst h5
    cases hn : isName nm
    · refine key ?_ (only_call0 o n nm a args.length cap hn w)
      simp [onlyOp, onlyN, onlyName, onlyArgs, onlyOk, Ex.kind, Ex.name, Ex.args, hn]
    · refine key ?_ (only_call o n nm a args.length cap hn w)
      simp [onlyOp, onlyN, onlyName, onlyArgs, onlyOk, Ex.kind, Ex.name, Ex.args, hn]; rfl
  by_cases h6 : k = 6
  · subst h6; exact only_index _ _ _ _ _
  by_cases h7 : k = 7
  · subst h7; exact only_read _ _ _ _ _
  refine key ?_ (only_other k (by simpa using h1) (by simpa using h2) (by simpa using h3) (by simpa using h4) (by simpa using h5) (by simpa using h6) (by simpa using h7) o n nm _ w)
  simp [onlyOp, onlyN, onlyName, onlyArgs, onlyOk, Ex.kind, h1, h2, h3, h4, h5, h6, h7]

def WellOf (e : Ex) : Prop := ∀ (D : Nat → Prop) (s : Value) (w : World), ExsAt D w e.args s →
  Calls Tryz.prog 62 #[exV e s] w fun r w' => r = .returned (.bool (wellOk e)) ∧ Below w.heap.size w w'
theorem well_fn (e : Ex) (ih : WellOf e) (D : Nat → Prop) (s : Value) (w : World) (h : ExsAt D w e.args s) :
    Calls Tryz.prog 123 #[exV e s] w fun r w' => r = .returned (.bool (!wellOk e)) ∧ Below w.heap.size w w' := by
  have H := Lib.hid h; clear h
  have IH := Lib.hid ih; clear ih
  go_enter Tryz.func123, Tryz.ntmps123
  go_wp2_with fail
  refine (IH.out D s _ (H.out.old ((Below.refl _ _).alloc (Nat.le_refl _) _))).mono ?_
  rintro r w1 ⟨rfl, hb⟩
  go_wp2_with fail
  go_ret
  exact ⟨rfl, ((Below.refl _ _).alloc (Nat.le_refl _) _).trans (hb.mono (by simp))⟩

theorem well_step (e : Ex) (ih : ∀ x, x ∈ e.args → WellOf x) : WellOf e := by
  intro D s w h
  have H := Lib.hid h
  have IH := Lib.hid ih; clear ih
  generalize hl : e.args = l at h
  cases h with
  | mk _ a cap b off sv hcap hfit ha h0 h1 h2 h3 h4 hs =>
    subst hl
    clear hcap hfit ha h0 h1 h2 h3 h4 hs
    have HO := Lib.hid (only_any e a cap ((w.alloc (.cells #[.int .i64 e.kind, .int .i64 e.op, .int .i64 e.n, .string (strOf e.name), .slice a e.args.length cap] 27))))
    go_enter Tryz.func62, Tryz.ntmps62
    go_wp2_with fail
    refine HO.out.mono ?_
    rintro r w1 ⟨rfl, hb⟩
    obtain ⟨hc, hf⟩ := bcell hb
    have hz : w.heap.size < w1.heap.size := by have := hb.size; simp at this; omega
    go_wp2_with fail
    · refine (contains_exs 123 #[] Tryz.call123 e.args _ D _ (((H.out.old ((Below.refl _ _).alloc (Nat.le_refl _) _)).old hb).old ((Below.refl _ _).alloc (Nat.le_refl _) _)) (fun x => !wellOk x) ?_).mono ?_
      · intro x s' w2 hx _ hs
        exact well_fn x (IH.out x hx) D s' w2 hs
      · rintro r w2 ⟨rfl, hb2⟩
        go_wp2_with fail
        go_ret
        refine ⟨ret_bool ?_, ((((Below.refl _ _).alloc (Nat.le_refl _) _).trans (hb.mono (by simp))).alloc (by omega) _).trans (hb2.mono (by simp; omega))⟩
        rw [wellOk_eq]; simp [wellHere, *, List.any_eq_not_all_not]
    all_goals
      go_ret
      refine ⟨ret_bool ?_, (((Below.refl _ _).alloc (Nat.le_refl _) _).trans (hb.mono (by simp))).alloc (by omega) _⟩
      rw [wellOk_eq]; simp [wellHere, *]

theorem well_any : ∀ (n : Nat) (e : Ex), SizeOf.sizeOf e ≤ n → WellOf e
  | 0, e, h => by cases e; simp at h
  | n + 1, e, h => well_step e fun x hx => well_any n x (by have := Ex.size_lt hx; omega)

/-- tree.RightExpr. -/
theorem rightExpr_any (e : Ex) (D : Nat → Prop) (s : Value) (w : World) (h : ExsAt D w e.args s) :
    Calls Tryz.prog 28 #[exV e s] w fun r w' => r = .returned (.bool (rightEx e)) ∧ Below w.heap.size w w' := by
  have H := Lib.hid h; clear h
  have E : Hid (rightEx e = (deepOk 40 e && wellOk e)) := rfl
  go_enter Tryz.func28, Tryz.ntmps28
  go_wp2_with fail
  refine (deep_any 40 (by omega) D e s _ (H.out.old ((Below.refl _ _).alloc (Nat.le_refl _) _))).mono ?_
  rintro r w1 ⟨rfl, hb⟩
  obtain ⟨hc, hf⟩ := bcell hb
  cases hd : deepOk 40 e
  · have HD := Lib.hid hd; clear hd
    go_wp2_with fail
    go_ret
    exact ⟨ret_bool (by rw [E.out, HD.out]; rfl), ((Below.refl _ _).alloc (Nat.le_refl _) _).trans (hb.mono (by simp))⟩
  · have HD := Lib.hid hd; clear hd
    go_wp2_with fail
    refine (well_any _ e (Nat.le_refl _) D s _ ((H.out.old ((Below.refl _ _).alloc (Nat.le_refl _) _)).old hb)).mono ?_
    rintro r w2 ⟨rfl, hb2⟩
    go_wp2_with fail
    go_ret
    exact ⟨ret_bool (by rw [E.out, HD.out]; rfl), ((Below.refl _ _).alloc (Nat.le_refl _) _).trans ((hb.mono (by simp)).trans (hb2.mono (by have := hb.size; simp at this; omega)))⟩
end Go.Proofs.YtcfpfnoldgnloaaGreatDoor

namespace Go.Proofs.YtcfpfnoldgnloaaGreatDoor
open Go.RowKit
set_option maxHeartbeats 1000000
set_option maxRecDepth 20000

theorem tup_form {a b c d : Bool} {n : Int} {k : Int} (h1 : a = fNamed k) (h2 : n = fArgs k) (h3 : b = fThen k) (h4 : c = fMore k) (h5 : d = fOk k) :
    Ending.returned (.tuple #[.agg #[.bool a, .int .i64 n, .bool b, .bool c], .bool d]) = .returned (.tuple #[.agg #[.bool (fNamed k), .int .i64 (fArgs k), .bool (fThen k), .bool (fMore k)], .bool (fOk k)]) := by
  subst h1 h2 h3 h4 h5; rfl
theorem formOf_any (k : Int) (w : World) :
    Calls Tryz.prog 160 #[.int .i64 k] w fun r w' => r = .returned (.tuple #[.agg #[.bool (fNamed k), .int .i64 (fArgs k), .bool (fThen k), .bool (fMore k)], .bool (fOk k)]) ∧ Below w.heap.size w w' := by
  go_enter Tryz.func160, Tryz.ntmps160
  go_wp2
  all_goals (refine bodyPost_ret (by simp [results, Tryz.results160, go_sem]; rfl) rfl ?_)
  all_goals (refine ⟨tup_form ?_ ?_ ?_ ?_ ?_, by repeat (first | exact Below.refl _ _ | refine Below.setCell ?_ (by simp) _ | refine Below.alloc ?_ (Nat.le_refl _) _)⟩)
  all_goals (simp only [beq_iff_eq, beq_eq_false_iff_ne, ne_eq] at *; simp [fNamed, fArgs, fThen, fMore, fOk, *] <;> omega)

theorem head_eq {l : List Ex} (h : 0 < l.length) : l[0] = l.headD (.mk 0 0 0 [] []) := by cases l with | nil => simp at h | cons x l => rfl
theorem len_pos {α : Type} (l : List α) : decide (0 < l.length) = !l.isEmpty := by cases l <;> simp

/-- stmt$1: a part that may not be. -/
theorem stmt_fn (e : Ex) (D : Nat → Prop) (s : Value) (w : World) (h : ExsAt D w e.args s) :
    Calls Tryz.prog 161 #[exV e s] w fun r w' => r = .returned (.bool (!rightEx e)) ∧ Below w.heap.size w w' := by
  have H := Lib.hid h; clear h
  go_enter Tryz.func161, Tryz.ntmps161
  go_wp2_with fail
  refine (rightExpr_any e D s _ (H.out.old ((Below.refl _ _).alloc (Nat.le_refl _) _))).mono ?_
  rintro r w1 ⟨rfl, hb⟩
  go_wp2_with fail
  go_ret
  exact ⟨rfl, ((Below.refl _ _).alloc (Nat.le_refl _) _).trans (hb.mono (by simp))⟩

/-- The contract of stmts at a depth. -/
def StsOf (m : Nat) : Prop := ∀ (D : Nat → Prop) (l : List St) (v : Value) (w : World), StsAt D w l v →
  Calls Tryz.prog 50 #[v, .int .i64 m] w fun r w' => r = .returned (.bool (l.all (stOk m))) ∧ Below w.heap.size w w'
def StOf (m : Nat) : Prop := ∀ (D : Nat → Prop) (x : St) (a t e : Value) (w : World), ExsAt D w x.args a → StsAt D w x.thn t → StsAt D w x.els e →
  Calls Tryz.prog 115 #[stV x a t e, .int .i64 m] w fun r w' => r = .returned (.bool (stOk m x)) ∧ Below w.heap.size w w'


set_option maxHeartbeats 20000000 in
theorem stmt_step (m : Nat) (hm : m ≤ 1000) (ih : 0 < m → StsOf (m - 1)) : StOf m := by
  intro D x a0 t0 e0 w ha ht he
  have IH := Lib.hid ih; clear ih
  have HA := Lib.hid ha; have HT := Lib.hid ht; have HE := Lib.hid he; clear ha ht he
  obtain ⟨aa, ca, rfl⟩ : ∃ aa ca, a0 = .slice aa x.args.length ca := HA.out.shape
  obtain ⟨at', ct, rfl⟩ : ∃ aa ca, t0 = .slice aa x.thn.length ca := HT.out.shape
  obtain ⟨ae, ce, rfl⟩ : ∃ aa ca, e0 = .slice aa x.els.length ca := HE.out.shape
  have hm1 : (m : Int) ≤ 1000 := by omega
  have hm0 : (0 : Int) ≤ m := by omega
  go_enter Tryz.func115, Tryz.ntmps115
  go_upto_region 2 with (first | (go_at_call 160; refine (formOf_any _ _).mono ?_; rintro e w1 ⟨rfl, hb⟩; obtain ⟨hc, hf⟩ := bcell hb; have hz : w.heap.size < w1.heap.size := (by have := hb.size; simp at this; omega)))
  go_cut [6, 48] (fun _ s48 wx => s48 = .bool (stBad1 m x) ∧ wx = w1.alloc (.cells #[.bool (fNamed x.kind), .int .i64 (fArgs x.kind), .bool (fThen x.kind), .bool (fMore x.kind)] 184))
  case first =>
    cases b0 : fOk x.kind
    · go_wp2_with fail
      go_meet
      exact ⟨by simp [stBad1, b0], rfl⟩
    cases b1 : ((m : Int) == 0)
    case true =>
      go_wp2_with fail
      go_meet
      exact ⟨by simp [stBad1, b1], rfl⟩
    cases b2 : ((x.args.length : Int) == fArgs x.kind)
    · have b2' : ((x.args.length : Int) != fArgs x.kind) = true := by simp [bne, b2]
      go_wp2_with fail
      go_meet
      exact ⟨by simp [stBad1, b2], rfl⟩
    have b2' : ((x.args.length : Int) != fArgs x.kind) = false := by simp [bne, b2]
    have t1 := len_pos x.thn
    have e1 := len_pos x.els
    cases b3 : fThen x.kind <;> cases b4 : x.thn.isEmpty <;> cases b5 : fMore x.kind <;> cases b6 : x.els.isEmpty
    all_goals
      rw [b4] at t1; rw [b6] at e1
      have E : Hid (stBad1 m x = ((!fThen x.kind && !x.thn.isEmpty) || (!fMore x.kind && !x.els.isEmpty))) := (by show _ = _; simp [stBad1, b0, b1, b2])
      rw [b3, b4, b5, b6] at E
      clear b4 b6
      simp only [Bool.not_true, Bool.not_false] at t1 e1
      go_wp2_with fail
      go_meet
      exact ⟨by rw [E.out]; rfl, by rw [b3, b5]⟩
  case rest =>
    obtain ⟨rfl, rfl⟩ := hcut
    have hBW : Below w.heap.size w (w1.alloc (.cells #[.bool (fNamed x.kind), .int .i64 (fArgs x.kind), .bool (fThen x.kind), .bool (fMore x.kind)] 184)) :=
      (((Below.refl _ _).alloc (Nat.le_refl _) _).trans (hb.mono (by simp))).alloc (by omega) _
    have f0 : (w1.alloc (.cells #[.bool (fNamed x.kind), .int .i64 (fArgs x.kind), .bool (fThen x.kind), .bool (fMore x.kind)] 184)).cell? ⟨w1.heap.size, 0, none⟩ = some (.bool (fNamed x.kind)) := by simp
    have k0 := below_keeps ((Below.refl w1.heap.size w1).alloc (Nat.le_refl _) (.cells #[.bool (fNamed x.kind), .int .i64 (fArgs x.kind), .bool (fThen x.kind), .bool (fMore x.kind)] 184)) (a := ⟨w.heap.size, 0, none⟩) (x := .int .i64 x.kind) (below_keeps hb (by simp))
    have k1 := below_keeps ((Below.refl w1.heap.size w1).alloc (Nat.le_refl _) (.cells #[.bool (fNamed x.kind), .int .i64 (fArgs x.kind), .bool (fThen x.kind), .bool (fMore x.kind)] 184)) (a := ⟨w.heap.size, 1, none⟩) (x := .string (strOf x.name)) (below_keeps hb (by simp))
    have k2 := below_keeps ((Below.refl w1.heap.size w1).alloc (Nat.le_refl _) (.cells #[.bool (fNamed x.kind), .int .i64 (fArgs x.kind), .bool (fThen x.kind), .bool (fMore x.kind)] 184)) (a := ⟨w.heap.size, 2, none⟩) (x := .slice aa x.args.length ca) (below_keeps hb (by simp))
    have k3 := below_keeps ((Below.refl w1.heap.size w1).alloc (Nat.le_refl _) (.cells #[.bool (fNamed x.kind), .int .i64 (fArgs x.kind), .bool (fThen x.kind), .bool (fMore x.kind)] 184)) (a := ⟨w.heap.size, 3, none⟩) (x := .slice at' x.thn.length ct) (below_keeps hb (by simp))
    have k4 := below_keeps ((Below.refl w1.heap.size w1).alloc (Nat.le_refl _) (.cells #[.bool (fNamed x.kind), .int .i64 (fArgs x.kind), .bool (fThen x.kind), .bool (fMore x.kind)] 184)) (a := ⟨w.heap.size, 4, none⟩) (x := .slice ae x.els.length ce) (below_keeps hb (by simp))
    have hz2 : w1.heap.size < (w1.alloc (.cells #[.bool (fNamed x.kind), .int .i64 (fArgs x.kind), .bool (fThen x.kind), .bool (fMore x.kind)] 184)).heap.size := by simp
    clear hb hc hf
    generalize w1.alloc (.cells #[.bool (fNamed x.kind), .int .i64 (fArgs x.kind), .bool (fThen x.kind), .bool (fMore x.kind)] 184) = W2 at hBW f0 k0 k1 k2 k3 k4 hz2 ⊢
    have HBW := Lib.hid hBW; clear hBW
    cases q1 : stBad1 m x
    case true =>
      have Q1 := Lib.hid q1; clear q1
      go_wp2_with fail
      go_ret
      refine ⟨ret_bool ?_, HBW.out⟩
      cases m with
      | zero => rfl
      | succ m =>
        have q := Q1.out
        rw [show ((m + 1 : Nat) : Int) = (m : Int) + 1 from by omega] at q
        simp only [stOk, q]; rfl
    have Q1 := Lib.hid q1; clear q1
    go_upto_region 4 with (fail)
    go_cut [77] (fun s77 wx => s77 = .bool (stBad2 x) ∧ Below W2.heap.size W2 wx)
    case first =>
      have E : Hid (stBad2 x = (!(fNamed x.kind == isName x.name) || (!fNamed x.kind && !(x.name == [])) || (x.kind == 10 && !((x.args.headD (.mk 0 0 0 [] [])).kind == 5)))) := rfl
      cases n1 : fNamed x.kind <;> cases n2 : isName x.name
      case true.false =>
        rw [n1, n2] at E
        rw [n1] at f0
        refine wp_region_held_drew (S := (fun w' => w'.cell? ⟨w1.heap.size, 0, none⟩ = some (.bool true) ∧ w'.cell? ⟨w.heap.size, 0, none⟩ = some (.int .i64 x.kind) ∧ w'.cell? ⟨w.heap.size, 1, none⟩ = some (.string (strOf x.name)) ∧ w'.cell? ⟨w.heap.size, 2, none⟩ = some (.slice aa x.args.length ca))) (by kernel_rfl) ?_ (fun hHeld => ?_)
        · (first | (simp [*]; done) | go_keep)
        refine wpAnyH_take (i := 0) (v := ?_) rfl (by kernel_rfl) (by kernel_rfl) (by kernel_rfl) (fun _ _ _ h => h) (Or.inl ⟨rfl, ?_⟩) (by assumption) ?_
        rotate_left 1
        · intro w hSw; (try dsimp only at hSw); go_simp; (try with_reducible rfl)
        (try simp only [List.getElem_toArray, List.getElem_cons_succ, List.getElem_cons_zero, Act.put, List.setIfInBounds_toArray, List.set_cons_zero, List.set_cons_succ])
        refine wpAnyH_take (i := 1) (v := ?_) rfl (by kernel_rfl) (by kernel_rfl) (by kernel_rfl) (fun _ _ _ h => h) (Or.inl ⟨rfl, ?_⟩) (by assumption) ?_
        rotate_left 1
        · intro w hSw; (try dsimp only at hSw); go_simp; (try with_reducible rfl)
        (try simp only [List.getElem_toArray, List.getElem_cons_succ, List.getElem_cons_zero, Act.put, List.setIfInBounds_toArray, List.set_cons_zero, List.set_cons_succ])
        refine wpAnyH_take (i := 2) (v := ?_) rfl (by kernel_rfl) (by kernel_rfl) (by kernel_rfl) (fun _ _ _ h => h) (Or.inl ⟨rfl, ?_⟩) (by assumption) ?_
        rotate_left 1
        · intro w hSw; (try dsimp only at hSw); go_simp; (try with_reducible rfl)
        (try simp only [List.getElem_toArray, List.getElem_cons_succ, List.getElem_cons_zero, Act.put, List.setIfInBounds_toArray, List.set_cons_zero, List.set_cons_succ])
        refine wpAnyH_take (i := 3) (v := ?_) rfl (by kernel_rfl) (by kernel_rfl) (by kernel_rfl) (fun _ _ _ h => h) (Or.inl ⟨rfl, ?_⟩) (by assumption) ?_
        rotate_left 1
        · intro w hSw; (try dsimp only at hSw); go_simp; (try with_reducible rfl)
        (try simp only [List.getElem_toArray, List.getElem_cons_succ, List.getElem_cons_zero, Act.put, List.setIfInBounds_toArray, List.set_cons_zero, List.set_cons_succ])
        refine wpAnyH_ready (rs := [4]) (by kernel_rfl) (by simp) ?_
        refine AllReadyH.cons rfl (fun K hK => ?_) AllReadyH.nil
        (try simp only [List.getElem_toArray, List.getElem_cons_succ, List.getElem_cons_zero])
        go_simp; go_at_call 112; refine (name_any _ _).mono ?_; rintro e w3 ⟨he, hb3⟩; rw [n2] at he; subst he; have g0 := below_keeps hb3 f0; have g1 := below_keeps hb3 k0; have g2 := below_keeps hb3 k1; have g3 := below_keeps hb3 k2; clear f0 k0 k1 k2
        refine hK.out _ _ ?_ (fun hHeld => ?_)
        · (try dsimp only); (first | (simp [*]; done) | go_keep)
        clear hK K
        (try simp only [List.getElem_toArray, List.getElem_cons_succ, List.getElem_cons_zero, Act.put, List.setIfInBounds_toArray, List.set_cons_zero, List.set_cons_succ])
        refine wpAnyH_take (i := 5) (v := ?_) rfl (by kernel_rfl) (by kernel_rfl) (by kernel_rfl) (fun _ _ _ h => h) (Or.inl ⟨rfl, ?_⟩) (by assumption) ?_
        rotate_left 1
        · intro w hSw; (try dsimp only at hSw); go_simp; (try with_reducible rfl)
        (try simp only [List.getElem_toArray, List.getElem_cons_succ, List.getElem_cons_zero, Act.put, List.setIfInBounds_toArray, List.set_cons_zero, List.set_cons_succ])
        refine wpAnyH_take (i := 6) (v := ?_) rfl (by kernel_rfl) (by kernel_rfl) (by kernel_rfl) (fun _ _ _ h => h) (Or.inl ⟨rfl, ?_⟩) (by assumption) ?_
        rotate_left 1
        · intro w hSw; (try dsimp only at hSw); go_simp; (try with_reducible rfl)
        (try simp only [List.getElem_toArray, List.getElem_cons_succ, List.getElem_cons_zero, Act.put, List.setIfInBounds_toArray, List.set_cons_zero, List.set_cons_succ])
        refine wpAnyH_take (i := 7) rfl (by kernel_rfl) (by kernel_rfl) (by kernel_rfl) (fun _ _ _ h => h) (Or.inr ⟨rfl, rfl⟩) (by assumption) ?_
        (try simp only [List.getElem_toArray, List.getElem_cons_succ, List.getElem_cons_zero, Act.put, List.setIfInBounds_toArray, List.set_cons_zero, List.set_cons_succ])
        refine wpAnyH_take (i := 8) rfl (by kernel_rfl) (by kernel_rfl) (by kernel_rfl) (fun _ _ _ h => h) (Or.inr ⟨rfl, rfl⟩) (by assumption) ?_
        (try simp only [List.getElem_toArray, List.getElem_cons_succ, List.getElem_cons_zero, Act.put, List.setIfInBounds_toArray, List.set_cons_zero, List.set_cons_succ])
        refine wpAnyH_take (i := 9) rfl (by kernel_rfl) (by kernel_rfl) (by kernel_rfl) (fun _ _ _ h => h) (Or.inr ⟨rfl, rfl⟩) (by assumption) ?_
        (try simp only [List.getElem_toArray, List.getElem_cons_succ, List.getElem_cons_zero, Act.put, List.setIfInBounds_toArray, List.set_cons_zero, List.set_cons_succ])
        refine wpAnyH_take (i := 10) rfl (by kernel_rfl) (by kernel_rfl) (by kernel_rfl) (fun _ _ _ h => h) (Or.inr ⟨rfl, rfl⟩) (by assumption) ?_
        (try simp only [List.getElem_toArray, List.getElem_cons_succ, List.getElem_cons_zero, Act.put, List.setIfInBounds_toArray, List.set_cons_zero, List.set_cons_succ])
        refine wpAnyH_take (i := 11) rfl (by kernel_rfl) (by kernel_rfl) (by kernel_rfl) (fun _ _ _ h => h) (Or.inr ⟨rfl, rfl⟩) (by assumption) ?_
        (try simp only [List.getElem_toArray, List.getElem_cons_succ, List.getElem_cons_zero, Act.put, List.setIfInBounds_toArray, List.set_cons_zero, List.set_cons_succ])
        refine wpAnyH_take (i := 12) rfl (by kernel_rfl) (by kernel_rfl) (by kernel_rfl) (fun _ _ _ h => h) (Or.inr ⟨rfl, rfl⟩) (by assumption) ?_
        (try simp only [List.getElem_toArray, List.getElem_cons_succ, List.getElem_cons_zero, Act.put, List.setIfInBounds_toArray, List.set_cons_zero, List.set_cons_succ])
        refine wpAnyH_take (i := 13) rfl (by kernel_rfl) (by kernel_rfl) (by kernel_rfl) (fun _ _ _ h => h) (Or.inr ⟨rfl, rfl⟩) (by assumption) ?_
        (try simp only [List.getElem_toArray, List.getElem_cons_succ, List.getElem_cons_zero, Act.put, List.setIfInBounds_toArray, List.set_cons_zero, List.set_cons_succ])
        refine wpAnyH_take (i := 14) rfl (by kernel_rfl) (by kernel_rfl) (by kernel_rfl) (fun _ _ _ h => h) (Or.inr ⟨rfl, rfl⟩) (by assumption) ?_
        (try simp only [List.getElem_toArray, List.getElem_cons_succ, List.getElem_cons_zero, Act.put, List.setIfInBounds_toArray, List.set_cons_zero, List.set_cons_succ])
        refine wpAnyH_take (i := 15) (v := ?_) rfl (by kernel_rfl) (by kernel_rfl) (by kernel_rfl) (fun _ _ _ h => h) (Or.inl ⟨rfl, ?_⟩) (by assumption) ?_
        rotate_left 1
        · intro w hSw; (try dsimp only at hSw); go_simp; (try with_reducible rfl)
        (try simp only [List.getElem_toArray, List.getElem_cons_succ, List.getElem_cons_zero, Act.put, List.setIfInBounds_toArray, List.set_cons_zero, List.set_cons_succ])
        refine wpAnyH_take (i := 16) (v := ?_) rfl (by kernel_rfl) (by kernel_rfl) (by kernel_rfl) (fun _ _ _ h => h) (Or.inl ⟨rfl, ?_⟩) (by assumption) ?_
        rotate_left 1
        · intro w hSw; (try dsimp only at hSw); go_simp; (try with_reducible rfl)
        (try simp only [List.getElem_toArray, List.getElem_cons_succ, List.getElem_cons_zero, Act.put, List.setIfInBounds_toArray, List.set_cons_zero, List.set_cons_succ])
        refine wpAnyH_take (i := 17) rfl (by kernel_rfl) (by kernel_rfl) (by kernel_rfl) (fun _ _ _ h => h) (Or.inr ⟨rfl, rfl⟩) (by assumption) ?_
        (try simp only [List.getElem_toArray, List.getElem_cons_succ, List.getElem_cons_zero, Act.put, List.setIfInBounds_toArray, List.set_cons_zero, List.set_cons_succ])
        refine wpAnyH_take (i := 18) rfl (by kernel_rfl) (by kernel_rfl) (by kernel_rfl) (fun _ _ _ h => h) (Or.inr ⟨rfl, rfl⟩) (by assumption) ?_
        (try simp only [List.getElem_toArray, List.getElem_cons_succ, List.getElem_cons_zero, Act.put, List.setIfInBounds_toArray, List.set_cons_zero, List.set_cons_succ])
        refine wpAnyH_take (i := 19) rfl (by kernel_rfl) (by kernel_rfl) (by kernel_rfl) (fun _ _ _ h => h) (Or.inr ⟨rfl, rfl⟩) (by assumption) ?_
        (try simp only [List.getElem_toArray, List.getElem_cons_succ, List.getElem_cons_zero, Act.put, List.setIfInBounds_toArray, List.set_cons_zero, List.set_cons_succ])
        refine wpAnyH_take (i := 20) rfl (by kernel_rfl) (by kernel_rfl) (by kernel_rfl) (fun _ _ _ h => h) (Or.inr ⟨rfl, rfl⟩) (by assumption) ?_
        (try simp only [List.getElem_toArray, List.getElem_cons_succ, List.getElem_cons_zero, Act.put, List.setIfInBounds_toArray, List.set_cons_zero, List.set_cons_succ])
        refine wpAnyH_take (i := 21) rfl (by kernel_rfl) (by kernel_rfl) (by kernel_rfl) (fun _ _ _ h => h) (Or.inr ⟨rfl, rfl⟩) (by assumption) ?_
        (try simp only [List.getElem_toArray, List.getElem_cons_succ, List.getElem_cons_zero, Act.put, List.setIfInBounds_toArray, List.set_cons_zero, List.set_cons_succ])
        refine wpAnyH_take (i := 22) rfl (by kernel_rfl) (by kernel_rfl) (by kernel_rfl) (fun _ _ _ h => h) (Or.inr ⟨rfl, rfl⟩) (by assumption) ?_
        (try simp only [List.getElem_toArray, List.getElem_cons_succ, List.getElem_cons_zero, Act.put, List.setIfInBounds_toArray, List.set_cons_zero, List.set_cons_succ])
        refine wpAnyH_take (i := 23) rfl (by kernel_rfl) (by kernel_rfl) (by kernel_rfl) (fun _ _ _ h => h) (Or.inr ⟨rfl, rfl⟩) (by assumption) ?_
        (try simp only [List.getElem_toArray, List.getElem_cons_succ, List.getElem_cons_zero, Act.put, List.setIfInBounds_toArray, List.set_cons_zero, List.set_cons_succ])
        refine wpAnyH_take (i := 24) rfl (by kernel_rfl) (by kernel_rfl) (by kernel_rfl) (fun _ _ _ h => h) (Or.inr ⟨rfl, rfl⟩) (by assumption) ?_
        (try simp only [List.getElem_toArray, List.getElem_cons_succ, List.getElem_cons_zero, Act.put, List.setIfInBounds_toArray, List.set_cons_zero, List.set_cons_succ])
        refine wpAnyH_take (i := 25) rfl (by kernel_rfl) (by kernel_rfl) (by kernel_rfl) (fun _ _ _ h => h) (Or.inr ⟨rfl, rfl⟩) (by assumption) ?_
        (try simp only [List.getElem_toArray, List.getElem_cons_succ, List.getElem_cons_zero, Act.put, List.setIfInBounds_toArray, List.set_cons_zero, List.set_cons_succ])
        refine wpAnyH_take (i := 26) rfl (by kernel_rfl) (by kernel_rfl) (by kernel_rfl) (fun _ _ _ h => h) (Or.inr ⟨rfl, rfl⟩) (by assumption) ?_
        (try simp only [List.getElem_toArray, List.getElem_cons_succ, List.getElem_cons_zero, Act.put, List.setIfInBounds_toArray, List.set_cons_zero, List.set_cons_succ])
        refine wpAnyH_take (i := 27) rfl (by kernel_rfl) (by kernel_rfl) (by kernel_rfl) (fun _ _ _ h => h) (Or.inr ⟨rfl, rfl⟩) (by assumption) ?_
        (try simp only [List.getElem_toArray, List.getElem_cons_succ, List.getElem_cons_zero, Act.put, List.setIfInBounds_toArray, List.set_cons_zero, List.set_cons_succ])
        refine wpAnyH_take (i := 28) (v := ?_) rfl (by kernel_rfl) (by kernel_rfl) (by kernel_rfl) (fun _ _ _ h => h) (Or.inl ⟨rfl, ?_⟩) (by assumption) ?_
        rotate_left 1
        · intro w hSw; (try dsimp only at hSw); go_simp; (try with_reducible rfl)
        (try simp only [List.getElem_toArray, List.getElem_cons_succ, List.getElem_cons_zero, Act.put, List.setIfInBounds_toArray, List.set_cons_zero, List.set_cons_succ])
        refine wpAnyH_done (by kernel_rfl) ?_ _
        go_wp2_with fail
        go_meet
        exact ⟨by rw [E.out]; rfl, (Below.refl _ _).drew.trans hb3⟩
      case false.true =>
        rw [n1, n2] at E
        rw [n1] at f0
        refine wp_region_held_drew (S := (fun w' => w'.cell? ⟨w1.heap.size, 0, none⟩ = some (.bool false) ∧ w'.cell? ⟨w.heap.size, 0, none⟩ = some (.int .i64 x.kind) ∧ w'.cell? ⟨w.heap.size, 1, none⟩ = some (.string (strOf x.name)) ∧ w'.cell? ⟨w.heap.size, 2, none⟩ = some (.slice aa x.args.length ca))) (by kernel_rfl) ?_ (fun hHeld => ?_)
        · (first | (simp [*]; done) | go_keep)
        refine wpAnyH_take (i := 0) (v := ?_) rfl (by kernel_rfl) (by kernel_rfl) (by kernel_rfl) (fun _ _ _ h => h) (Or.inl ⟨rfl, ?_⟩) (by assumption) ?_
        rotate_left 1
        · intro w hSw; (try dsimp only at hSw); go_simp; (try with_reducible rfl)
        (try simp only [List.getElem_toArray, List.getElem_cons_succ, List.getElem_cons_zero, Act.put, List.setIfInBounds_toArray, List.set_cons_zero, List.set_cons_succ])
        refine wpAnyH_take (i := 1) (v := ?_) rfl (by kernel_rfl) (by kernel_rfl) (by kernel_rfl) (fun _ _ _ h => h) (Or.inl ⟨rfl, ?_⟩) (by assumption) ?_
        rotate_left 1
        · intro w hSw; (try dsimp only at hSw); go_simp; (try with_reducible rfl)
        (try simp only [List.getElem_toArray, List.getElem_cons_succ, List.getElem_cons_zero, Act.put, List.setIfInBounds_toArray, List.set_cons_zero, List.set_cons_succ])
        refine wpAnyH_take (i := 2) (v := ?_) rfl (by kernel_rfl) (by kernel_rfl) (by kernel_rfl) (fun _ _ _ h => h) (Or.inl ⟨rfl, ?_⟩) (by assumption) ?_
        rotate_left 1
        · intro w hSw; (try dsimp only at hSw); go_simp; (try with_reducible rfl)
        (try simp only [List.getElem_toArray, List.getElem_cons_succ, List.getElem_cons_zero, Act.put, List.setIfInBounds_toArray, List.set_cons_zero, List.set_cons_succ])
        refine wpAnyH_take (i := 3) (v := ?_) rfl (by kernel_rfl) (by kernel_rfl) (by kernel_rfl) (fun _ _ _ h => h) (Or.inl ⟨rfl, ?_⟩) (by assumption) ?_
        rotate_left 1
        · intro w hSw; (try dsimp only at hSw); go_simp; (try with_reducible rfl)
        (try simp only [List.getElem_toArray, List.getElem_cons_succ, List.getElem_cons_zero, Act.put, List.setIfInBounds_toArray, List.set_cons_zero, List.set_cons_succ])
        refine wpAnyH_ready (rs := [4]) (by kernel_rfl) (by simp) ?_
        refine AllReadyH.cons rfl (fun K hK => ?_) AllReadyH.nil
        (try simp only [List.getElem_toArray, List.getElem_cons_succ, List.getElem_cons_zero])
        go_simp; go_at_call 112; refine (name_any _ _).mono ?_; rintro e w3 ⟨he, hb3⟩; rw [n2] at he; subst he; have g0 := below_keeps hb3 f0; have g1 := below_keeps hb3 k0; have g2 := below_keeps hb3 k1; have g3 := below_keeps hb3 k2; clear f0 k0 k1 k2
        refine hK.out _ _ ?_ (fun hHeld => ?_)
        · (try dsimp only); (first | (simp [*]; done) | go_keep)
        clear hK K
        (try simp only [List.getElem_toArray, List.getElem_cons_succ, List.getElem_cons_zero, Act.put, List.setIfInBounds_toArray, List.set_cons_zero, List.set_cons_succ])
        refine wpAnyH_take (i := 5) (v := ?_) rfl (by kernel_rfl) (by kernel_rfl) (by kernel_rfl) (fun _ _ _ h => h) (Or.inl ⟨rfl, ?_⟩) (by assumption) ?_
        rotate_left 1
        · intro w hSw; (try dsimp only at hSw); go_simp; (try with_reducible rfl)
        (try simp only [List.getElem_toArray, List.getElem_cons_succ, List.getElem_cons_zero, Act.put, List.setIfInBounds_toArray, List.set_cons_zero, List.set_cons_succ])
        refine wpAnyH_take (i := 6) (v := ?_) rfl (by kernel_rfl) (by kernel_rfl) (by kernel_rfl) (fun _ _ _ h => h) (Or.inl ⟨rfl, ?_⟩) (by assumption) ?_
        rotate_left 1
        · intro w hSw; (try dsimp only at hSw); go_simp; (try with_reducible rfl)
        (try simp only [List.getElem_toArray, List.getElem_cons_succ, List.getElem_cons_zero, Act.put, List.setIfInBounds_toArray, List.set_cons_zero, List.set_cons_succ])
        refine wpAnyH_take (i := 7) rfl (by kernel_rfl) (by kernel_rfl) (by kernel_rfl) (fun _ _ _ h => h) (Or.inr ⟨rfl, rfl⟩) (by assumption) ?_
        (try simp only [List.getElem_toArray, List.getElem_cons_succ, List.getElem_cons_zero, Act.put, List.setIfInBounds_toArray, List.set_cons_zero, List.set_cons_succ])
        refine wpAnyH_take (i := 8) rfl (by kernel_rfl) (by kernel_rfl) (by kernel_rfl) (fun _ _ _ h => h) (Or.inr ⟨rfl, rfl⟩) (by assumption) ?_
        (try simp only [List.getElem_toArray, List.getElem_cons_succ, List.getElem_cons_zero, Act.put, List.setIfInBounds_toArray, List.set_cons_zero, List.set_cons_succ])
        refine wpAnyH_take (i := 9) rfl (by kernel_rfl) (by kernel_rfl) (by kernel_rfl) (fun _ _ _ h => h) (Or.inr ⟨rfl, rfl⟩) (by assumption) ?_
        (try simp only [List.getElem_toArray, List.getElem_cons_succ, List.getElem_cons_zero, Act.put, List.setIfInBounds_toArray, List.set_cons_zero, List.set_cons_succ])
        refine wpAnyH_take (i := 10) rfl (by kernel_rfl) (by kernel_rfl) (by kernel_rfl) (fun _ _ _ h => h) (Or.inr ⟨rfl, rfl⟩) (by assumption) ?_
        (try simp only [List.getElem_toArray, List.getElem_cons_succ, List.getElem_cons_zero, Act.put, List.setIfInBounds_toArray, List.set_cons_zero, List.set_cons_succ])
        refine wpAnyH_take (i := 11) rfl (by kernel_rfl) (by kernel_rfl) (by kernel_rfl) (fun _ _ _ h => h) (Or.inr ⟨rfl, rfl⟩) (by assumption) ?_
        (try simp only [List.getElem_toArray, List.getElem_cons_succ, List.getElem_cons_zero, Act.put, List.setIfInBounds_toArray, List.set_cons_zero, List.set_cons_succ])
        refine wpAnyH_take (i := 12) rfl (by kernel_rfl) (by kernel_rfl) (by kernel_rfl) (fun _ _ _ h => h) (Or.inr ⟨rfl, rfl⟩) (by assumption) ?_
        (try simp only [List.getElem_toArray, List.getElem_cons_succ, List.getElem_cons_zero, Act.put, List.setIfInBounds_toArray, List.set_cons_zero, List.set_cons_succ])
        refine wpAnyH_take (i := 13) rfl (by kernel_rfl) (by kernel_rfl) (by kernel_rfl) (fun _ _ _ h => h) (Or.inr ⟨rfl, rfl⟩) (by assumption) ?_
        (try simp only [List.getElem_toArray, List.getElem_cons_succ, List.getElem_cons_zero, Act.put, List.setIfInBounds_toArray, List.set_cons_zero, List.set_cons_succ])
        refine wpAnyH_take (i := 14) rfl (by kernel_rfl) (by kernel_rfl) (by kernel_rfl) (fun _ _ _ h => h) (Or.inr ⟨rfl, rfl⟩) (by assumption) ?_
        (try simp only [List.getElem_toArray, List.getElem_cons_succ, List.getElem_cons_zero, Act.put, List.setIfInBounds_toArray, List.set_cons_zero, List.set_cons_succ])
        refine wpAnyH_take (i := 15) (v := ?_) rfl (by kernel_rfl) (by kernel_rfl) (by kernel_rfl) (fun _ _ _ h => h) (Or.inl ⟨rfl, ?_⟩) (by assumption) ?_
        rotate_left 1
        · intro w hSw; (try dsimp only at hSw); go_simp; (try with_reducible rfl)
        (try simp only [List.getElem_toArray, List.getElem_cons_succ, List.getElem_cons_zero, Act.put, List.setIfInBounds_toArray, List.set_cons_zero, List.set_cons_succ])
        refine wpAnyH_take (i := 16) (v := ?_) rfl (by kernel_rfl) (by kernel_rfl) (by kernel_rfl) (fun _ _ _ h => h) (Or.inl ⟨rfl, ?_⟩) (by assumption) ?_
        rotate_left 1
        · intro w hSw; (try dsimp only at hSw); go_simp; (try with_reducible rfl)
        (try simp only [List.getElem_toArray, List.getElem_cons_succ, List.getElem_cons_zero, Act.put, List.setIfInBounds_toArray, List.set_cons_zero, List.set_cons_succ])
        refine wpAnyH_take (i := 17) rfl (by kernel_rfl) (by kernel_rfl) (by kernel_rfl) (fun _ _ _ h => h) (Or.inr ⟨rfl, rfl⟩) (by assumption) ?_
        (try simp only [List.getElem_toArray, List.getElem_cons_succ, List.getElem_cons_zero, Act.put, List.setIfInBounds_toArray, List.set_cons_zero, List.set_cons_succ])
        refine wpAnyH_take (i := 18) rfl (by kernel_rfl) (by kernel_rfl) (by kernel_rfl) (fun _ _ _ h => h) (Or.inr ⟨rfl, rfl⟩) (by assumption) ?_
        (try simp only [List.getElem_toArray, List.getElem_cons_succ, List.getElem_cons_zero, Act.put, List.setIfInBounds_toArray, List.set_cons_zero, List.set_cons_succ])
        refine wpAnyH_take (i := 19) rfl (by kernel_rfl) (by kernel_rfl) (by kernel_rfl) (fun _ _ _ h => h) (Or.inr ⟨rfl, rfl⟩) (by assumption) ?_
        (try simp only [List.getElem_toArray, List.getElem_cons_succ, List.getElem_cons_zero, Act.put, List.setIfInBounds_toArray, List.set_cons_zero, List.set_cons_succ])
        refine wpAnyH_take (i := 20) rfl (by kernel_rfl) (by kernel_rfl) (by kernel_rfl) (fun _ _ _ h => h) (Or.inr ⟨rfl, rfl⟩) (by assumption) ?_
        (try simp only [List.getElem_toArray, List.getElem_cons_succ, List.getElem_cons_zero, Act.put, List.setIfInBounds_toArray, List.set_cons_zero, List.set_cons_succ])
        refine wpAnyH_take (i := 21) rfl (by kernel_rfl) (by kernel_rfl) (by kernel_rfl) (fun _ _ _ h => h) (Or.inr ⟨rfl, rfl⟩) (by assumption) ?_
        (try simp only [List.getElem_toArray, List.getElem_cons_succ, List.getElem_cons_zero, Act.put, List.setIfInBounds_toArray, List.set_cons_zero, List.set_cons_succ])
        refine wpAnyH_take (i := 22) rfl (by kernel_rfl) (by kernel_rfl) (by kernel_rfl) (fun _ _ _ h => h) (Or.inr ⟨rfl, rfl⟩) (by assumption) ?_
        (try simp only [List.getElem_toArray, List.getElem_cons_succ, List.getElem_cons_zero, Act.put, List.setIfInBounds_toArray, List.set_cons_zero, List.set_cons_succ])
        refine wpAnyH_take (i := 23) rfl (by kernel_rfl) (by kernel_rfl) (by kernel_rfl) (fun _ _ _ h => h) (Or.inr ⟨rfl, rfl⟩) (by assumption) ?_
        (try simp only [List.getElem_toArray, List.getElem_cons_succ, List.getElem_cons_zero, Act.put, List.setIfInBounds_toArray, List.set_cons_zero, List.set_cons_succ])
        refine wpAnyH_take (i := 24) rfl (by kernel_rfl) (by kernel_rfl) (by kernel_rfl) (fun _ _ _ h => h) (Or.inr ⟨rfl, rfl⟩) (by assumption) ?_
        (try simp only [List.getElem_toArray, List.getElem_cons_succ, List.getElem_cons_zero, Act.put, List.setIfInBounds_toArray, List.set_cons_zero, List.set_cons_succ])
        refine wpAnyH_take (i := 25) rfl (by kernel_rfl) (by kernel_rfl) (by kernel_rfl) (fun _ _ _ h => h) (Or.inr ⟨rfl, rfl⟩) (by assumption) ?_
        (try simp only [List.getElem_toArray, List.getElem_cons_succ, List.getElem_cons_zero, Act.put, List.setIfInBounds_toArray, List.set_cons_zero, List.set_cons_succ])
        refine wpAnyH_take (i := 26) rfl (by kernel_rfl) (by kernel_rfl) (by kernel_rfl) (fun _ _ _ h => h) (Or.inr ⟨rfl, rfl⟩) (by assumption) ?_
        (try simp only [List.getElem_toArray, List.getElem_cons_succ, List.getElem_cons_zero, Act.put, List.setIfInBounds_toArray, List.set_cons_zero, List.set_cons_succ])
        refine wpAnyH_take (i := 27) rfl (by kernel_rfl) (by kernel_rfl) (by kernel_rfl) (fun _ _ _ h => h) (Or.inr ⟨rfl, rfl⟩) (by assumption) ?_
        (try simp only [List.getElem_toArray, List.getElem_cons_succ, List.getElem_cons_zero, Act.put, List.setIfInBounds_toArray, List.set_cons_zero, List.set_cons_succ])
        refine wpAnyH_take (i := 28) (v := ?_) rfl (by kernel_rfl) (by kernel_rfl) (by kernel_rfl) (fun _ _ _ h => h) (Or.inl ⟨rfl, ?_⟩) (by assumption) ?_
        rotate_left 1
        · intro w hSw; (try dsimp only at hSw); go_simp; (try with_reducible rfl)
        (try simp only [List.getElem_toArray, List.getElem_cons_succ, List.getElem_cons_zero, Act.put, List.setIfInBounds_toArray, List.set_cons_zero, List.set_cons_succ])
        refine wpAnyH_done (by kernel_rfl) ?_ _
        go_wp2_with fail
        go_meet
        exact ⟨by rw [E.out]; rfl, (Below.refl _ _).drew.trans hb3⟩
      case true.true =>
        have n3 : (x.kind == 10) = false := by simp [fNamed] at n1; simp; omega
        rw [n1, n2, n3] at E
        rw [n1] at f0
        refine wp_region_held_drew (S := (fun w' => w'.cell? ⟨w1.heap.size, 0, none⟩ = some (.bool true) ∧ w'.cell? ⟨w.heap.size, 0, none⟩ = some (.int .i64 x.kind) ∧ w'.cell? ⟨w.heap.size, 1, none⟩ = some (.string (strOf x.name)) ∧ w'.cell? ⟨w.heap.size, 2, none⟩ = some (.slice aa x.args.length ca))) (by kernel_rfl) ?_ (fun hHeld => ?_)
        · (first | (simp [*]; done) | go_keep)
        refine wpAnyH_take (i := 0) (v := ?_) rfl (by kernel_rfl) (by kernel_rfl) (by kernel_rfl) (fun _ _ _ h => h) (Or.inl ⟨rfl, ?_⟩) (by assumption) ?_
        rotate_left 1
        · intro w hSw; (try dsimp only at hSw); go_simp; (try with_reducible rfl)
        (try simp only [List.getElem_toArray, List.getElem_cons_succ, List.getElem_cons_zero, Act.put, List.setIfInBounds_toArray, List.set_cons_zero, List.set_cons_succ])
        refine wpAnyH_take (i := 1) (v := ?_) rfl (by kernel_rfl) (by kernel_rfl) (by kernel_rfl) (fun _ _ _ h => h) (Or.inl ⟨rfl, ?_⟩) (by assumption) ?_
        rotate_left 1
        · intro w hSw; (try dsimp only at hSw); go_simp; (try with_reducible rfl)
        (try simp only [List.getElem_toArray, List.getElem_cons_succ, List.getElem_cons_zero, Act.put, List.setIfInBounds_toArray, List.set_cons_zero, List.set_cons_succ])
        refine wpAnyH_take (i := 2) (v := ?_) rfl (by kernel_rfl) (by kernel_rfl) (by kernel_rfl) (fun _ _ _ h => h) (Or.inl ⟨rfl, ?_⟩) (by assumption) ?_
        rotate_left 1
        · intro w hSw; (try dsimp only at hSw); go_simp; (try with_reducible rfl)
        (try simp only [List.getElem_toArray, List.getElem_cons_succ, List.getElem_cons_zero, Act.put, List.setIfInBounds_toArray, List.set_cons_zero, List.set_cons_succ])
        refine wpAnyH_take (i := 3) (v := ?_) rfl (by kernel_rfl) (by kernel_rfl) (by kernel_rfl) (fun _ _ _ h => h) (Or.inl ⟨rfl, ?_⟩) (by assumption) ?_
        rotate_left 1
        · intro w hSw; (try dsimp only at hSw); go_simp; (try with_reducible rfl)
        (try simp only [List.getElem_toArray, List.getElem_cons_succ, List.getElem_cons_zero, Act.put, List.setIfInBounds_toArray, List.set_cons_zero, List.set_cons_succ])
        refine wpAnyH_ready (rs := [4]) (by kernel_rfl) (by simp) ?_
        refine AllReadyH.cons rfl (fun K hK => ?_) AllReadyH.nil
        (try simp only [List.getElem_toArray, List.getElem_cons_succ, List.getElem_cons_zero])
        go_simp; go_at_call 112; refine (name_any _ _).mono ?_; rintro e w3 ⟨he, hb3⟩; rw [n2] at he; subst he; have g0 := below_keeps hb3 f0; have g1 := below_keeps hb3 k0; have g2 := below_keeps hb3 k1; have g3 := below_keeps hb3 k2; clear f0 k0 k1 k2
        refine hK.out _ _ ?_ (fun hHeld => ?_)
        · (try dsimp only); (first | (simp [*]; done) | go_keep)
        clear hK K
        (try simp only [List.getElem_toArray, List.getElem_cons_succ, List.getElem_cons_zero, Act.put, List.setIfInBounds_toArray, List.set_cons_zero, List.set_cons_succ])
        refine wpAnyH_take (i := 5) (v := ?_) rfl (by kernel_rfl) (by kernel_rfl) (by kernel_rfl) (fun _ _ _ h => h) (Or.inl ⟨rfl, ?_⟩) (by assumption) ?_
        rotate_left 1
        · intro w hSw; (try dsimp only at hSw); go_simp; (try with_reducible rfl)
        (try simp only [List.getElem_toArray, List.getElem_cons_succ, List.getElem_cons_zero, Act.put, List.setIfInBounds_toArray, List.set_cons_zero, List.set_cons_succ])
        refine wpAnyH_take (i := 6) (v := ?_) rfl (by kernel_rfl) (by kernel_rfl) (by kernel_rfl) (fun _ _ _ h => h) (Or.inl ⟨rfl, ?_⟩) (by assumption) ?_
        rotate_left 1
        · intro w hSw; (try dsimp only at hSw); go_simp; (try with_reducible rfl)
        (try simp only [List.getElem_toArray, List.getElem_cons_succ, List.getElem_cons_zero, Act.put, List.setIfInBounds_toArray, List.set_cons_zero, List.set_cons_succ])
        refine wpAnyH_take (i := 7) (v := ?_) rfl (by kernel_rfl) (by kernel_rfl) (by kernel_rfl) (fun _ _ _ h => h) (Or.inl ⟨rfl, ?_⟩) (by assumption) ?_
        rotate_left 1
        · intro w hSw; (try dsimp only at hSw); go_simp; (try with_reducible rfl)
        (try simp only [List.getElem_toArray, List.getElem_cons_succ, List.getElem_cons_zero, Act.put, List.setIfInBounds_toArray, List.set_cons_zero, List.set_cons_succ])
        refine wpAnyH_take (i := 8) (v := ?_) rfl (by kernel_rfl) (by kernel_rfl) (by kernel_rfl) (fun _ _ _ h => h) (Or.inl ⟨rfl, ?_⟩) (by assumption) ?_
        rotate_left 1
        · intro w hSw; (try dsimp only at hSw); go_simp; (try with_reducible rfl)
        (try simp only [List.getElem_toArray, List.getElem_cons_succ, List.getElem_cons_zero, Act.put, List.setIfInBounds_toArray, List.set_cons_zero, List.set_cons_succ])
        refine wpAnyH_take (i := 9) (v := ?_) rfl (by kernel_rfl) (by kernel_rfl) (by kernel_rfl) (fun _ _ _ h => h) (Or.inl ⟨rfl, ?_⟩) (by assumption) ?_
        rotate_left 1
        · intro w hSw; (try dsimp only at hSw); go_simp; (try with_reducible rfl)
        (try simp only [List.getElem_toArray, List.getElem_cons_succ, List.getElem_cons_zero, Act.put, List.setIfInBounds_toArray, List.set_cons_zero, List.set_cons_succ])
        refine wpAnyH_take (i := 10) (v := ?_) rfl (by kernel_rfl) (by kernel_rfl) (by kernel_rfl) (fun _ _ _ h => h) (Or.inl ⟨rfl, ?_⟩) (by assumption) ?_
        rotate_left 1
        · intro w hSw; (try dsimp only at hSw); go_simp; (try with_reducible rfl)
        (try simp only [List.getElem_toArray, List.getElem_cons_succ, List.getElem_cons_zero, Act.put, List.setIfInBounds_toArray, List.set_cons_zero, List.set_cons_succ])
        refine wpAnyH_take (i := 11) rfl (by kernel_rfl) (by kernel_rfl) (by kernel_rfl) (fun _ _ _ h => h) (Or.inr ⟨rfl, rfl⟩) (by assumption) ?_
        (try simp only [List.getElem_toArray, List.getElem_cons_succ, List.getElem_cons_zero, Act.put, List.setIfInBounds_toArray, List.set_cons_zero, List.set_cons_succ])
        refine wpAnyH_take (i := 12) rfl (by kernel_rfl) (by kernel_rfl) (by kernel_rfl) (fun _ _ _ h => h) (Or.inr ⟨rfl, rfl⟩) (by assumption) ?_
        (try simp only [List.getElem_toArray, List.getElem_cons_succ, List.getElem_cons_zero, Act.put, List.setIfInBounds_toArray, List.set_cons_zero, List.set_cons_succ])
        refine wpAnyH_take (i := 13) rfl (by kernel_rfl) (by kernel_rfl) (by kernel_rfl) (fun _ _ _ h => h) (Or.inr ⟨rfl, rfl⟩) (by assumption) ?_
        (try simp only [List.getElem_toArray, List.getElem_cons_succ, List.getElem_cons_zero, Act.put, List.setIfInBounds_toArray, List.set_cons_zero, List.set_cons_succ])
        refine wpAnyH_take (i := 14) (v := ?_) rfl (by kernel_rfl) (by kernel_rfl) (by kernel_rfl) (fun _ _ _ h => h) (Or.inl ⟨rfl, ?_⟩) (by assumption) ?_
        rotate_left 1
        · intro w hSw; (try dsimp only at hSw); go_simp; (try with_reducible rfl)
        (try simp only [List.getElem_toArray, List.getElem_cons_succ, List.getElem_cons_zero, Act.put, List.setIfInBounds_toArray, List.set_cons_zero, List.set_cons_succ])
        refine wpAnyH_take (i := 15) (v := ?_) rfl (by kernel_rfl) (by kernel_rfl) (by kernel_rfl) (fun _ _ _ h => h) (Or.inl ⟨rfl, ?_⟩) (by assumption) ?_
        rotate_left 1
        · intro w hSw; (try dsimp only at hSw); go_simp; (try with_reducible rfl)
        (try simp only [List.getElem_toArray, List.getElem_cons_succ, List.getElem_cons_zero, Act.put, List.setIfInBounds_toArray, List.set_cons_zero, List.set_cons_succ])
        refine wpAnyH_take (i := 16) (v := ?_) rfl (by kernel_rfl) (by kernel_rfl) (by kernel_rfl) (fun _ _ _ h => h) (Or.inl ⟨rfl, ?_⟩) (by assumption) ?_
        rotate_left 1
        · intro w hSw; (try dsimp only at hSw); go_simp; (try with_reducible rfl)
        (try simp only [List.getElem_toArray, List.getElem_cons_succ, List.getElem_cons_zero, Act.put, List.setIfInBounds_toArray, List.set_cons_zero, List.set_cons_succ])
        refine wpAnyH_take (i := 17) (v := ?_) rfl (by kernel_rfl) (by kernel_rfl) (by kernel_rfl) (fun _ _ _ h => h) (Or.inl ⟨rfl, ?_⟩) (by assumption) ?_
        rotate_left 1
        · intro w hSw; (try dsimp only at hSw); go_simp; (try with_reducible rfl)
        (try simp only [List.getElem_toArray, List.getElem_cons_succ, List.getElem_cons_zero, Act.put, List.setIfInBounds_toArray, List.set_cons_zero, List.set_cons_succ])
        refine wpAnyH_take (i := 18) (v := ?_) rfl (by kernel_rfl) (by kernel_rfl) (by kernel_rfl) (fun _ _ _ h => h) (Or.inl ⟨rfl, ?_⟩) (by assumption) ?_
        rotate_left 1
        · intro w hSw; (try dsimp only at hSw); go_simp; (try with_reducible rfl)
        (try simp only [List.getElem_toArray, List.getElem_cons_succ, List.getElem_cons_zero, Act.put, List.setIfInBounds_toArray, List.set_cons_zero, List.set_cons_succ])
        refine wpAnyH_take (i := 19) (v := ?_) rfl (by kernel_rfl) (by kernel_rfl) (by kernel_rfl) (fun _ _ _ h => h) (Or.inl ⟨rfl, ?_⟩) (by assumption) ?_
        rotate_left 1
        · intro w hSw; (try dsimp only at hSw); go_simp; (try with_reducible rfl)
        (try simp only [List.getElem_toArray, List.getElem_cons_succ, List.getElem_cons_zero, Act.put, List.setIfInBounds_toArray, List.set_cons_zero, List.set_cons_succ])
        refine wpAnyH_take (i := 20) (v := ?_) rfl (by kernel_rfl) (by kernel_rfl) (by kernel_rfl) (fun _ _ _ h => h) (Or.inl ⟨rfl, ?_⟩) (by assumption) ?_
        rotate_left 1
        · intro w hSw; (try dsimp only at hSw); go_simp; (try with_reducible rfl)
        (try simp only [List.getElem_toArray, List.getElem_cons_succ, List.getElem_cons_zero, Act.put, List.setIfInBounds_toArray, List.set_cons_zero, List.set_cons_succ])
        refine wpAnyH_take (i := 21) rfl (by kernel_rfl) (by kernel_rfl) (by kernel_rfl) (fun _ _ _ h => h) (Or.inr ⟨rfl, rfl⟩) (by assumption) ?_
        (try simp only [List.getElem_toArray, List.getElem_cons_succ, List.getElem_cons_zero, Act.put, List.setIfInBounds_toArray, List.set_cons_zero, List.set_cons_succ])
        refine wpAnyH_take (i := 22) rfl (by kernel_rfl) (by kernel_rfl) (by kernel_rfl) (fun _ _ _ h => h) (Or.inr ⟨rfl, rfl⟩) (by assumption) ?_
        (try simp only [List.getElem_toArray, List.getElem_cons_succ, List.getElem_cons_zero, Act.put, List.setIfInBounds_toArray, List.set_cons_zero, List.set_cons_succ])
        refine wpAnyH_take (i := 23) rfl (by kernel_rfl) (by kernel_rfl) (by kernel_rfl) (fun _ _ _ h => h) (Or.inr ⟨rfl, rfl⟩) (by assumption) ?_
        (try simp only [List.getElem_toArray, List.getElem_cons_succ, List.getElem_cons_zero, Act.put, List.setIfInBounds_toArray, List.set_cons_zero, List.set_cons_succ])
        refine wpAnyH_take (i := 24) rfl (by kernel_rfl) (by kernel_rfl) (by kernel_rfl) (fun _ _ _ h => h) (Or.inr ⟨rfl, rfl⟩) (by assumption) ?_
        (try simp only [List.getElem_toArray, List.getElem_cons_succ, List.getElem_cons_zero, Act.put, List.setIfInBounds_toArray, List.set_cons_zero, List.set_cons_succ])
        refine wpAnyH_take (i := 25) rfl (by kernel_rfl) (by kernel_rfl) (by kernel_rfl) (fun _ _ _ h => h) (Or.inr ⟨rfl, rfl⟩) (by assumption) ?_
        (try simp only [List.getElem_toArray, List.getElem_cons_succ, List.getElem_cons_zero, Act.put, List.setIfInBounds_toArray, List.set_cons_zero, List.set_cons_succ])
        refine wpAnyH_take (i := 26) rfl (by kernel_rfl) (by kernel_rfl) (by kernel_rfl) (fun _ _ _ h => h) (Or.inr ⟨rfl, rfl⟩) (by assumption) ?_
        (try simp only [List.getElem_toArray, List.getElem_cons_succ, List.getElem_cons_zero, Act.put, List.setIfInBounds_toArray, List.set_cons_zero, List.set_cons_succ])
        refine wpAnyH_take (i := 27) (v := ?_) rfl (by kernel_rfl) (by kernel_rfl) (by kernel_rfl) (fun _ _ _ h => h) (Or.inl ⟨rfl, ?_⟩) (by assumption) ?_
        rotate_left 1
        · intro w hSw; (try dsimp only at hSw); go_simp; (try with_reducible rfl)
        (try simp only [List.getElem_toArray, List.getElem_cons_succ, List.getElem_cons_zero, Act.put, List.setIfInBounds_toArray, List.set_cons_zero, List.set_cons_succ])
        refine wpAnyH_take (i := 28) (v := ?_) rfl (by kernel_rfl) (by kernel_rfl) (by kernel_rfl) (fun _ _ _ h => h) (Or.inl ⟨rfl, ?_⟩) (by assumption) ?_
        rotate_left 1
        · intro w hSw; (try dsimp only at hSw); go_simp; (try with_reducible rfl)
        (try simp only [List.getElem_toArray, List.getElem_cons_succ, List.getElem_cons_zero, Act.put, List.setIfInBounds_toArray, List.set_cons_zero, List.set_cons_succ])
        refine wpAnyH_done (by kernel_rfl) ?_ _
        go_wp2_with fail
        go_meet
        exact ⟨by rw [E.out]; rfl, (Below.refl _ _).drew.trans hb3⟩
      case false.false =>
        cases n4 : (x.name == [])
        · rw [n1, n2, n4] at E
          rw [n1] at f0
          have n5 : x.name.isEmpty = false := by simpa using n4
          refine wp_region_held_drew (S := (fun w' => w'.cell? ⟨w1.heap.size, 0, none⟩ = some (.bool false) ∧ w'.cell? ⟨w.heap.size, 0, none⟩ = some (.int .i64 x.kind) ∧ w'.cell? ⟨w.heap.size, 1, none⟩ = some (.string (strOf x.name)) ∧ w'.cell? ⟨w.heap.size, 2, none⟩ = some (.slice aa x.args.length ca))) (by kernel_rfl) ?_ (fun hHeld => ?_)
          · (first | (simp [*]; done) | go_keep)
          refine wpAnyH_take (i := 0) (v := ?_) rfl (by kernel_rfl) (by kernel_rfl) (by kernel_rfl) (fun _ _ _ h => h) (Or.inl ⟨rfl, ?_⟩) (by assumption) ?_
          rotate_left 1
          · intro w hSw; (try dsimp only at hSw); go_simp; (try with_reducible rfl)
          (try simp only [List.getElem_toArray, List.getElem_cons_succ, List.getElem_cons_zero, Act.put, List.setIfInBounds_toArray, List.set_cons_zero, List.set_cons_succ])
          refine wpAnyH_take (i := 1) (v := ?_) rfl (by kernel_rfl) (by kernel_rfl) (by kernel_rfl) (fun _ _ _ h => h) (Or.inl ⟨rfl, ?_⟩) (by assumption) ?_
          rotate_left 1
          · intro w hSw; (try dsimp only at hSw); go_simp; (try with_reducible rfl)
          (try simp only [List.getElem_toArray, List.getElem_cons_succ, List.getElem_cons_zero, Act.put, List.setIfInBounds_toArray, List.set_cons_zero, List.set_cons_succ])
          refine wpAnyH_take (i := 2) (v := ?_) rfl (by kernel_rfl) (by kernel_rfl) (by kernel_rfl) (fun _ _ _ h => h) (Or.inl ⟨rfl, ?_⟩) (by assumption) ?_
          rotate_left 1
          · intro w hSw; (try dsimp only at hSw); go_simp; (try with_reducible rfl)
          (try simp only [List.getElem_toArray, List.getElem_cons_succ, List.getElem_cons_zero, Act.put, List.setIfInBounds_toArray, List.set_cons_zero, List.set_cons_succ])
          refine wpAnyH_take (i := 3) (v := ?_) rfl (by kernel_rfl) (by kernel_rfl) (by kernel_rfl) (fun _ _ _ h => h) (Or.inl ⟨rfl, ?_⟩) (by assumption) ?_
          rotate_left 1
          · intro w hSw; (try dsimp only at hSw); go_simp; (try with_reducible rfl)
          (try simp only [List.getElem_toArray, List.getElem_cons_succ, List.getElem_cons_zero, Act.put, List.setIfInBounds_toArray, List.set_cons_zero, List.set_cons_succ])
          refine wpAnyH_ready (rs := [4]) (by kernel_rfl) (by simp) ?_
          refine AllReadyH.cons rfl (fun K hK => ?_) AllReadyH.nil
          (try simp only [List.getElem_toArray, List.getElem_cons_succ, List.getElem_cons_zero])
          go_simp; go_at_call 112; refine (name_any _ _).mono ?_; rintro e w3 ⟨he, hb3⟩; rw [n2] at he; subst he; have g0 := below_keeps hb3 f0; have g1 := below_keeps hb3 k0; have g2 := below_keeps hb3 k1; have g3 := below_keeps hb3 k2; clear f0 k0 k1 k2
          refine hK.out _ _ ?_ (fun hHeld => ?_)
          · (try dsimp only); (first | (simp [*]; done) | go_keep)
          clear hK K
          (try simp only [List.getElem_toArray, List.getElem_cons_succ, List.getElem_cons_zero, Act.put, List.setIfInBounds_toArray, List.set_cons_zero, List.set_cons_succ])
          refine wpAnyH_take (i := 5) (v := ?_) rfl (by kernel_rfl) (by kernel_rfl) (by kernel_rfl) (fun _ _ _ h => h) (Or.inl ⟨rfl, ?_⟩) (by assumption) ?_
          rotate_left 1
          · intro w hSw; (try dsimp only at hSw); go_simp; (try with_reducible rfl)
          (try simp only [List.getElem_toArray, List.getElem_cons_succ, List.getElem_cons_zero, Act.put, List.setIfInBounds_toArray, List.set_cons_zero, List.set_cons_succ])
          refine wpAnyH_take (i := 6) (v := ?_) rfl (by kernel_rfl) (by kernel_rfl) (by kernel_rfl) (fun _ _ _ h => h) (Or.inl ⟨rfl, ?_⟩) (by assumption) ?_
          rotate_left 1
          · intro w hSw; (try dsimp only at hSw); go_simp; (try with_reducible rfl)
          (try simp only [List.getElem_toArray, List.getElem_cons_succ, List.getElem_cons_zero, Act.put, List.setIfInBounds_toArray, List.set_cons_zero, List.set_cons_succ])
          refine wpAnyH_take (i := 7) (v := ?_) rfl (by kernel_rfl) (by kernel_rfl) (by kernel_rfl) (fun _ _ _ h => h) (Or.inl ⟨rfl, ?_⟩) (by assumption) ?_
          rotate_left 1
          · intro w hSw; (try dsimp only at hSw); go_simp; (try with_reducible rfl)
          (try simp only [List.getElem_toArray, List.getElem_cons_succ, List.getElem_cons_zero, Act.put, List.setIfInBounds_toArray, List.set_cons_zero, List.set_cons_succ])
          refine wpAnyH_take (i := 8) (v := ?_) rfl (by kernel_rfl) (by kernel_rfl) (by kernel_rfl) (fun _ _ _ h => h) (Or.inl ⟨rfl, ?_⟩) (by assumption) ?_
          rotate_left 1
          · intro w hSw; (try dsimp only at hSw); go_simp; (try with_reducible rfl)
          (try simp only [List.getElem_toArray, List.getElem_cons_succ, List.getElem_cons_zero, Act.put, List.setIfInBounds_toArray, List.set_cons_zero, List.set_cons_succ])
          refine wpAnyH_take (i := 9) (v := ?_) rfl (by kernel_rfl) (by kernel_rfl) (by kernel_rfl) (fun _ _ _ h => h) (Or.inl ⟨rfl, ?_⟩) (by assumption) ?_
          rotate_left 1
          · intro w hSw; (try dsimp only at hSw); go_simp; (try with_reducible rfl)
          (try simp only [List.getElem_toArray, List.getElem_cons_succ, List.getElem_cons_zero, Act.put, List.setIfInBounds_toArray, List.set_cons_zero, List.set_cons_succ])
          refine wpAnyH_take (i := 10) (v := ?_) rfl (by kernel_rfl) (by kernel_rfl) (by kernel_rfl) (fun _ _ _ h => h) (Or.inl ⟨rfl, ?_⟩) (by assumption) ?_
          rotate_left 1
          · intro w hSw; (try dsimp only at hSw); go_simp; (try with_reducible rfl)
          (try simp only [List.getElem_toArray, List.getElem_cons_succ, List.getElem_cons_zero, Act.put, List.setIfInBounds_toArray, List.set_cons_zero, List.set_cons_succ])
          refine wpAnyH_take (i := 11) (v := ?_) rfl (by kernel_rfl) (by kernel_rfl) (by kernel_rfl) (fun _ _ _ h => h) (Or.inl ⟨rfl, ?_⟩) (by assumption) ?_
          rotate_left 1
          · intro w hSw; (try dsimp only at hSw); go_simp; (try with_reducible rfl)
          (try simp only [List.getElem_toArray, List.getElem_cons_succ, List.getElem_cons_zero, Act.put, List.setIfInBounds_toArray, List.set_cons_zero, List.set_cons_succ])
          refine wpAnyH_take (i := 12) (v := ?_) rfl (by kernel_rfl) (by kernel_rfl) (by kernel_rfl) (fun _ _ _ h => h) (Or.inl ⟨rfl, ?_⟩) (by assumption) ?_
          rotate_left 1
          · intro w hSw; (try dsimp only at hSw); go_simp; (try with_reducible rfl)
          (try simp only [List.getElem_toArray, List.getElem_cons_succ, List.getElem_cons_zero, Act.put, List.setIfInBounds_toArray, List.set_cons_zero, List.set_cons_succ])
          refine wpAnyH_take (i := 13) (v := ?_) rfl (by kernel_rfl) (by kernel_rfl) (by kernel_rfl) (fun _ _ _ h => h) (Or.inl ⟨rfl, ?_⟩) (by assumption) ?_
          rotate_left 1
          · intro w hSw; (try dsimp only at hSw); go_simp; (try with_reducible rfl)
          (try simp only [List.getElem_toArray, List.getElem_cons_succ, List.getElem_cons_zero, Act.put, List.setIfInBounds_toArray, List.set_cons_zero, List.set_cons_succ])
          refine wpAnyH_take (i := 14) (v := ?_) rfl (by kernel_rfl) (by kernel_rfl) (by kernel_rfl) (fun _ _ _ h => h) (Or.inl ⟨rfl, ?_⟩) (by assumption) ?_
          rotate_left 1
          · intro w hSw; (try dsimp only at hSw); go_simp; (try with_reducible rfl)
          (try simp only [List.getElem_toArray, List.getElem_cons_succ, List.getElem_cons_zero, Act.put, List.setIfInBounds_toArray, List.set_cons_zero, List.set_cons_succ])
          refine wpAnyH_take (i := 15) (v := ?_) rfl (by kernel_rfl) (by kernel_rfl) (by kernel_rfl) (fun _ _ _ h => h) (Or.inl ⟨rfl, ?_⟩) (by assumption) ?_
          rotate_left 1
          · intro w hSw; (try dsimp only at hSw); go_simp; (try with_reducible rfl)
          (try simp only [List.getElem_toArray, List.getElem_cons_succ, List.getElem_cons_zero, Act.put, List.setIfInBounds_toArray, List.set_cons_zero, List.set_cons_succ])
          refine wpAnyH_take (i := 16) (v := ?_) rfl (by kernel_rfl) (by kernel_rfl) (by kernel_rfl) (fun _ _ _ h => h) (Or.inl ⟨rfl, ?_⟩) (by assumption) ?_
          rotate_left 1
          · intro w hSw; (try dsimp only at hSw); go_simp; (try with_reducible rfl)
          (try simp only [List.getElem_toArray, List.getElem_cons_succ, List.getElem_cons_zero, Act.put, List.setIfInBounds_toArray, List.set_cons_zero, List.set_cons_succ])
          refine wpAnyH_take (i := 17) rfl (by kernel_rfl) (by kernel_rfl) (by kernel_rfl) (fun _ _ _ h => h) (Or.inr ⟨rfl, rfl⟩) (by assumption) ?_
          (try simp only [List.getElem_toArray, List.getElem_cons_succ, List.getElem_cons_zero, Act.put, List.setIfInBounds_toArray, List.set_cons_zero, List.set_cons_succ])
          refine wpAnyH_take (i := 18) rfl (by kernel_rfl) (by kernel_rfl) (by kernel_rfl) (fun _ _ _ h => h) (Or.inr ⟨rfl, rfl⟩) (by assumption) ?_
          (try simp only [List.getElem_toArray, List.getElem_cons_succ, List.getElem_cons_zero, Act.put, List.setIfInBounds_toArray, List.set_cons_zero, List.set_cons_succ])
          refine wpAnyH_take (i := 19) rfl (by kernel_rfl) (by kernel_rfl) (by kernel_rfl) (fun _ _ _ h => h) (Or.inr ⟨rfl, rfl⟩) (by assumption) ?_
          (try simp only [List.getElem_toArray, List.getElem_cons_succ, List.getElem_cons_zero, Act.put, List.setIfInBounds_toArray, List.set_cons_zero, List.set_cons_succ])
          refine wpAnyH_take (i := 20) rfl (by kernel_rfl) (by kernel_rfl) (by kernel_rfl) (fun _ _ _ h => h) (Or.inr ⟨rfl, rfl⟩) (by assumption) ?_
          (try simp only [List.getElem_toArray, List.getElem_cons_succ, List.getElem_cons_zero, Act.put, List.setIfInBounds_toArray, List.set_cons_zero, List.set_cons_succ])
          refine wpAnyH_take (i := 21) rfl (by kernel_rfl) (by kernel_rfl) (by kernel_rfl) (fun _ _ _ h => h) (Or.inr ⟨rfl, rfl⟩) (by assumption) ?_
          (try simp only [List.getElem_toArray, List.getElem_cons_succ, List.getElem_cons_zero, Act.put, List.setIfInBounds_toArray, List.set_cons_zero, List.set_cons_succ])
          refine wpAnyH_take (i := 22) rfl (by kernel_rfl) (by kernel_rfl) (by kernel_rfl) (fun _ _ _ h => h) (Or.inr ⟨rfl, rfl⟩) (by assumption) ?_
          (try simp only [List.getElem_toArray, List.getElem_cons_succ, List.getElem_cons_zero, Act.put, List.setIfInBounds_toArray, List.set_cons_zero, List.set_cons_succ])
          refine wpAnyH_take (i := 23) rfl (by kernel_rfl) (by kernel_rfl) (by kernel_rfl) (fun _ _ _ h => h) (Or.inr ⟨rfl, rfl⟩) (by assumption) ?_
          (try simp only [List.getElem_toArray, List.getElem_cons_succ, List.getElem_cons_zero, Act.put, List.setIfInBounds_toArray, List.set_cons_zero, List.set_cons_succ])
          refine wpAnyH_take (i := 24) rfl (by kernel_rfl) (by kernel_rfl) (by kernel_rfl) (fun _ _ _ h => h) (Or.inr ⟨rfl, rfl⟩) (by assumption) ?_
          (try simp only [List.getElem_toArray, List.getElem_cons_succ, List.getElem_cons_zero, Act.put, List.setIfInBounds_toArray, List.set_cons_zero, List.set_cons_succ])
          refine wpAnyH_take (i := 25) rfl (by kernel_rfl) (by kernel_rfl) (by kernel_rfl) (fun _ _ _ h => h) (Or.inr ⟨rfl, rfl⟩) (by assumption) ?_
          (try simp only [List.getElem_toArray, List.getElem_cons_succ, List.getElem_cons_zero, Act.put, List.setIfInBounds_toArray, List.set_cons_zero, List.set_cons_succ])
          refine wpAnyH_take (i := 26) rfl (by kernel_rfl) (by kernel_rfl) (by kernel_rfl) (fun _ _ _ h => h) (Or.inr ⟨rfl, rfl⟩) (by assumption) ?_
          (try simp only [List.getElem_toArray, List.getElem_cons_succ, List.getElem_cons_zero, Act.put, List.setIfInBounds_toArray, List.set_cons_zero, List.set_cons_succ])
          refine wpAnyH_take (i := 27) rfl (by kernel_rfl) (by kernel_rfl) (by kernel_rfl) (fun _ _ _ h => h) (Or.inr ⟨rfl, rfl⟩) (by assumption) ?_
          (try simp only [List.getElem_toArray, List.getElem_cons_succ, List.getElem_cons_zero, Act.put, List.setIfInBounds_toArray, List.set_cons_zero, List.set_cons_succ])
          refine wpAnyH_take (i := 28) (v := ?_) rfl (by kernel_rfl) (by kernel_rfl) (by kernel_rfl) (fun _ _ _ h => h) (Or.inl ⟨rfl, ?_⟩) (by assumption) ?_
          rotate_left 1
          · intro w hSw; (try dsimp only at hSw); go_simp; (try with_reducible rfl)
          (try simp only [List.getElem_toArray, List.getElem_cons_succ, List.getElem_cons_zero, Act.put, List.setIfInBounds_toArray, List.set_cons_zero, List.set_cons_succ])
          refine wpAnyH_done (by kernel_rfl) ?_ _
          go_wp2_with fail
          go_meet
          exact ⟨by rw [E.out]; rfl, (Below.refl _ _).drew.trans hb3⟩
        · cases n3 : (x.kind == 10)
          · rw [n1, n2, n4, n3] at E
            rw [n1] at f0
            have n5 : x.name.isEmpty = true := by simpa using n4
            clear n4
            refine wp_region_held_drew (S := (fun w' => w'.cell? ⟨w1.heap.size, 0, none⟩ = some (.bool false) ∧ w'.cell? ⟨w.heap.size, 0, none⟩ = some (.int .i64 x.kind) ∧ w'.cell? ⟨w.heap.size, 1, none⟩ = some (.string (strOf x.name)) ∧ w'.cell? ⟨w.heap.size, 2, none⟩ = some (.slice aa x.args.length ca))) (by kernel_rfl) ?_ (fun hHeld => ?_)
            · (first | (simp [*]; done) | go_keep)
            refine wpAnyH_take (i := 0) (v := ?_) rfl (by kernel_rfl) (by kernel_rfl) (by kernel_rfl) (fun _ _ _ h => h) (Or.inl ⟨rfl, ?_⟩) (by assumption) ?_
            rotate_left 1
            · intro w hSw; (try dsimp only at hSw); go_simp; (try with_reducible rfl)
            (try simp only [List.getElem_toArray, List.getElem_cons_succ, List.getElem_cons_zero, Act.put, List.setIfInBounds_toArray, List.set_cons_zero, List.set_cons_succ])
            refine wpAnyH_take (i := 1) (v := ?_) rfl (by kernel_rfl) (by kernel_rfl) (by kernel_rfl) (fun _ _ _ h => h) (Or.inl ⟨rfl, ?_⟩) (by assumption) ?_
            rotate_left 1
            · intro w hSw; (try dsimp only at hSw); go_simp; (try with_reducible rfl)
            (try simp only [List.getElem_toArray, List.getElem_cons_succ, List.getElem_cons_zero, Act.put, List.setIfInBounds_toArray, List.set_cons_zero, List.set_cons_succ])
            refine wpAnyH_take (i := 2) (v := ?_) rfl (by kernel_rfl) (by kernel_rfl) (by kernel_rfl) (fun _ _ _ h => h) (Or.inl ⟨rfl, ?_⟩) (by assumption) ?_
            rotate_left 1
            · intro w hSw; (try dsimp only at hSw); go_simp; (try with_reducible rfl)
            (try simp only [List.getElem_toArray, List.getElem_cons_succ, List.getElem_cons_zero, Act.put, List.setIfInBounds_toArray, List.set_cons_zero, List.set_cons_succ])
            refine wpAnyH_take (i := 3) (v := ?_) rfl (by kernel_rfl) (by kernel_rfl) (by kernel_rfl) (fun _ _ _ h => h) (Or.inl ⟨rfl, ?_⟩) (by assumption) ?_
            rotate_left 1
            · intro w hSw; (try dsimp only at hSw); go_simp; (try with_reducible rfl)
            (try simp only [List.getElem_toArray, List.getElem_cons_succ, List.getElem_cons_zero, Act.put, List.setIfInBounds_toArray, List.set_cons_zero, List.set_cons_succ])
            refine wpAnyH_ready (rs := [4]) (by kernel_rfl) (by simp) ?_
            refine AllReadyH.cons rfl (fun K hK => ?_) AllReadyH.nil
            (try simp only [List.getElem_toArray, List.getElem_cons_succ, List.getElem_cons_zero])
            go_simp; go_at_call 112; refine (name_any _ _).mono ?_; rintro e w3 ⟨he, hb3⟩; rw [n2] at he; subst he; have g0 := below_keeps hb3 f0; have g1 := below_keeps hb3 k0; have g2 := below_keeps hb3 k1; have g3 := below_keeps hb3 k2; clear f0 k0 k1 k2
            refine hK.out _ _ ?_ (fun hHeld => ?_)
            · (try dsimp only); (first | (simp [*]; done) | go_keep)
            clear hK K
            (try simp only [List.getElem_toArray, List.getElem_cons_succ, List.getElem_cons_zero, Act.put, List.setIfInBounds_toArray, List.set_cons_zero, List.set_cons_succ])
            refine wpAnyH_take (i := 5) (v := ?_) rfl (by kernel_rfl) (by kernel_rfl) (by kernel_rfl) (fun _ _ _ h => h) (Or.inl ⟨rfl, ?_⟩) (by assumption) ?_
            rotate_left 1
            · intro w hSw; (try dsimp only at hSw); go_simp; (try with_reducible rfl)
            (try simp only [List.getElem_toArray, List.getElem_cons_succ, List.getElem_cons_zero, Act.put, List.setIfInBounds_toArray, List.set_cons_zero, List.set_cons_succ])
            refine wpAnyH_take (i := 6) (v := ?_) rfl (by kernel_rfl) (by kernel_rfl) (by kernel_rfl) (fun _ _ _ h => h) (Or.inl ⟨rfl, ?_⟩) (by assumption) ?_
            rotate_left 1
            · intro w hSw; (try dsimp only at hSw); go_simp; (try with_reducible rfl)
            (try simp only [List.getElem_toArray, List.getElem_cons_succ, List.getElem_cons_zero, Act.put, List.setIfInBounds_toArray, List.set_cons_zero, List.set_cons_succ])
            refine wpAnyH_take (i := 7) (v := ?_) rfl (by kernel_rfl) (by kernel_rfl) (by kernel_rfl) (fun _ _ _ h => h) (Or.inl ⟨rfl, ?_⟩) (by assumption) ?_
            rotate_left 1
            · intro w hSw; (try dsimp only at hSw); go_simp; (try with_reducible rfl)
            (try simp only [List.getElem_toArray, List.getElem_cons_succ, List.getElem_cons_zero, Act.put, List.setIfInBounds_toArray, List.set_cons_zero, List.set_cons_succ])
            refine wpAnyH_take (i := 8) (v := ?_) rfl (by kernel_rfl) (by kernel_rfl) (by kernel_rfl) (fun _ _ _ h => h) (Or.inl ⟨rfl, ?_⟩) (by assumption) ?_
            rotate_left 1
            · intro w hSw; (try dsimp only at hSw); go_simp; (try with_reducible rfl)
            (try simp only [List.getElem_toArray, List.getElem_cons_succ, List.getElem_cons_zero, Act.put, List.setIfInBounds_toArray, List.set_cons_zero, List.set_cons_succ])
            refine wpAnyH_take (i := 9) (v := ?_) rfl (by kernel_rfl) (by kernel_rfl) (by kernel_rfl) (fun _ _ _ h => h) (Or.inl ⟨rfl, ?_⟩) (by assumption) ?_
            rotate_left 1
            · intro w hSw; (try dsimp only at hSw); go_simp; (try with_reducible rfl)
            (try simp only [List.getElem_toArray, List.getElem_cons_succ, List.getElem_cons_zero, Act.put, List.setIfInBounds_toArray, List.set_cons_zero, List.set_cons_succ])
            refine wpAnyH_take (i := 10) (v := ?_) rfl (by kernel_rfl) (by kernel_rfl) (by kernel_rfl) (fun _ _ _ h => h) (Or.inl ⟨rfl, ?_⟩) (by assumption) ?_
            rotate_left 1
            · intro w hSw; (try dsimp only at hSw); go_simp; (try with_reducible rfl)
            (try simp only [List.getElem_toArray, List.getElem_cons_succ, List.getElem_cons_zero, Act.put, List.setIfInBounds_toArray, List.set_cons_zero, List.set_cons_succ])
            refine wpAnyH_take (i := 11) (v := ?_) rfl (by kernel_rfl) (by kernel_rfl) (by kernel_rfl) (fun _ _ _ h => h) (Or.inl ⟨rfl, ?_⟩) (by assumption) ?_
            rotate_left 1
            · intro w hSw; (try dsimp only at hSw); go_simp; (try with_reducible rfl)
            (try simp only [List.getElem_toArray, List.getElem_cons_succ, List.getElem_cons_zero, Act.put, List.setIfInBounds_toArray, List.set_cons_zero, List.set_cons_succ])
            refine wpAnyH_take (i := 12) (v := ?_) rfl (by kernel_rfl) (by kernel_rfl) (by kernel_rfl) (fun _ _ _ h => h) (Or.inl ⟨rfl, ?_⟩) (by assumption) ?_
            rotate_left 1
            · intro w hSw; (try dsimp only at hSw); go_simp; (try with_reducible rfl)
            (try simp only [List.getElem_toArray, List.getElem_cons_succ, List.getElem_cons_zero, Act.put, List.setIfInBounds_toArray, List.set_cons_zero, List.set_cons_succ])
            refine wpAnyH_take (i := 13) (v := ?_) rfl (by kernel_rfl) (by kernel_rfl) (by kernel_rfl) (fun _ _ _ h => h) (Or.inl ⟨rfl, ?_⟩) (by assumption) ?_
            rotate_left 1
            · intro w hSw; (try dsimp only at hSw); go_simp; (try with_reducible rfl)
            (try simp only [List.getElem_toArray, List.getElem_cons_succ, List.getElem_cons_zero, Act.put, List.setIfInBounds_toArray, List.set_cons_zero, List.set_cons_succ])
            refine wpAnyH_take (i := 14) (v := ?_) rfl (by kernel_rfl) (by kernel_rfl) (by kernel_rfl) (fun _ _ _ h => h) (Or.inl ⟨rfl, ?_⟩) (by assumption) ?_
            rotate_left 1
            · intro w hSw; (try dsimp only at hSw); go_simp; (try with_reducible rfl)
            (try simp only [List.getElem_toArray, List.getElem_cons_succ, List.getElem_cons_zero, Act.put, List.setIfInBounds_toArray, List.set_cons_zero, List.set_cons_succ])
            refine wpAnyH_take (i := 15) (v := ?_) rfl (by kernel_rfl) (by kernel_rfl) (by kernel_rfl) (fun _ _ _ h => h) (Or.inl ⟨rfl, ?_⟩) (by assumption) ?_
            rotate_left 1
            · intro w hSw; (try dsimp only at hSw); go_simp; (try with_reducible rfl)
            (try simp only [List.getElem_toArray, List.getElem_cons_succ, List.getElem_cons_zero, Act.put, List.setIfInBounds_toArray, List.set_cons_zero, List.set_cons_succ])
            refine wpAnyH_take (i := 16) (v := ?_) rfl (by kernel_rfl) (by kernel_rfl) (by kernel_rfl) (fun _ _ _ h => h) (Or.inl ⟨rfl, ?_⟩) (by assumption) ?_
            rotate_left 1
            · intro w hSw; (try dsimp only at hSw); go_simp; (try with_reducible rfl)
            (try simp only [List.getElem_toArray, List.getElem_cons_succ, List.getElem_cons_zero, Act.put, List.setIfInBounds_toArray, List.set_cons_zero, List.set_cons_succ])
            refine wpAnyH_take (i := 17) (v := ?_) rfl (by kernel_rfl) (by kernel_rfl) (by kernel_rfl) (fun _ _ _ h => h) (Or.inl ⟨rfl, ?_⟩) (by assumption) ?_
            rotate_left 1
            · intro w hSw; (try dsimp only at hSw); go_simp; (try with_reducible rfl)
            (try simp only [List.getElem_toArray, List.getElem_cons_succ, List.getElem_cons_zero, Act.put, List.setIfInBounds_toArray, List.set_cons_zero, List.set_cons_succ])
            refine wpAnyH_take (i := 18) (v := ?_) rfl (by kernel_rfl) (by kernel_rfl) (by kernel_rfl) (fun _ _ _ h => h) (Or.inl ⟨rfl, ?_⟩) (by assumption) ?_
            rotate_left 1
            · intro w hSw; (try dsimp only at hSw); go_simp; (try with_reducible rfl)
            (try simp only [List.getElem_toArray, List.getElem_cons_succ, List.getElem_cons_zero, Act.put, List.setIfInBounds_toArray, List.set_cons_zero, List.set_cons_succ])
            refine wpAnyH_take (i := 19) (v := ?_) rfl (by kernel_rfl) (by kernel_rfl) (by kernel_rfl) (fun _ _ _ h => h) (Or.inl ⟨rfl, ?_⟩) (by assumption) ?_
            rotate_left 1
            · intro w hSw; (try dsimp only at hSw); go_simp; (try with_reducible rfl)
            (try simp only [List.getElem_toArray, List.getElem_cons_succ, List.getElem_cons_zero, Act.put, List.setIfInBounds_toArray, List.set_cons_zero, List.set_cons_succ])
            refine wpAnyH_take (i := 20) (v := ?_) rfl (by kernel_rfl) (by kernel_rfl) (by kernel_rfl) (fun _ _ _ h => h) (Or.inl ⟨rfl, ?_⟩) (by assumption) ?_
            rotate_left 1
            · intro w hSw; (try dsimp only at hSw); go_simp; (try with_reducible rfl)
            (try simp only [List.getElem_toArray, List.getElem_cons_succ, List.getElem_cons_zero, Act.put, List.setIfInBounds_toArray, List.set_cons_zero, List.set_cons_succ])
            refine wpAnyH_take (i := 21) rfl (by kernel_rfl) (by kernel_rfl) (by kernel_rfl) (fun _ _ _ h => h) (Or.inr ⟨rfl, rfl⟩) (by assumption) ?_
            (try simp only [List.getElem_toArray, List.getElem_cons_succ, List.getElem_cons_zero, Act.put, List.setIfInBounds_toArray, List.set_cons_zero, List.set_cons_succ])
            refine wpAnyH_take (i := 22) rfl (by kernel_rfl) (by kernel_rfl) (by kernel_rfl) (fun _ _ _ h => h) (Or.inr ⟨rfl, rfl⟩) (by assumption) ?_
            (try simp only [List.getElem_toArray, List.getElem_cons_succ, List.getElem_cons_zero, Act.put, List.setIfInBounds_toArray, List.set_cons_zero, List.set_cons_succ])
            refine wpAnyH_take (i := 23) rfl (by kernel_rfl) (by kernel_rfl) (by kernel_rfl) (fun _ _ _ h => h) (Or.inr ⟨rfl, rfl⟩) (by assumption) ?_
            (try simp only [List.getElem_toArray, List.getElem_cons_succ, List.getElem_cons_zero, Act.put, List.setIfInBounds_toArray, List.set_cons_zero, List.set_cons_succ])
            refine wpAnyH_take (i := 24) rfl (by kernel_rfl) (by kernel_rfl) (by kernel_rfl) (fun _ _ _ h => h) (Or.inr ⟨rfl, rfl⟩) (by assumption) ?_
            (try simp only [List.getElem_toArray, List.getElem_cons_succ, List.getElem_cons_zero, Act.put, List.setIfInBounds_toArray, List.set_cons_zero, List.set_cons_succ])
            refine wpAnyH_take (i := 25) rfl (by kernel_rfl) (by kernel_rfl) (by kernel_rfl) (fun _ _ _ h => h) (Or.inr ⟨rfl, rfl⟩) (by assumption) ?_
            (try simp only [List.getElem_toArray, List.getElem_cons_succ, List.getElem_cons_zero, Act.put, List.setIfInBounds_toArray, List.set_cons_zero, List.set_cons_succ])
            refine wpAnyH_take (i := 26) rfl (by kernel_rfl) (by kernel_rfl) (by kernel_rfl) (fun _ _ _ h => h) (Or.inr ⟨rfl, rfl⟩) (by assumption) ?_
            (try simp only [List.getElem_toArray, List.getElem_cons_succ, List.getElem_cons_zero, Act.put, List.setIfInBounds_toArray, List.set_cons_zero, List.set_cons_succ])
            refine wpAnyH_take (i := 27) (v := ?_) rfl (by kernel_rfl) (by kernel_rfl) (by kernel_rfl) (fun _ _ _ h => h) (Or.inl ⟨rfl, ?_⟩) (by assumption) ?_
            rotate_left 1
            · intro w hSw; (try dsimp only at hSw); go_simp; (try with_reducible rfl)
            (try simp only [List.getElem_toArray, List.getElem_cons_succ, List.getElem_cons_zero, Act.put, List.setIfInBounds_toArray, List.set_cons_zero, List.set_cons_succ])
            refine wpAnyH_take (i := 28) (v := ?_) rfl (by kernel_rfl) (by kernel_rfl) (by kernel_rfl) (fun _ _ _ h => h) (Or.inl ⟨rfl, ?_⟩) (by assumption) ?_
            rotate_left 1
            · intro w hSw; (try dsimp only at hSw); go_simp; (try with_reducible rfl)
            (try simp only [List.getElem_toArray, List.getElem_cons_succ, List.getElem_cons_zero, Act.put, List.setIfInBounds_toArray, List.set_cons_zero, List.set_cons_succ])
            refine wpAnyH_done (by kernel_rfl) ?_ _
            go_wp2_with fail
            go_meet
            exact ⟨by rw [E.out]; rfl, (Below.refl _ _).drew.trans hb3⟩
          · rw [n1, n2, n4, n3] at E
            rw [n1] at f0
            have n5 : x.name.isEmpty = true := by simpa using n4
            clear n4
            have hk10 : x.kind = 10 := by simpa using n3
            have hlen : x.args.length = 1 := by
              have q := Q1.out
              simp [stBad1, hk10, fArgs, fOk, fThen, fMore] at q
              omega
            clear hk10
            obtain ⟨b, off, rfl, z⟩ := HA.out.cell0 (by omega)
            have z0 : W2.cell? ⟨b, off, none⟩ = some (.int .i64 (exAt x.args 0).kind) := below_keeps HBW.out z
            have hl0 : 0 < x.args.length := by omega
            clear hlen z
            refine wp_region_held_drew (S := (fun w' => w'.cell? ⟨w1.heap.size, 0, none⟩ = some (.bool false) ∧ w'.cell? ⟨w.heap.size, 0, none⟩ = some (.int .i64 x.kind) ∧ w'.cell? ⟨w.heap.size, 1, none⟩ = some (.string (strOf x.name)) ∧ w'.cell? ⟨w.heap.size, 2, none⟩ = some (.slice (some ⟨b, off, none⟩) x.args.length ca) ∧ w'.cell? ⟨b, off, none⟩ = some (.int .i64 (exAt x.args 0).kind))) (by kernel_rfl) ?_ (fun hHeld => ?_)
            · (first | (simp [*]; done) | go_keep)
            refine wpAnyH_take (i := 0) (v := ?_) rfl (by kernel_rfl) (by kernel_rfl) (by kernel_rfl) (fun _ _ _ h => h) (Or.inl ⟨rfl, ?_⟩) (by assumption) ?_
            rotate_left 1
            · intro w hSw; (try dsimp only at hSw); go_simp; (try with_reducible rfl)
            (try simp only [List.getElem_toArray, List.getElem_cons_succ, List.getElem_cons_zero, Act.put, List.setIfInBounds_toArray, List.set_cons_zero, List.set_cons_succ])
            refine wpAnyH_take (i := 1) (v := ?_) rfl (by kernel_rfl) (by kernel_rfl) (by kernel_rfl) (fun _ _ _ h => h) (Or.inl ⟨rfl, ?_⟩) (by assumption) ?_
            rotate_left 1
            · intro w hSw; (try dsimp only at hSw); go_simp; (try with_reducible rfl)
            (try simp only [List.getElem_toArray, List.getElem_cons_succ, List.getElem_cons_zero, Act.put, List.setIfInBounds_toArray, List.set_cons_zero, List.set_cons_succ])
            refine wpAnyH_take (i := 2) (v := ?_) rfl (by kernel_rfl) (by kernel_rfl) (by kernel_rfl) (fun _ _ _ h => h) (Or.inl ⟨rfl, ?_⟩) (by assumption) ?_
            rotate_left 1
            · intro w hSw; (try dsimp only at hSw); go_simp; (try with_reducible rfl)
            (try simp only [List.getElem_toArray, List.getElem_cons_succ, List.getElem_cons_zero, Act.put, List.setIfInBounds_toArray, List.set_cons_zero, List.set_cons_succ])
            refine wpAnyH_take (i := 3) (v := ?_) rfl (by kernel_rfl) (by kernel_rfl) (by kernel_rfl) (fun _ _ _ h => h) (Or.inl ⟨rfl, ?_⟩) (by assumption) ?_
            rotate_left 1
            · intro w hSw; (try dsimp only at hSw); go_simp; (try with_reducible rfl)
            (try simp only [List.getElem_toArray, List.getElem_cons_succ, List.getElem_cons_zero, Act.put, List.setIfInBounds_toArray, List.set_cons_zero, List.set_cons_succ])
            refine wpAnyH_ready (rs := [4]) (by kernel_rfl) (by simp) ?_
            refine AllReadyH.cons rfl (fun K hK => ?_) AllReadyH.nil
            (try simp only [List.getElem_toArray, List.getElem_cons_succ, List.getElem_cons_zero])
            go_simp; go_at_call 112; refine (name_any _ _).mono ?_; rintro e w3 ⟨he, hb3⟩; rw [n2] at he; subst he; have g0 := below_keeps hb3 f0; have g1 := below_keeps hb3 k0; have g2 := below_keeps hb3 k1; have g3 := below_keeps hb3 k2; have g4 := below_keeps hb3 z0; clear f0 k0 k1 k2 z0
            refine hK.out _ _ ?_ (fun hHeld => ?_)
            · (try dsimp only); (first | (simp [*]; done) | go_keep)
            clear hK K
            (try simp only [List.getElem_toArray, List.getElem_cons_succ, List.getElem_cons_zero, Act.put, List.setIfInBounds_toArray, List.set_cons_zero, List.set_cons_succ])
            refine wpAnyH_take (i := 5) (v := ?_) rfl (by kernel_rfl) (by kernel_rfl) (by kernel_rfl) (fun _ _ _ h => h) (Or.inl ⟨rfl, ?_⟩) (by assumption) ?_
            rotate_left 1
            · intro w hSw; (try dsimp only at hSw); go_simp; (try with_reducible rfl)
            (try simp only [List.getElem_toArray, List.getElem_cons_succ, List.getElem_cons_zero, Act.put, List.setIfInBounds_toArray, List.set_cons_zero, List.set_cons_succ])
            refine wpAnyH_take (i := 6) (v := ?_) rfl (by kernel_rfl) (by kernel_rfl) (by kernel_rfl) (fun _ _ _ h => h) (Or.inl ⟨rfl, ?_⟩) (by assumption) ?_
            rotate_left 1
            · intro w hSw; (try dsimp only at hSw); go_simp; (try with_reducible rfl)
            (try simp only [List.getElem_toArray, List.getElem_cons_succ, List.getElem_cons_zero, Act.put, List.setIfInBounds_toArray, List.set_cons_zero, List.set_cons_succ])
            refine wpAnyH_take (i := 7) (v := ?_) rfl (by kernel_rfl) (by kernel_rfl) (by kernel_rfl) (fun _ _ _ h => h) (Or.inl ⟨rfl, ?_⟩) (by assumption) ?_
            rotate_left 1
            · intro w hSw; (try dsimp only at hSw); go_simp; (try with_reducible rfl)
            (try simp only [List.getElem_toArray, List.getElem_cons_succ, List.getElem_cons_zero, Act.put, List.setIfInBounds_toArray, List.set_cons_zero, List.set_cons_succ])
            refine wpAnyH_take (i := 8) (v := ?_) rfl (by kernel_rfl) (by kernel_rfl) (by kernel_rfl) (fun _ _ _ h => h) (Or.inl ⟨rfl, ?_⟩) (by assumption) ?_
            rotate_left 1
            · intro w hSw; (try dsimp only at hSw); go_simp; (try with_reducible rfl)
            (try simp only [List.getElem_toArray, List.getElem_cons_succ, List.getElem_cons_zero, Act.put, List.setIfInBounds_toArray, List.set_cons_zero, List.set_cons_succ])
            refine wpAnyH_take (i := 9) (v := ?_) rfl (by kernel_rfl) (by kernel_rfl) (by kernel_rfl) (fun _ _ _ h => h) (Or.inl ⟨rfl, ?_⟩) (by assumption) ?_
            rotate_left 1
            · intro w hSw; (try dsimp only at hSw); go_simp; (try with_reducible rfl)
            (try simp only [List.getElem_toArray, List.getElem_cons_succ, List.getElem_cons_zero, Act.put, List.setIfInBounds_toArray, List.set_cons_zero, List.set_cons_succ])
            refine wpAnyH_take (i := 10) (v := ?_) rfl (by kernel_rfl) (by kernel_rfl) (by kernel_rfl) (fun _ _ _ h => h) (Or.inl ⟨rfl, ?_⟩) (by assumption) ?_
            rotate_left 1
            · intro w hSw; (try dsimp only at hSw); go_simp; (try with_reducible rfl)
            (try simp only [List.getElem_toArray, List.getElem_cons_succ, List.getElem_cons_zero, Act.put, List.setIfInBounds_toArray, List.set_cons_zero, List.set_cons_succ])
            refine wpAnyH_take (i := 11) (v := ?_) rfl (by kernel_rfl) (by kernel_rfl) (by kernel_rfl) (fun _ _ _ h => h) (Or.inl ⟨rfl, ?_⟩) (by assumption) ?_
            rotate_left 1
            · intro w hSw; (try dsimp only at hSw); go_simp; (try with_reducible rfl)
            (try simp only [List.getElem_toArray, List.getElem_cons_succ, List.getElem_cons_zero, Act.put, List.setIfInBounds_toArray, List.set_cons_zero, List.set_cons_succ])
            refine wpAnyH_take (i := 12) (v := ?_) rfl (by kernel_rfl) (by kernel_rfl) (by kernel_rfl) (fun _ _ _ h => h) (Or.inl ⟨rfl, ?_⟩) (by assumption) ?_
            rotate_left 1
            · intro w hSw; (try dsimp only at hSw); go_simp; (try with_reducible rfl)
            (try simp only [List.getElem_toArray, List.getElem_cons_succ, List.getElem_cons_zero, Act.put, List.setIfInBounds_toArray, List.set_cons_zero, List.set_cons_succ])
            refine wpAnyH_take (i := 13) (v := ?_) rfl (by kernel_rfl) (by kernel_rfl) (by kernel_rfl) (fun _ _ _ h => h) (Or.inl ⟨rfl, ?_⟩) (by assumption) ?_
            rotate_left 1
            · intro w hSw; (try dsimp only at hSw); go_simp; (try with_reducible rfl)
            (try simp only [List.getElem_toArray, List.getElem_cons_succ, List.getElem_cons_zero, Act.put, List.setIfInBounds_toArray, List.set_cons_zero, List.set_cons_succ])
            refine wpAnyH_take (i := 14) (v := ?_) rfl (by kernel_rfl) (by kernel_rfl) (by kernel_rfl) (fun _ _ _ h => h) (Or.inl ⟨rfl, ?_⟩) (by assumption) ?_
            rotate_left 1
            · intro w hSw; (try dsimp only at hSw); go_simp; (try with_reducible rfl)
            (try simp only [List.getElem_toArray, List.getElem_cons_succ, List.getElem_cons_zero, Act.put, List.setIfInBounds_toArray, List.set_cons_zero, List.set_cons_succ])
            refine wpAnyH_take (i := 15) (v := ?_) rfl (by kernel_rfl) (by kernel_rfl) (by kernel_rfl) (fun _ _ _ h => h) (Or.inl ⟨rfl, ?_⟩) (by assumption) ?_
            rotate_left 1
            · intro w hSw; (try dsimp only at hSw); go_simp; (try with_reducible rfl)
            (try simp only [List.getElem_toArray, List.getElem_cons_succ, List.getElem_cons_zero, Act.put, List.setIfInBounds_toArray, List.set_cons_zero, List.set_cons_succ])
            refine wpAnyH_take (i := 16) (v := ?_) rfl (by kernel_rfl) (by kernel_rfl) (by kernel_rfl) (fun _ _ _ h => h) (Or.inl ⟨rfl, ?_⟩) (by assumption) ?_
            rotate_left 1
            · intro w hSw; (try dsimp only at hSw); go_simp; (try with_reducible rfl)
            (try simp only [List.getElem_toArray, List.getElem_cons_succ, List.getElem_cons_zero, Act.put, List.setIfInBounds_toArray, List.set_cons_zero, List.set_cons_succ])
            refine wpAnyH_take (i := 17) (v := ?_) rfl (by kernel_rfl) (by kernel_rfl) (by kernel_rfl) (fun _ _ _ h => h) (Or.inl ⟨rfl, ?_⟩) (by assumption) ?_
            rotate_left 1
            · intro w hSw; (try dsimp only at hSw); go_simp; (try with_reducible rfl)
            (try simp only [List.getElem_toArray, List.getElem_cons_succ, List.getElem_cons_zero, Act.put, List.setIfInBounds_toArray, List.set_cons_zero, List.set_cons_succ])
            refine wpAnyH_take (i := 18) (v := ?_) rfl (by kernel_rfl) (by kernel_rfl) (by kernel_rfl) (fun _ _ _ h => h) (Or.inl ⟨rfl, ?_⟩) (by assumption) ?_
            rotate_left 1
            · intro w hSw; (try dsimp only at hSw); go_simp; (try with_reducible rfl)
            (try simp only [List.getElem_toArray, List.getElem_cons_succ, List.getElem_cons_zero, Act.put, List.setIfInBounds_toArray, List.set_cons_zero, List.set_cons_succ])
            refine wpAnyH_take (i := 19) (v := ?_) rfl (by kernel_rfl) (by kernel_rfl) (by kernel_rfl) (fun _ _ _ h => h) (Or.inl ⟨rfl, ?_⟩) (by assumption) ?_
            rotate_left 1
            · intro w hSw; (try dsimp only at hSw); go_simp; (try with_reducible rfl)
            (try simp only [List.getElem_toArray, List.getElem_cons_succ, List.getElem_cons_zero, Act.put, List.setIfInBounds_toArray, List.set_cons_zero, List.set_cons_succ])
            refine wpAnyH_take (i := 20) (v := ?_) rfl (by kernel_rfl) (by kernel_rfl) (by kernel_rfl) (fun _ _ _ h => h) (Or.inl ⟨rfl, ?_⟩) (by assumption) ?_
            rotate_left 1
            · intro w hSw; (try dsimp only at hSw); go_simp; (try with_reducible rfl)
            (try simp only [List.getElem_toArray, List.getElem_cons_succ, List.getElem_cons_zero, Act.put, List.setIfInBounds_toArray, List.set_cons_zero, List.set_cons_succ])
            refine wpAnyH_take (i := 21) (v := ?_) rfl (by kernel_rfl) (by kernel_rfl) (by kernel_rfl) (fun _ _ _ h => h) (Or.inl ⟨rfl, ?_⟩) (by assumption) ?_
            rotate_left 1
            · intro w hSw; (try dsimp only at hSw); go_simp; (try with_reducible rfl)
            (try simp only [List.getElem_toArray, List.getElem_cons_succ, List.getElem_cons_zero, Act.put, List.setIfInBounds_toArray, List.set_cons_zero, List.set_cons_succ])
            refine wpAnyH_take (i := 22) (v := ?_) rfl (by kernel_rfl) (by kernel_rfl) (by kernel_rfl) (fun _ _ _ h => h) (Or.inl ⟨rfl, ?_⟩) (by assumption) ?_
            rotate_left 1
            · intro w hSw; (try dsimp only at hSw); go_simp; (try with_reducible rfl)
            (try simp only [List.getElem_toArray, List.getElem_cons_succ, List.getElem_cons_zero, Act.put, List.setIfInBounds_toArray, List.set_cons_zero, List.set_cons_succ])
            refine wpAnyH_take (i := 23) (v := ?_) rfl (by kernel_rfl) (by kernel_rfl) (by kernel_rfl) (fun _ _ _ h => h) (Or.inl ⟨rfl, ?_⟩) (by assumption) ?_
            rotate_left 1
            · intro w hSw; (try dsimp only at hSw); go_simp; (try with_reducible rfl)
            (try simp only [List.getElem_toArray, List.getElem_cons_succ, List.getElem_cons_zero, Act.put, List.setIfInBounds_toArray, List.set_cons_zero, List.set_cons_succ])
            refine wpAnyH_take (i := 24) (v := ?_) rfl (by kernel_rfl) (by kernel_rfl) (by kernel_rfl) (fun _ _ _ h => h) (Or.inl ⟨rfl, ?_⟩) (by assumption) ?_
            rotate_left 1
            · intro w hSw; (try dsimp only at hSw); go_simp; (try with_reducible rfl)
            (try simp only [List.getElem_toArray, List.getElem_cons_succ, List.getElem_cons_zero, Act.put, List.setIfInBounds_toArray, List.set_cons_zero, List.set_cons_succ])
            refine wpAnyH_take (i := 25) (v := ?_) rfl (by kernel_rfl) (by kernel_rfl) (by kernel_rfl) (fun _ _ _ h => h) (Or.inl ⟨rfl, ?_⟩) (by assumption) ?_
            rotate_left 1
            · intro w hSw; (try dsimp only at hSw); go_simp; (try with_reducible rfl)
            (try simp only [List.getElem_toArray, List.getElem_cons_succ, List.getElem_cons_zero, Act.put, List.setIfInBounds_toArray, List.set_cons_zero, List.set_cons_succ])
            refine wpAnyH_take (i := 26) (v := ?_) rfl (by kernel_rfl) (by kernel_rfl) (by kernel_rfl) (fun _ _ _ h => h) (Or.inl ⟨rfl, ?_⟩) (by assumption) ?_
            rotate_left 1
            · intro w hSw; (try dsimp only at hSw); go_simp; (try with_reducible rfl)
            (try simp only [List.getElem_toArray, List.getElem_cons_succ, List.getElem_cons_zero, Act.put, List.setIfInBounds_toArray, List.set_cons_zero, List.set_cons_succ])
            refine wpAnyH_take (i := 27) (v := ?_) rfl (by kernel_rfl) (by kernel_rfl) (by kernel_rfl) (fun _ _ _ h => h) (Or.inl ⟨rfl, ?_⟩) (by assumption) ?_
            rotate_left 1
            · intro w hSw; (try dsimp only at hSw); go_simp; (try with_reducible rfl)
            (try simp only [List.getElem_toArray, List.getElem_cons_succ, List.getElem_cons_zero, Act.put, List.setIfInBounds_toArray, List.set_cons_zero, List.set_cons_succ])
            refine wpAnyH_take (i := 28) (v := ?_) rfl (by kernel_rfl) (by kernel_rfl) (by kernel_rfl) (fun _ _ _ h => h) (Or.inl ⟨rfl, ?_⟩) (by assumption) ?_
            rotate_left 1
            · intro w hSw; (try dsimp only at hSw); go_simp; (try with_reducible rfl)
            (try simp only [List.getElem_toArray, List.getElem_cons_succ, List.getElem_cons_zero, Act.put, List.setIfInBounds_toArray, List.set_cons_zero, List.set_cons_succ])
            refine wpAnyH_done (by kernel_rfl) ?_ _
            go_wp2_with fail
            go_meet
            exact ⟨by rw [E.out, ← head_eq hl0]; simp [bne], (Below.refl _ _).drew.trans hb3⟩
    case rest =>
      obtain ⟨rfl, hb2⟩ := hcut
      have HB2 := Lib.hid (HBW.out.trans (hb2.mono (by have := HBW.out.size; omega)))
      have j2 := below_keeps hb2 k2
      have j3 := below_keeps hb2 k3
      have j4 := below_keeps hb2 k4
      have hs2 := hb2.size
      clear f0 k0 k1 k2 k3 k4 hb2
      cases q2 : stBad2 x
      case true =>
        have Q2 := Lib.hid q2; clear q2
        go_wp2_with fail
        go_ret
        refine ⟨ret_bool ?_, HB2.out⟩
        cases m with
        | zero => rfl
        | succ m => simp [stOk, Q2.out]
      have Q2 := Lib.hid q2; clear q2
      have hmp : Hid (0 < m) := by
        cases m with
        | zero => have q := Q1.out; simp [stBad1] at q
        | succ m => exact Nat.succ_pos m
      obtain ⟨m', hm'⟩ : ∃ m', m = m' + 1 := ⟨m - 1, by have := hmp.out; omega⟩
      have EM : Hid (stOk m x = (!stBad1 m x && !stBad2 x && x.args.all rightEx && x.thn.all (stOk (m - 1)) && x.els.all (stOk (m - 1)))) := by
        show _ = _
        subst hm'
        simp only [stOk, Nat.add_sub_cancel]
        rw [show ((m' + 1 : Nat) : Int) = (m' : Int) + 1 from by omega]
      clear hm'
      have hsub : Hid (((m - 1 : Nat) : Int) = (m : Int) - 1) := by show _ = _; have := hmp.out; omega
      have hm2 : 1 ≤ (m : Int) := by have := hmp.out; omega
      go_wp2_with fail
      refine (contains_exs 161 #[] Tryz.call161 x.args _ D _ (HA.out.old HB2.out) (fun e => !rightEx e) (fun e s' w3 _ _ hs => stmt_fn e D s' w3 hs)).mono ?_
      rintro r w3 ⟨rfl, hb3⟩
      have l3 := below_keeps hb3 j3
      have l4 := below_keeps hb3 j4
      have HB3 := Lib.hid (HB2.out.trans (hb3.mono (by omega)))
      have hs3 := hb3.size
      clear j2 j3 j4 hb3
      have A1 : x.args.any (fun e => !rightEx e) = !x.args.all rightEx := by simp [List.any_eq_not_all_not]
      rw [A1]; clear A1
      cases qa : x.args.all rightEx
      · have QA := Lib.hid qa; clear qa
        go_wp2_with fail
        go_ret
        exact ⟨ret_bool (by rw [EM.out, QA.out]; simp), HB3.out⟩
      have QA := Lib.hid qa; clear qa
      go_wp2_with fail
      rw [← hsub.out]
      refine (IH.out hmp.out D x.thn _ _ (HT.out.old HB3.out)).mono ?_
      rintro r w4 ⟨rfl, hb4⟩
      have m4 := below_keeps hb4 l4
      have HB4 := Lib.hid (HB3.out.trans (hb4.mono (by omega)))
      have hs4 := hb4.size
      clear l3 l4 hb4
      cases qt : x.thn.all (stOk (m - 1))
      · have QT := Lib.hid qt; clear qt
        go_wp2_with fail
        go_ret
        exact ⟨ret_bool (by rw [EM.out, QA.out, QT.out]; simp), HB4.out⟩
      have QT := Lib.hid qt; clear qt
      go_wp2_with fail
      rw [← hsub.out]
      refine (IH.out hmp.out D x.els _ _ (HE.out.old HB4.out)).mono ?_
      rintro r w5 ⟨rfl, hb5⟩
      have HB5 := Lib.hid (HB4.out.trans (hb5.mono (by omega)))
      clear m4 hb5
      go_wp2_with fail
      go_ret
      exact ⟨ret_bool (by rw [EM.out, QA.out, QT.out, Q1.out, Q2.out]; simp), HB5.out⟩

/-- stmts$1. -/
theorem stmts_fn (m : Nat) (hm : m ≤ 1000) (ih : StOf m) (D : Nat → Prop) (x : St) (a t e : Value) (w : World) (ha : ExsAt D w x.args a) (ht : StsAt D w x.thn t) (he : StsAt D w x.els e) (B : Nat) (hB : w.cell? ⟨B, 0, none⟩ = some (.int .i64 m)) :
    Calls Tryz.prog 114 #[stV x a t e, .pointer (some ⟨B, 0, none⟩)] w fun r w' => r = .returned (.bool (!stOk m x)) ∧ Below w.heap.size w w' := by
  have HA := Lib.hid ha; have HT := Lib.hid ht; have HE := Lib.hid he; clear ha ht he
  have hBl : B < w.heap.size := World.block_lt_of_cell? _ _ hB
  go_enter Tryz.func114, Tryz.ntmps114
  go_wp2_with fail
  refine (ih D x a t e _ (HA.out.old ((Below.refl _ _).alloc (Nat.le_refl _) _)) (HT.out.old ((Below.refl _ _).alloc (Nat.le_refl _) _)) (HE.out.old ((Below.refl _ _).alloc (Nat.le_refl _) _))).mono ?_
  rintro r w1 ⟨rfl, hb⟩
  go_wp2_with fail
  go_ret
  exact ⟨rfl, ((Below.refl _ _).alloc (Nat.le_refl _) _).trans (hb.mono (by simp))⟩
theorem stmts_step (m : Nat) (hm : m ≤ 1000) (ih : StOf m) : StsOf m := by
  intro D l v w h
  have H := Lib.hid h; clear h
  have IH := Lib.hid ih; clear ih
  go_enter Tryz.func50, Tryz.ntmps50
  go_wp2_with fail
  refine (contains_sts 114 _ Tryz.call114 l v D _ (H.out.old ((Below.refl _ _).alloc (Nat.le_refl _) _)) (fun x => !stOk m x) ?_).mono ?_
  · intro x a t e w1 _ hb ha ht he
    exact stmts_fn m hm IH.out D x a t e w1 ha ht he _ (below_keeps hb (by simp))
  · rintro r w1 ⟨rfl, hb⟩
    go_wp2_with fail
    go_ret
    exact ⟨ret_bool (by simp [List.any_eq_not_all_not]), ((Below.refl _ _).alloc (Nat.le_refl _) _).trans (hb.mono (by simp))⟩
theorem stmt_all : ∀ m, m ≤ 1000 → StOf m ∧ StsOf m
  | 0, h => have a := stmt_step 0 h (fun h => by omega); ⟨a, stmts_step 0 h a⟩
  | m + 1, h => have a := stmt_step (m + 1) h (fun _ => (stmt_all m (by omega)).2); ⟨a, stmts_step (m + 1) h a⟩
end Go.Proofs.YtcfpfnoldgnloaaGreatDoor

namespace Go.Proofs.YtcfpfnoldgnloaaGreatDoor
open Go.RowKit
set_option maxHeartbeats 4000000
set_option maxRecDepth 20000

theorem named_fn (s : Bs) (w : World) :
    Calls Tryz.prog 111 #[.string (strOf s)] w fun r w' => r = .returned (.bool (!isName s)) ∧ Below w.heap.size w w' := by
  go_enter Tryz.func111, Tryz.ntmps111
  go_wp2_with fail
  refine (name_any s _).mono ?_
  rintro r w1 ⟨rfl, hb⟩
  go_wp2_with fail
  go_ret
  exact ⟨rfl, hb⟩
theorem named_any (l : List Bs) (v : Value) (D : Nat → Prop) (w : World) (h : StrsAt D w l v) :
    Calls Tryz.prog 49 #[v] w fun r w' => r = .returned (.bool (l.all isName)) ∧ Below w.heap.size w w' := by
  obtain ⟨a, cap, b, off, rfl, h1, h2, h3, h4⟩ := h
  have HC := Lib.hid (containsFuncS a l.length cap 111 #[] Tryz.call111 w (fun i => .string (strOf (l.getD i []))) (fun i => !isName (l.getD i [])) (h2).out
    (h3.imp id fun h => ⟨b, off, h.1, h4⟩) (fun i _ w1 _ => named_fn _ w1))
  clear h1 h2 h3 h4
  have E : Hid ((!anyN (fun i => !isName (l.getD i [])) l.length) = l.all isName) := by
    show _ = _
    rw [anyN_list (fun s => !isName s) _ l (fun i hi => by simp [List.getElem?_eq_getElem hi])]
    simp [List.any_eq_not_all_not]
  go_enter Tryz.func49, Tryz.ntmps49
  go_wp2_with fail
  refine HC.out.mono ?_
  rintro r w1 ⟨rfl, hb⟩
  go_wp2_with fail
  go_ret
  exact ⟨ret_bool E.out, hb⟩

theorem right_any (p : Pr) (D : Nat → Prop) (sa sf : Value) (w : World) (ha : ArsAt D w p.arrays sa) (hf : FusAt D w p.funcs sf) :
    Calls Tryz.prog 24 #[.agg #[sa, sf]] w fun r w' => r = .returned (.bool (rightPr p)) ∧ Below w.heap.size w w' := by
  obtain ⟨aa, ca, ba, oa, rfl, a1, a2, a3, a4⟩ := ha
  obtain ⟨af, cf, bf, of', pv, lv, bv, rfl, f1, f2, f3, f4⟩ := hf
  have la := a2.lt
  have lf := f2.lt
  have A3 := Lib.hid a3; have A4 := Lib.hid a4; have F3 := Lib.hid f3; have F4 := Lib.hid f4
  have E : Hid (rightPr p = (p.arrays.all rightAr && p.funcs.all rightFu)) := rfl
  clear a1 a2 a3 a4 f1 f2 f3 f4
  go_enter Tryz.func24, Tryz.ntmps24
  go_wp2_with fail
  have HW : Hid (Below w.heap.size w (w.alloc (.cells #[.slice aa p.arrays.length ca, .slice af p.funcs.length cf] 34))) := (Below.refl _ _).alloc (Nat.le_refl _) _
  have c1 : (w.alloc (.cells #[.slice aa p.arrays.length ca, .slice af p.funcs.length cf] 34)).cell? ⟨w.heap.size, 1, none⟩ = some (.slice af p.funcs.length cf) := by simp
  have hz0 : w.heap.size < (w.alloc (.cells #[.slice aa p.arrays.length ca, .slice af p.funcs.length cf] 34)).heap.size := by simp
  generalize w.alloc (.cells #[.slice aa p.arrays.length ca, .slice af p.funcs.length cf] 34) = W at HW c1 hz0 ⊢
  go_loopw [2, 4, 10] (fun s2 _ s10 wr => ∃ k : Nat, k ≤ p.arrays.length ∧ s10 = .int .i64 k ∧ s2 = .bool false ∧ (∀ i, i < k → rightAr (arAt p.arrays i) = true) ∧ Below W.heap.size W wr) (fun _ _ s10 _ => p.arrays.length - (intOf s10).toNat)
  case atStart => exact ⟨0, Nat.zero_le _, rfl, rfl, fun i hi => by omega, Below.refl _ _⟩
  case round =>
    obtain ⟨k, hk, rfl, rfl, hall, hb⟩ := hrel
    have ALL := Lib.hid hall; clear hall
    have HB := Lib.hid (HW.out.trans (hb.mono (by omega)))
    have HBW := Lib.hid hb
    have hzr : w.heap.size < wr.heap.size := by have := hb.size; omega
    have c2 := below_keeps hb c1
    clear hb
    by_cases hlt : k < p.arrays.length
    · obtain ⟨rfl, _⟩ : aa = some ⟨ba, oa, none⟩ ∧ D ba := by rcases A3.out with h | h; omega; exact h
      obtain ⟨g0, g1⟩ := A4.out k hlt
      have e0 := below_keeps HB.out g0
      have e1 := below_keeps HB.out g1
      clear g0 g1
      generalize hAk : arAt p.arrays k = A at e0 e1
      have HAK := Lib.hid hAk; clear hAk
      have RA : Hid (rightAr A = (isName A.name && decide (1 ≤ A.size ∧ A.size ≤ 1048576))) := rfl
      go_wp2_with fail
      refine (named_any [A.name] _ (fun _ => True) _ ⟨some ⟨wr.heap.size + 1, 0, none⟩, 1, wr.heap.size + 1, 0, rfl, Nat.le_refl _, by show _ ≤ _; simp, .inr ⟨rfl, trivial⟩, fun i hi => by obtain rfl : i = 0 := (by simp at hi; omega); simp⟩).mono ?_
      rintro r w3 ⟨rfl, hb3⟩
      have hbr : Below wr.heap.size wr w3 := (((Below.refl _ _).alloc (Nat.le_refl _) _).alloc (by simp) _).trans (hb3.mono (by simp; omega))
      have d1 : w3.cell? ⟨wr.heap.size, 1, none⟩ = some (.int .i64 A.size) := below_keeps hb3 (by simp [World.cell?_alloc_lt])
      have HBR := Lib.hid hbr
      have HB3 := Lib.hid (HB.out.trans (hbr.mono (by omega)))
      clear hb3 hbr
      rw [show ([A.name].all isName) = isName A.name from by simp]
      have bad : Hid (rightAr A = false → rightPr p = false) := fun h => by
        rw [E.out, all_false_at p.arrays Ar.nil rightAr k hlt (by rw [show p.arrays.getD k Ar.nil = A from HAK.out]; exact h)]; rfl
      cases q1 : isName A.name
      · have Q1 := Lib.hid q1; clear q1
        go_wp2_with fail
        go_ret
        exact ⟨ret_bool (bad.out (by rw [RA.out, Q1.out]; rfl)).symm, HB3.out⟩
      have Q1 := Lib.hid q1; clear q1
      by_cases q2 : 1 ≤ A.size
      · by_cases q3 : A.size ≤ 1048576
        · go_wp2_with fail
          go_roundw
          case rel =>
            refine ⟨k + 1, by omega, by go_num, rfl, fun i hi => ?_, HBW.out.trans (HBR.out.mono HBW.out.size)⟩
            rcases Nat.lt_succ_iff_lt_or_eq.1 hi with h | rfl
            · exact ALL.out i h
            · rw [HAK.out, RA.out, Q1.out]; simp [q2, q3]
          case measure => simp [intOf]; omega
        · go_wp2_with fail
          go_ret
          exact ⟨ret_bool (bad.out (by rw [RA.out, Q1.out]; simp; omega)).symm, HB3.out⟩
      · go_wp2_with fail
        go_ret
        exact ⟨ret_bool (bad.out (by rw [RA.out, Q1.out]; simp; omega)).symm, HB3.out⟩
    · have hkn : k = p.arrays.length := by omega
      have EA : Hid (p.arrays.all rightAr = true) := all_of_at p.arrays Ar.nil rightAr (fun i hi => ALL.out i (by omega))
      clear hkn
      go_wp2_with fail
      go_loopw [2, 6, 33] (fun s2 _ s33 wx => ∃ j : Nat, j ≤ p.funcs.length ∧ s33 = .int .i64 j ∧ s2 = .bool false ∧ (∀ i, i < j → rightFu (fuAt p.funcs i) = true) ∧ Below wr.heap.size wr wx) (fun _ _ s33 _ => p.funcs.length - (intOf s33).toNat)
      case atStart => exact ⟨0, Nat.zero_le _, rfl, rfl, fun i hi => by omega, Below.refl _ _⟩
      case round =>
        clear c1 c2
        obtain ⟨j, hj, rfl, rfl, hall, hb⟩ := hrel
        have ALF := Lib.hid hall; clear hall
        rename World => wx
        have HBX := Lib.hid (HB.out.trans (hb.mono (by omega)))
        have HBY := Lib.hid hb
        clear hb
        by_cases hlj : j < p.funcs.length
        · obtain ⟨rfl, _⟩ : af = some ⟨bf, of', none⟩ ∧ D bf := by rcases F3.out with h | h; omega; exact h
          obtain ⟨⟨g0, g1, g2, g3⟩, gp, gl, gb⟩ := F4.out j hlj
          have e0 := below_keeps HBX.out g0
          have e1 := below_keeps HBX.out g1
          have e2 := below_keeps HBX.out g2
          have e3 := below_keeps HBX.out g3
          have GP := Lib.hid (gp.old HBX.out); have GL := Lib.hid (gl.old HBX.out); have GB := Lib.hid (gb.old HBX.out)
          clear g0 g1 g2 g3 gp gl gb
          generalize hAk : fuAt p.funcs j = A at e0 GP GL GB
          generalize pv j = P1 at e1 GP
          generalize lv j = L1 at e2 GL
          generalize bv j = B1 at e3 GB
          have HAK := Lib.hid hAk; clear hAk
          obtain ⟨pa, pc, hpv⟩ : ∃ a cap, P1 = .slice a A.params.length cap := by obtain ⟨a, cap, _, _, h, _⟩ := GP.out; exact ⟨a, cap, h⟩
          subst hpv
          obtain ⟨qa, qc, hqv⟩ : ∃ a cap, L1 = .slice a A.locals.length cap := by obtain ⟨a, cap, _, _, h, _⟩ := GL.out; exact ⟨a, cap, h⟩
          subst hqv
          obtain ⟨ra, rc, hrv⟩ : ∃ a cap, B1 = .slice a A.body.length cap := GB.out.shape
          subst hrv
          have RA : Hid (rightFu A = (isName A.name && A.params.all isName && A.locals.all isName && decide (A.params.length ≤ 6) && A.body.all (stOk 40))) := rfl
          have bad : Hid (rightFu A = false → rightPr p = false) := fun h => by
            rw [E.out, EA.out, all_false_at p.funcs Fu.nil rightFu j hlj (by rw [show p.funcs.getD j Fu.nil = A from HAK.out]; exact h)]; rfl
          go_wp2_with fail
          refine (named_any [A.name] _ (fun _ => True) _ ⟨some ⟨wx.heap.size + 1, 0, none⟩, 1, wx.heap.size + 1, 0, rfl, Nat.le_refl _, by show _ ≤ _; simp, .inr ⟨rfl, trivial⟩, fun i hi => by obtain rfl : i = 0 := (by simp at hi; omega); simp⟩).mono ?_
          rintro r w3 ⟨rfl, hb3⟩
          have hbr : Below wx.heap.size wx w3 := (((Below.refl _ _).alloc (Nat.le_refl _) _).alloc (by simp) _).trans (hb3.mono (by simp; omega))
          have d1 : w3.cell? ⟨wx.heap.size, 1, none⟩ = some (.slice pa A.params.length pc) := below_keeps hb3 (by simp [World.cell?_alloc_lt])
          have d2 : w3.cell? ⟨wx.heap.size, 2, none⟩ = some (.slice qa A.locals.length qc) := below_keeps hb3 (by simp [World.cell?_alloc_lt])
          have d3 : w3.cell? ⟨wx.heap.size, 3, none⟩ = some (.slice ra A.body.length rc) := below_keeps hb3 (by simp [World.cell?_alloc_lt])
          have HBR := Lib.hid hbr
          have hs3 := hbr.size
          clear hb3 hbr e0 e1 e2 e3
          rw [show ([A.name].all isName) = isName A.name from by simp]
          have HBZ := Lib.hid (HBX.out.trans (HBR.out.mono (by have := HBX.out.size; omega)))
          cases q1 : isName A.name
          · have Q1 := Lib.hid q1; clear q1
            go_wp2_with fail
            go_ret
            exact ⟨ret_bool (bad.out (by rw [RA.out, Q1.out]; rfl)).symm, HBZ.out⟩
          have Q1 := Lib.hid q1; clear q1
          go_wp2_with fail
          refine (named_any A.params _ D _ (GP.out.old HBR.out)).mono ?_
          rintro r w4 ⟨rfl, hb4⟩
          have HB4 := Lib.hid (HBR.out.trans (hb4.mono hs3))
          have k1 := below_keeps hb4 d1; have k2 := below_keeps hb4 d2; have k3 := below_keeps hb4 d3
          have hs4 := hb4.size
          clear hb4 d1 d2 d3
          have HBZ4 := Lib.hid (HBX.out.trans (HB4.out.mono (by have := HBX.out.size; omega)))
          cases q2 : A.params.all isName
          · have Q2 := Lib.hid q2; clear q2
            go_wp2_with fail
            go_ret
            exact ⟨ret_bool (bad.out (by rw [RA.out, Q2.out]; simp)).symm, HBZ4.out⟩
          have Q2 := Lib.hid q2; clear q2
          go_wp2_with fail
          refine (named_any A.locals _ D _ (GL.out.old HB4.out)).mono ?_
          rintro r w5 ⟨rfl, hb5⟩
          have HB5 := Lib.hid (HB4.out.trans (hb5.mono (by omega)))
          have m1 := below_keeps hb5 k1; have m3 := below_keeps hb5 k3
          have hs5 := hb5.size
          clear hb5 k1 k2 k3
          have HBZ5 := Lib.hid (HBX.out.trans (HB5.out.mono (by have := HBX.out.size; omega)))
          cases q3 : A.locals.all isName
          · have Q3 := Lib.hid q3; clear q3
            go_wp2_with fail
            go_ret
            exact ⟨ret_bool (bad.out (by rw [RA.out, Q3.out]; simp)).symm, HBZ5.out⟩
          have Q3 := Lib.hid q3; clear q3
          by_cases q4 : A.params.length ≤ 6
          · go_wp2_with fail
            refine ((stmt_all 40 (by omega)).2 D A.body _ _ (GB.out.old HB5.out)).mono ?_
            rintro r w6 ⟨rfl, hb6⟩
            have HB6 := Lib.hid (HB5.out.trans (hb6.mono (by omega)))
            clear hb6 m1 m3
            have HBZ6 := Lib.hid (HBX.out.trans (HB6.out.mono (by have := HBX.out.size; omega)))
            cases q5 : A.body.all (stOk 40)
            · have Q5 := Lib.hid q5; clear q5
              go_wp2_with fail
              go_ret
              exact ⟨ret_bool (bad.out (by rw [RA.out, Q5.out]; simp)).symm, HBZ6.out⟩
            · have Q5 := Lib.hid q5; clear q5
              go_wp2_with fail
              go_roundw
              case rel =>
                refine ⟨j + 1, by omega, by go_num, rfl, fun i hi => ?_, HBY.out.trans (HB6.out.mono HBY.out.size)⟩
                rcases Nat.lt_succ_iff_lt_or_eq.1 hi with h | rfl
                · exact ALF.out i h
                · rw [HAK.out, RA.out, Q1.out, Q2.out, Q3.out, Q5.out]; simp [q4]
              case measure => simp [intOf]; omega
          · have q4' : 6 < A.params.length := by omega
            go_wp2_with fail
            go_ret
            exact ⟨ret_bool (bad.out (by rw [RA.out]; simp [q4])).symm, HBZ5.out⟩
        · have hjn : j = p.funcs.length := by omega
          have EF : Hid (p.funcs.all rightFu = true) := all_of_at p.funcs Fu.nil rightFu (fun i hi => ALF.out i (by omega))
          clear hjn
          go_wp2_with fail
          go_ret
          exact ⟨ret_bool (by rw [E.out, EA.out, EF.out]; rfl), HBX.out⟩
end Go.Proofs.YtcfpfnoldgnloaaGreatDoor
