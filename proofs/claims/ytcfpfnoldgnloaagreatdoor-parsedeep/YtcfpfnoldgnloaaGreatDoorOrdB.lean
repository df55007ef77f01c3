/-
  A region that draws its order, by an invariant of what is done already; only edges that bind need lead back. No condition.
-/
import Derived.Test.YtcfpfnoldgnloaaGreatDoorTreeA
set_option linter.unusedVariables false
set_option linter.unusedSimpArgs false
namespace Go.Proofs.YtcfpfnoldgnloaaGreatDoor
open Go.RowKit
set_option maxHeartbeats 4000000
set_option maxRecDepth 100000

def undone : List Bool → Nat
  | [] => 0
  | b :: l => (if b then 0 else 1) + undone l
theorem undone_set : ∀ (l : List Bool) (i : Nat), l[i]? = some false → undone (l.set i true) + 1 = undone l
  | [], i, h => by simp at h
  | b :: l, 0, h => by simp at h; subst h; simp [undone]; omega
  | b :: l, i + 1, h => by
    simp at h
    have := undone_set l i h
    simp only [List.set_cons_succ, undone]; omega
theorem undone_pos : ∀ (l : List Bool) (i : Nat), l[i]? = some false → 0 < undone l
  | [], i, h => by simp at h
  | b :: l, 0, h => by simp at h; subst h; simp [undone]; omega
  | b :: l, i + 1, h => by
    simp at h
    have := undone_pos l i h
    simp only [undone]; omega
theorem mem_ready {md : Region.Mode} {ops : Array Oper} {listed : Array Bool} {i : Nat} (h : i ∈ Region.ready md ops listed) : i < ops.size ∧ listed.toList[i]? = some false ∧ ∀ o, ops[i]? = some o → ∀ e, e ∈ o.after → Region.binds md e = true → listed.getD e.on false = true := by
  unfold Region.ready at h
  rw [List.mem_filter] at h
  obtain ⟨h1, h2⟩ := h
  simp only [Bool.and_eq_true, Bool.not_eq_true'] at h2
  refine ⟨List.mem_range.1 h1, ?_, fun o ho e he hb => ?_⟩
  · have h3 := h2.1
    rw [Array.getD_eq_getD_getElem?] at h3
    rw [Array.getElem?_toList]
    cases hl : listed[i]? with
    | none => rw [hl] at h3; simp at h3
    | some b => rw [hl] at h3; simp at h3; rw [h3]
  · have h3 := h2.2
    rw [ho] at h3
    simp only [Option.map_some, Option.getD_some] at h3
    have h4 := Array.all_eq_true_iff_forall_mem.1 h3 e he
    simpa [hb] using h4
/-- THE LAW: what is done is in 'listed'; the invariant is carried by each operation that may come. -/
theorem any_inv {P : Program} {ops : Array Oper} {Q : Exit → Act → World → Prop} (I : Array Bool → Act → World → Prop)
    (step : ∀ listed a w i, I listed a w → i < ops.size → listed.toList[i]? = some false → (∀ o, ops[i]? = some o → ∀ e, e ∈ o.after → Region.binds .any e = true → listed.getD e.on false = true) → wpOp P ops Q i (I (listed.setIfInBounds i true)) a w)
    (fin : ∀ listed a w, I listed a w → Region.ready .any ops listed = [] → Q .normal a w) : ∀ (fuel : Nat) (listed : Array Bool) (a : Act) (w : World), undone listed.toList ≤ fuel → I listed a w → wpAny P .any ops Q fuel listed a w
  | 0, listed, a, w, hu, hI => by
    have hr : Region.ready .any ops listed = [] := by
      cases hl : Region.ready .any ops listed with
      | nil => rfl
      | cons i l =>
        have := undone_pos _ _ (mem_ready (show i ∈ Region.ready .any ops listed by rw [hl]; exact List.mem_cons_self)).2.1
        omega
    exact ⟨hr, fin _ _ _ hI hr⟩
  | fuel + 1, listed, a, w, hu, hI => by
    refine ⟨fin _ _ _ hI, fun i hi => ?_⟩
    obtain ⟨h1, h2, h3⟩ := mem_ready hi
    refine wpOp_mono (fun a' w' hI' => any_inv I step fin fuel _ a' w' ?_ hI') (step listed a w i hI h1 h2 h3)
    have := undone_set _ _ h2
    rw [Array.toList_setIfInBounds]; omega
theorem undone_rep : ∀ n, undone (List.replicate n false) = n
  | 0 => rfl
  | n + 1 => by rw [List.replicate_succ, undone, undone_rep n]; simp; omega
theorem region_inv {P : Program} {id : Nat} {ops : Array Oper} {Q : Exit → Act → World → Prop} {a : Act} {w : World} (hm : P.follows .mixedOrders = true) (I : Array Bool → Act → World → Prop) (h0 : I (Array.replicate ops.size false) a w.drew)
    (step : ∀ listed a w i, I listed a w → i < ops.size → listed.toList[i]? = some false → (∀ o, ops[i]? = some o → ∀ e, e ∈ o.after → Region.binds .any e = true → listed.getD e.on false = true) → wpOp P ops Q i (I (listed.setIfInBounds i true)) a w)
    (fin : ∀ listed a w, I listed a w → Region.ready .any ops listed = [] → Q .normal a w) : (Code.region id ops true).wp P Q a w :=
  wp_region_any hm (any_inv I step fin _ _ _ _ (by rw [Array.toList_replicate, undone_rep]; exact Nat.le_refl _) h0)
/-- What is done, as a function. -/
def upd (L : Nat → Bool) (i : Nat) : Nat → Bool := fun j => if j = i then true else L j
theorem upd_same (L : Nat → Bool) (i : Nat) : upd L i i = true := if_pos rfl
theorem upd_ne (L : Nat → Bool) {i j : Nat} (h : j ≠ i) : upd L i j = L j := if_neg h
def doneOf (listed : Array Bool) : Nat → Bool := fun j => listed.getD j false
theorem doneOf_set (listed : Array Bool) (i : Nat) (h : i < listed.size) : doneOf (listed.setIfInBounds i true) = upd (doneOf listed) i := by
  funext j
  unfold doneOf upd
  by_cases hj : j = i
  · subst hj; simp [Array.getD_eq_getD_getElem?, h]
  · have : ¬ i = j := fun e => hj e.symm
    simp [Array.getD_eq_getD_getElem?, Array.getElem?_setIfInBounds, hj, this]
/-- Every edge goes to what stands before. -/
def lowOk (ops : Array Oper) : Bool := (List.range ops.size).all fun i => ((ops[i]?).map (fun o => o.after.all fun e => !(Region.binds .any e) || decide (e.on < i))).getD true
theorem all_done {ops : Array Oper} {listed : Array Bool} (hlow : lowOk ops = true) (hs : listed.size = ops.size) (h : Region.ready .any ops listed = []) : ∀ i, i < ops.size → doneOf listed i = true := by
  intro i
  induction i using Nat.strongRecOn with
  | _ i ih =>
    intro hi
    cases hd : doneOf listed i with
    | true => rfl
    | false =>
      exfalso
      have hm : i ∈ Region.ready .any ops listed := by
        unfold Region.ready
        rw [List.mem_filter]
        refine ⟨List.mem_range.2 hi, ?_⟩
        rw [Bool.and_eq_true]
        constructor
        · have hli : i < listed.size := by omega
          unfold doneOf at hd
          simp only [Array.getD_eq_getD_getElem?, Array.getElem?_eq_getElem hli, Option.getD_some] at hd ⊢
          rw [hd]; rfl
        · have ho : ops[i]? = some ops[i] := Array.getElem?_eq_getElem hi
          rw [ho]
          simp only [Option.map_some, Option.getD_some]
          rw [Array.all_eq_true_iff_forall_mem]
          intro e he
          have h1 := List.all_eq_true.1 hlow i (List.mem_range.2 hi)
          rw [ho] at h1
          simp only [Option.map_some, Option.getD_some] at h1
          have h2 := Array.all_eq_true_iff_forall_mem.1 h1 e he
          cases hb : Region.binds .any e with
          | false => rfl
          | true =>
            rw [hb] at h2
            have h4 : e.on < i := by simpa using h2
            have h3 := ih e.on h4 (by omega)
            unfold doneOf at h3
            rw [h3, Bool.or_true]
      rw [h] at hm; cases hm
theorem region_by {P : Program} {id : Nat} {ops : Array Oper} {Q : Exit → Act → World → Prop} {a : Act} {w : World} (hm : P.follows .mixedOrders = true) (hlow : lowOk ops = true) (I : (Nat → Bool) → Act → World → Prop) (h0 : I (fun _ => false) a w.drew)
    (step : ∀ L a w i, I L a w → i < ops.size → L i = false → (∀ o, ops[i]? = some o → ∀ e, e ∈ o.after → Region.binds .any e = true → L e.on = true) → wpOp P ops Q i (I (upd L i)) a w)
    (fin : ∀ L a w, I L a w → (∀ i, i < ops.size → L i = true) → Q .normal a w) : (Code.region id ops true).wp P Q a w := by
  refine region_inv hm (fun listed a w => listed.size = ops.size ∧ I (doneOf listed) a w) ⟨by simp, ?_⟩ ?_ ?_
  · have : doneOf (Array.replicate ops.size false) = fun _ => false := by
      funext j; unfold doneOf
      rw [Array.getD_eq_getD_getElem?, Array.getElem?_replicate]; split <;> rfl
    rw [this]; exact h0
  · intro listed a w i hI hi hl hd
    have hli : doneOf listed i = false := by
      unfold doneOf
      rw [Array.getElem?_toList] at hl
      rw [Array.getD_eq_getD_getElem?, hl]; rfl
    refine wpOp_mono (fun a' w' h => ⟨by rw [Array.size_setIfInBounds]; exact hI.1, ?_⟩) (step (doneOf listed) a w i hI.2 hi hli hd)
    rw [doneOf_set _ _ (by rw [hI.1]; exact hi)]; exact h
  · intro listed a w hI hr
    exact fin _ _ _ hI.2 (all_done hlow hI.1 hr)
theorem op_at {P : Program} {ops : Array Oper} {Q : Exit → Act → World → Prop} {i : Nat} {K : Act → World → Prop} {a : Act} {w : World} (o : Oper) (ho : ops[i]? = some o) (hg : o.guard = none) (h : ∀ K' : Act → World → Prop, (∀ a w, K a w → K' a w) → o.wp P a w K' Q) : wpOp P ops Q i K a w := by
  unfold wpOp
  rw [ho]
  simp only [Region.wanted, hg, if_true]
  exact .inl (h K (fun _ _ q => q))
theorem kb {L : Nat → Bool} {j k : Nat} {b : Bool} (h : upd L k j = b) (hn : j ≠ k := by decide) : L j = b := by rwa [upd_ne L hn] at h
theorem kc {L : Nat → Bool} {j k : Nat} {P : Prop} (h : L j = true → P) (hn : j ≠ k := by decide) : upd L k j = true → P := fun e => h (kb e hn)
theorem kq {L : Nat → Bool} {j i k : Nat} (h : L j = true → L i = true) (hn : j ≠ k := by decide) (hm : i ≠ k := by decide) : upd L k j = true → upd L k i = true := fun e => by rw [upd_ne L hm]; exact h (kb e hn)
theorem kn {L : Nat → Bool} {j k : Nat} {P : Prop} (h : L j = true → L k = true) (hl : L k = false) (hn : j ≠ k := by decide) : upd L k j = true → P := fun e => by
  have := h (kb e hn)
  rw [hl] at this; cases this
theorem kl {L : Nat → Bool} {j k : Nat} {P : Prop} (h : L j = false) (hn : j ≠ k := by decide) : upd L k j = true → P := fun e => by
  have := kb e hn
  rw [h] at this; cases this
theorem kf {L : Nat → Bool} {n k : Nat} (h : L n = true → ∀ j, j < n → L j = true) (hl : L k = false) (hk : k < n := by decide) : L n = false := by
  cases e : L n with
  | false => rfl
  | true => have := h e k hk; rw [hl] at this; cases this
theorem ks {L : Nat → Bool} {k : Nat} {P : Prop} : upd L k k = false → P := fun e => by rw [upd_same] at e; cases e
theorem kd {L : Nat → Bool} {j i k : Nat} (h : L i = true) (hm : i ≠ k := by decide) : upd L k j = true → upd L k i = true := fun _ => by rw [upd_ne L hm]; exact h
def regOf (n : Nat) : Code → Option Code
  | .region k o b => if k == n then some (.region k o b) else none
  | .loop c => regOf n c
  | .seq a b => match regOf n a with
    | some c => some c
    | none => regOf n b
  | .block _ c => regOf n c
  | .scope c => regOf n c
  | .cond _ a b => match regOf n a with
    | some c => some c
    | none => regOf n b
  | _ => none
end Go.Proofs.YtcfpfnoldgnloaaGreatDoor
