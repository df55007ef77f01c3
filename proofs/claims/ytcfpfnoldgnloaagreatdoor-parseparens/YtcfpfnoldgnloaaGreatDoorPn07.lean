/-
  A region that draws its order, by an invariant of what is done already; only edges that bind need lead back. No condition.
  A list of statements that is being appended to: its own block. No condition.
  Rows that the parser's methods append to, beside the parser and one variable; what else stays. No condition.
  args' closure: one more part, in whatever order it is built. Conditions: the parser and the closure's variables lie in memory; what expr answers.
-/
import Derived.Test.YtcfpfnoldgnloaaGreatDoorPn00
import Derived.Test.YtcfpfnoldgnloaaGreatDoorPn05
import Derived.Test.YtcfpfnoldgnloaaGreatDoorPn06
import Derived.Laws.OwnMore
set_option linter.unusedVariables false
set_option linter.unusedSimpArgs false
namespace Go.Proofs.YtcfpfnoldgnloaaGreatDoor
open Go.RowKit
set_option maxHeartbeats 4000000
set_option maxRecDepth 100000

def undone : List Bool → Nat
  | [] => 0
  | b :: l => (if b then 0 else 1) + undone l
theorem undone_set : ∀ (l : List Bool) (i : Nat), l[i]? = some false → undone (l.set i true) + 1 = undone l
  | [], i, h => by simp at h
  | b :: l, 0, h => by simp at h; subst h; simp [undone]; omega
  | b :: l, i + 1, h => by
    simp at h
    have := undone_set l i h
    simp only [List.set_cons_succ, undone]; omega
theorem undone_pos : ∀ (l : List Bool) (i : Nat), l[i]? = some false → 0 < undone l
  | [], i, h => by simp at h
  | b :: l, 0, h => by simp at h; subst h; simp [undone]; omega
  | b :: l, i + 1, h => by
    simp at h
    have := undone_pos l i h
    simp only [undone]; omega
theorem mem_ready {md : Region.Mode} {ops : Array Oper} {listed : Array Bool} {i : Nat} (h : i ∈ Region.ready md ops listed) : i < ops.size ∧ listed.toList[i]? = some false ∧ ∀ o, ops[i]? = some o → ∀ e, e ∈ o.after → Region.binds md e = true → listed.getD e.on false = true := by
  unfold Region.ready at h
  rw [List.mem_filter] at h
  obtain ⟨h1, h2⟩ := h
  simp only [Bool.and_eq_true, Bool.not_eq_true'] at h2
  refine ⟨List.mem_range.1 h1, ?_, fun o ho e he hb => ?_⟩
  · have h3 := h2.1
    rw [Array.getD_eq_getD_getElem?] at h3
    rw [Array.getElem?_toList]
    cases hl : listed[i]? with
    | none => rw [hl] at h3; simp at h3
    | some b => rw [hl] at h3; simp at h3; rw [h3]
  · have h3 := h2.2
    rw [ho] at h3
    simp only [Option.map_some, Option.getD_some] at h3
    have h4 := Array.all_eq_true_iff_forall_mem.1 h3 e he
    simpa [hb] using h4
/-- THE LAW: what is done is in 'listed'; the invariant is carried by each operation that may come. -/
theorem any_inv {P : Program} {ops : Array Oper} {Q : Exit → Act → World → Prop} (I : Array Bool → Act → World → Prop)
    (step : ∀ listed a w i, I listed a w → i < ops.size → listed.toList[i]? = some false → (∀ o, ops[i]? = some o → ∀ e, e ∈ o.after → Region.binds .any e = true → listed.getD e.on false = true) → wpOp P ops Q i (I (listed.setIfInBounds i true)) a w)
    (fin : ∀ listed a w, I listed a w → Region.ready .any ops listed = [] → Q .normal a w) : ∀ (fuel : Nat) (listed : Array Bool) (a : Act) (w : World), undone listed.toList ≤ fuel → I listed a w → wpAny P .any ops Q fuel listed a w
  | 0, listed, a, w, hu, hI => by
    have hr : Region.ready .any ops listed = [] := by
      cases hl : Region.ready .any ops listed with
      | nil => rfl
      | cons i l =>
        have := undone_pos _ _ (mem_ready (show i ∈ Region.ready .any ops listed by rw [hl]; exact List.mem_cons_self)).2.1
        omega
    exact ⟨hr, fin _ _ _ hI hr⟩
  | fuel + 1, listed, a, w, hu, hI => by
    refine ⟨fin _ _ _ hI, fun i hi => ?_⟩
    obtain ⟨h1, h2, h3⟩ := mem_ready hi
    refine wpOp_mono (fun a' w' hI' => any_inv I step fin fuel _ a' w' ?_ hI') (step listed a w i hI h1 h2 h3)
    have := undone_set _ _ h2
    rw [Array.toList_setIfInBounds]; omega
theorem undone_rep : ∀ n, undone (List.replicate n false) = n
  | 0 => rfl
  | n + 1 => by rw [List.replicate_succ, undone, undone_rep n]; simp; omega
theorem region_inv {P : Program} {id : Nat} {ops : Array Oper} {Q : Exit → Act → World → Prop} {a : Act} {w : World} (hm : P.follows .mixedOrders = true) (I : Array Bool → Act → World → Prop) (h0 : I (Array.replicate ops.size false) a w.drew)
    (step : ∀ listed a w i, I listed a w → i < ops.size → listed.toList[i]? = some false → (∀ o, ops[i]? = some o → ∀ e, e ∈ o.after → Region.binds .any e = true → listed.getD e.on false = true) → wpOp P ops Q i (I (listed.setIfInBounds i true)) a w)
    (fin : ∀ listed a w, I listed a w → Region.ready .any ops listed = [] → Q .normal a w) : (Code.region id ops true).wp P Q a w :=
  wp_region_any hm (any_inv I step fin _ _ _ _ (by rw [Array.toList_replicate, undone_rep]; exact Nat.le_refl _) h0)
/-- What is done, as a function. -/
def upd (L : Nat → Bool) (i : Nat) : Nat → Bool := fun j => if j = i then true else L j
theorem upd_same (L : Nat → Bool) (i : Nat) : upd L i i = true := if_pos rfl
theorem upd_ne (L : Nat → Bool) {i j : Nat} (h : j ≠ i) : upd L i j = L j := if_neg h
def doneOf (listed : Array Bool) : Nat → Bool := fun j => listed.getD j false
theorem doneOf_set (listed : Array Bool) (i : Nat) (h : i < listed.size) : doneOf (listed.setIfInBounds i true) = upd (doneOf listed) i := by
  funext j
  unfold doneOf upd
  by_cases hj : j = i
  · subst hj; simp [Array.getD_eq_getD_getElem?, h]
  · have : ¬ i = j := fun e => hj e.symm
    simp [Array.getD_eq_getD_getElem?, Array.getElem?_setIfInBounds, hj, this]
/-- Every edge goes to what stands before. -/
def lowOk (ops : Array Oper) : Bool := (List.range ops.size).all fun i => ((ops[i]?).map (fun o => o.after.all fun e => !(Region.binds .any e) || decide (e.on < i))).getD true
theorem all_done {ops : Array Oper} {listed : Array Bool} (hlow : lowOk ops = true) (hs : listed.size = ops.size) (h : Region.ready .any ops listed = []) : ∀ i, i < ops.size → doneOf listed i = true := by
  intro i
  induction i using Nat.strongRecOn with
  | _ i ih =>
    intro hi
    cases hd : doneOf listed i with
    | true => rfl
    | false =>
      exfalso
      have hm : i ∈ Region.ready .any ops listed := by
        unfold Region.ready
        rw [List.mem_filter]
        refine ⟨List.mem_range.2 hi, ?_⟩
        rw [Bool.and_eq_true]
        constructor
        · have hli : i < listed.size := by omega
          unfold doneOf at hd
          simp only [Array.getD_eq_getD_getElem?, Array.getElem?_eq_getElem hli, Option.getD_some] at hd ⊢
          rw [hd]; rfl
        · have ho : ops[i]? = some ops[i] := Array.getElem?_eq_getElem hi
          rw [ho]
          simp only [Option.map_some, Option.getD_some]
          rw [Array.all_eq_true_iff_forall_mem]
          intro e he
          have h1 := List.all_eq_true.1 hlow i (List.mem_range.2 hi)
          rw [ho] at h1
          simp only [Option.map_some, Option.getD_some] at h1
          have h2 := Array.all_eq_true_iff_forall_mem.1 h1 e he
          cases hb : Region.binds .any e with
          | false => rfl
          | true =>
            rw [hb] at h2
            have h4 : e.on < i := by simpa using h2
            have h3 := ih e.on h4 (by omega)
            unfold doneOf at h3
            rw [h3, Bool.or_true]
      rw [h] at hm; cases hm
theorem region_by {P : Program} {id : Nat} {ops : Array Oper} {Q : Exit → Act → World → Prop} {a : Act} {w : World} (hm : P.follows .mixedOrders = true) (hlow : lowOk ops = true) (I : (Nat → Bool) → Act → World → Prop) (h0 : I (fun _ => false) a w.drew)
    (step : ∀ L a w i, I L a w → i < ops.size → L i = false → (∀ o, ops[i]? = some o → ∀ e, e ∈ o.after → Region.binds .any e = true → L e.on = true) → wpOp P ops Q i (I (upd L i)) a w)
    (fin : ∀ L a w, I L a w → (∀ i, i < ops.size → L i = true) → Q .normal a w) : (Code.region id ops true).wp P Q a w := by
  refine region_inv hm (fun listed a w => listed.size = ops.size ∧ I (doneOf listed) a w) ⟨by simp, ?_⟩ ?_ ?_
  · have : doneOf (Array.replicate ops.size false) = fun _ => false := by
      funext j; unfold doneOf
      rw [Array.getD_eq_getD_getElem?, Array.getElem?_replicate]; split <;> rfl
    rw [this]; exact h0
  · intro listed a w i hI hi hl hd
    have hli : doneOf listed i = false := by
      unfold doneOf
      rw [Array.getElem?_toList] at hl
      rw [Array.getD_eq_getD_getElem?, hl]; rfl
    refine wpOp_mono (fun a' w' h => ⟨by rw [Array.size_setIfInBounds]; exact hI.1, ?_⟩) (step (doneOf listed) a w i hI.2 hi hli hd)
    rw [doneOf_set _ _ (by rw [hI.1]; exact hi)]; exact h
  · intro listed a w hI hr
    exact fin _ _ _ hI.2 (all_done hlow hI.1 hr)
theorem op_at {P : Program} {ops : Array Oper} {Q : Exit → Act → World → Prop} {i : Nat} {K : Act → World → Prop} {a : Act} {w : World} (o : Oper) (ho : ops[i]? = some o) (hg : o.guard = none) (h : ∀ K' : Act → World → Prop, (∀ a w, K a w → K' a w) → o.wp P a w K' Q) : wpOp P ops Q i K a w := by
  unfold wpOp
  rw [ho]
  simp only [Region.wanted, hg, if_true]
  exact .inl (h K (fun _ _ q => q))
theorem kb {L : Nat → Bool} {j k : Nat} {b : Bool} (h : upd L k j = b) (hn : j ≠ k := by decide) : L j = b := by rwa [upd_ne L hn] at h
theorem kc {L : Nat → Bool} {j k : Nat} {P : Prop} (h : L j = true → P) (hn : j ≠ k := by decide) : upd L k j = true → P := fun e => h (kb e hn)
theorem kq {L : Nat → Bool} {j i k : Nat} (h : L j = true → L i = true) (hn : j ≠ k := by decide) (hm : i ≠ k := by decide) : upd L k j = true → upd L k i = true := fun e => by rw [upd_ne L hm]; exact h (kb e hn)
theorem kn {L : Nat → Bool} {j k : Nat} {P : Prop} (h : L j = true → L k = true) (hl : L k = false) (hn : j ≠ k := by decide) : upd L k j = true → P := fun e => by
  have := h (kb e hn)
  rw [hl] at this; cases this
theorem kl {L : Nat → Bool} {j k : Nat} {P : Prop} (h : L j = false) (hn : j ≠ k := by decide) : upd L k j = true → P := fun e => by
  have := kb e hn
  rw [h] at this; cases this
theorem kf {L : Nat → Bool} {n k : Nat} (h : L n = true → ∀ j, j < n → L j = true) (hl : L k = false) (hk : k < n := by decide) : L n = false := by
  cases e : L n with
  | false => rfl
  | true => have := h e k hk; rw [hl] at this; cases this
theorem ks {L : Nat → Bool} {k : Nat} {P : Prop} : upd L k k = false → P := fun e => by rw [upd_same] at e; cases e
theorem kd {L : Nat → Bool} {j i k : Nat} (h : L i = true) (hm : i ≠ k := by decide) : upd L k j = true → upd L k i = true := fun _ => by rw [upd_ne L hm]; exact h
def regOf (n : Nat) : Code → Option Code
  | .region k o b => if k == n then some (.region k o b) else none
  | .loop c => regOf n c
  | .seq a b => match regOf n a with
    | some c => some c
    | none => regOf n b
  | .block _ c => regOf n c
  | .scope c => regOf n c
  | .cond _ a b => match regOf n a with
    | some c => some c
    | none => regOf n b
  | _ => none
end Go.Proofs.YtcfpfnoldgnloaaGreatDoor

namespace Go.Proofs.YtcfpfnoldgnloaaGreatDoor
open Go.RowKit
set_option maxHeartbeats 4000000
set_option maxRecDepth 100000

theorem infoSt : (Tryz.prog.info? 60).map (fun i => (i.zero, i.size, i.bytes)) = some (some (.agg #[.int .i64 0, .string ⟨#[]⟩, .slice none 0 0, .slice none 0 0, .slice none 0 0]), 5, 96) := by kernel_rfl
theorem ExsAt.strongS {D : Nat → Prop} {w : World} {l : List Ex} {v : Value} (h : ExsAt D w l v) : ExsAt (fun b => D b ∧ b < w.heap.size) w l v := h.strong
theorem StsAt.strong {D : Nat → Prop} {w : World} {l : List St} {v : Value} (h : StsAt D w l v) : StsAt (fun b => D b ∧ b < w.heap.size) w l v := by
  induction h with
  | mk l a cap b off sa st se hcap hfit ha h0 h1 h2 h3 h4 ea _ _ ih1 ih2 =>
    refine .mk l a cap b off sa st se hcap hfit ?_ h0 h1 h2 h3 h4 (fun i hi => (ea i hi).strong) ih1 ih2
    rcases ha with ha | ⟨ha, hD⟩
    · exact .inl ha
    · rcases Nat.eq_zero_or_pos l.length with hz | hz
      · exact .inl hz
      · exact .inr ⟨ha, hD, World.block_lt_of_cell? _ _ (h0 0 hz)⟩
/-- A statement, and the values of its three slices. -/
structure StV where
  x : St
  a : Value
  t : Value
  e : Value
def stFlat (ps : List StV) : List Value := ps.flatMap fun p => stCells p.x p.a p.t p.e
theorem stFlat_len : ∀ ps, (stFlat ps).length = ps.length * 5
  | [] => rfl
  | p :: ps => by
    have := stFlat_len ps
    unfold stFlat at *
    simp only [List.flatMap_cons, List.length_append, List.length_cons]
    rw [this]; simp [stCells]; omega
theorem stFlat_at : ∀ (ps : List StV) (i q : Nat) (p : StV), ps[i]? = some p → q < 5 → (stFlat ps)[i * 5 + q]? = (stCells p.x p.a p.t p.e)[q]?
  | [], i, q, p, h, _ => by simp at h
  | x :: ps, 0, q, p, h, hq => by
    simp at h; subst h
    unfold stFlat
    rw [List.flatMap_cons, List.getElem?_append_left (by simp [stCells]; omega)]
    simp
  | x :: ps, i + 1, q, p, h, hq => by
    simp at h
    have := stFlat_at ps i q p h hq
    unfold stFlat at *
    rw [List.flatMap_cons, List.getElem?_append_right (by simp [stCells]; omega)]
    rw [← this]; congr 1; simp [stCells]; omega
theorem stFlat_app (a c : List StV) : stFlat (a ++ c) = stFlat a ++ stFlat c := by unfold stFlat; rw [List.flatMap_append]
/-- The parts of a statement lie in the blocks D. -/
def StParts (D : Nat → Prop) (w : World) (p : StV) : Prop := ExsAt D w p.x.args p.a ∧ StsAt D w p.x.thn p.t ∧ StsAt D w p.x.els p.e
theorem StParts.keep {D : Nat → Prop} {w w' : World} (hk : Keeps D w w') {p : StV} (h : StParts D w p) : StParts D w' p := ⟨h.1.keep hk, h.2.1.keep hk, h.2.2.keep hk⟩
theorem StParts.mono {D D' : Nat → Prop} {w : World} (hD : ∀ b, D b → D' b) {p : StV} (h : StParts D w p) : StParts D' w p := ⟨h.1.mono hD, h.2.1.mono hD, h.2.2.mono hD⟩
theorem StParts.strong {D : Nat → Prop} {w : World} {p : StV} (h : StParts D w p) : StParts (fun b => D b ∧ b < w.heap.size) w p := ⟨h.1.strong, h.2.1.strong, h.2.2.strong⟩
/-- v holds the statements of ps, in a block of its own; their parts lie elsewhere. -/
def StsOwn (w : World) (base : Nat) (ps : List StV) (v : Value) : Prop :=
  w.ownsRow base 60 5 v ps.length (stFlat ps) ∧ ∀ p, p ∈ ps → StParts (fun b => base ≤ b ∧ v.ownBlock ≠ some b) w p
theorem StsOwn.zero (w : World) (base : Nat) : StsOwn w base [] (.slice none 0 0) := ⟨⟨rfl, .inl ⟨rfl, rfl⟩⟩, fun p hp => by cases hp⟩
/-- Where only other blocks change. -/
theorem StsOwn.keep {w w' : World} {base : Nat} {ps : List StV} {v : Value} (h : StsOwn w base ps v) (hk : ∀ k, k < w.heap.size → base ≤ k → w'.heap[k]? = w.heap[k]?) : StsOwn w' base ps v := by
  refine ⟨⟨h.1.1, ?_⟩, fun p hp => (h.2 p hp).keep (fun b off x hb hx => by rw [World.cell?_of_block (w := w) (hk b (World.block_lt_of_cell? _ _ hx) hb.1)]; exact hx)⟩
  rcases h.1.2 with hn | ⟨g, cap, cur, rfl, hb, hg, r⟩
  · exact .inl hn
  · refine .inr ⟨g, cap, cur, rfl, hb, ?_, r⟩
    rw [hk g (by
      rcases Nat.lt_or_ge g w.heap.size with h' | h'
      · exact h'
      · simp [Array.getElem?_eq_none h'] at hg) hb]
    exact hg
theorem StsOwn.sfr {s : Nat} {w w' : World} {base : Nat} {ps : List StV} {v : Value} (h : StsOwn w base ps v) (hf : SFr s w w') (hs : s < base) : StsOwn w' base ps v := h.keep (fun k h1 h2 => hf.block k h1 (by omega))
theorem ExsOwn.sfr {s : Nat} {w w' : World} {base : Nat} {ps : List (Ex × Value)} {v : Value} (h : ExsOwn w base ps v) (hf : SFr s w w') (hs : s < base) : ExsOwn w' base ps v := h.keep (fun k h1 h2 => hf.block k h1 (by omega))
theorem ExsOwn.below {w w' : World} {base : Nat} {ps : List (Ex × Value)} {v : Value} (h : ExsOwn w base ps v) (hb : Below w.heap.size w w') : ExsOwn w' base ps v := h.keep (fun k h1 h2 => hb.block k h1)
theorem ExsOwn.other {w : World} {base : Nat} {ps : List (Ex × Value)} {v : Value} (h : ExsOwn w base ps v) {k : Nat} (hk : k < base) (i : Nat) (u : Value) : ExsOwn (w.setCell ⟨k, i, none⟩ u) base ps v := h.keep (fun b h1 h2 => Below.heap_setCell _ _ _ _ (by show b ≠ k; omega))
theorem StsOwn.shape {w : World} {base : Nat} {ps : List StV} {v : Value} (h : StsOwn w base ps v) : ∃ a cap, v = .slice a ps.length cap := by
  rcases h.1.2 with ⟨rfl, h0⟩ | ⟨g, cap, cur, rfl, _⟩
  · exact ⟨none, 0, by rw [h0]⟩
  · exact ⟨_, _, rfl⟩
theorem StsOwn.ge {w : World} {base : Nat} {ps : List StV} {v : Value} (h : StsOwn w base ps v) {k : Nat} (hk : v.ownBlock = some k) : base ≤ k ∧ k < w.heap.size := h.1.lt k hk
theorem StsOwn.sts {w : World} {base : Nat} {ps : List StV} {v : Value} (h : StsOwn w base ps v) (hf : Fits ps.length) : StsAt (base ≤ ·) w (ps.map (·.x)) v := by
  have hl : (ps.map (·.x)).length = ps.length := List.length_map _
  rcases h.1.2 with ⟨rfl, h0⟩ | ⟨g, cap, cur, rfl, hb, hg, hc, hm, hs, ht⟩
  · have : ps = [] := List.length_eq_zero_iff.1 h0
    subst this; exact StsAt.zero
  · have cell : ∀ i q p u, ps[i]? = some p → q < 5 → (stCells p.x p.a p.t p.e)[q]? = some u → w.cell? ⟨g, 0 + i * 5 + q, none⟩ = some u := by
      intro i q p u hp hq hu
      have h1 := h.1.cells (g := g) rfl (i * 5 + q) u (by rw [stFlat_at ps i q p hp hq]; exact hu)
      have h2 : (⟨g, 0, none⟩ : Addr).add (i * 5 + q) = ⟨g, 0 + i * 5 + q, none⟩ := by unfold Addr.add; split <;> simp_all <;> omega
      rwa [h2] at h1
    have gp : ∀ i, i < ps.length → ∃ p, ps[i]? = some p ∧ stAt (ps.map (·.x)) i = p.x ∧ p ∈ ps := by
      intro i hi
      refine ⟨ps[i], List.getElem?_eq_getElem hi, ?_, List.getElem_mem hi⟩
      simp [stAt, List.getElem?_eq_getElem hi]
    let z : StV := ⟨St.nil, undef, undef, undef⟩
    have e := StsAt.mk (D := (base ≤ ·)) (w := w) (ps.map (·.x)) (some ⟨g, 0, none⟩) cap g 0 (fun i => (ps.getD i z).a) (fun i => (ps.getD i z).t) (fun i => (ps.getD i z).e) (by rw [hl]; exact hc) (by rw [hl]; exact hf) (.inr ⟨rfl, hb⟩)
    rw [hl] at e
    have sv : ∀ i p, ps[i]? = some p → ps.getD i z = p := fun i p hp => by rw [List.getD_eq_getElem?_getD, hp]; rfl
    refine e (fun i hi => ?_) (fun i hi => ?_) (fun i hi => ?_) (fun i hi => ?_) (fun i hi => ?_) (fun i hi => ?_) (fun i hi => ?_) (fun i hi => ?_)
    all_goals
      obtain ⟨p, hp, hx, hm⟩ := gp i hi
      try rw [hx]
      try rw [sv i p hp]
    · exact cell i 0 p _ hp (by omega) rfl
    · exact cell i 1 p _ hp (by omega) rfl
    · exact cell i 2 p _ hp (by omega) rfl
    · exact cell i 3 p _ hp (by omega) rfl
    · exact cell i 4 p _ hp (by omega) rfl
    · exact (h.2 p hm).1.mono (fun b hb => hb.1)
    · exact (h.2 p hm).2.1.mono (fun b hb => hb.1)
    · exact (h.2 p hm).2.2.mono (fun b hb => hb.1)
/-- A statement behind the others. -/
theorem StsOwn.snoc {w w' : World} {base : Nat} {ps : List StV} {v : Value} (h : StsOwn w base ps v) (p : StV) (hx : StParts (fun b => base ≤ b ∧ v.ownBlock ≠ some b) w p) {g cap : Nat}
    (hown : w'.ownsRow base 60 5 (.slice (some ⟨g, 0, none⟩) (ps.length + 1) cap) (ps.length + 1) (stFlat ps ++ stCells p.x p.a p.t p.e)) (hgrow : w.grownBy w' v.ownBlock) (hg : v.ownBlock = some g ∨ g = w.heap.size) :
    StsOwn w' base (ps ++ [p]) (.slice (some ⟨g, 0, none⟩) (ps.length + 1) cap) := by
  have hl : (ps ++ [p]).length = ps.length + 1 := by simp
  have hfl : stFlat (ps ++ [p]) = stFlat ps ++ stCells p.x p.a p.t p.e := by rw [stFlat_app]; simp [stFlat]
  have keep : ∀ q : StV, StParts (fun b => base ≤ b ∧ v.ownBlock ≠ some b) w q → StParts (fun b => base ≤ b ∧ (Value.slice (some ⟨g, 0, none⟩) (ps.length + 1) cap).ownBlock ≠ some b) w' q := by
    intro q hu
    have h1 : StParts (fun b => (base ≤ b ∧ v.ownBlock ≠ some b) ∧ b < w.heap.size) w q := hu.strong
    have h2 : StParts (fun b => (base ≤ b ∧ v.ownBlock ≠ some b) ∧ b < w.heap.size) w' q := h1.keep (fun b off y hb hy => hgrow.cell hy (fun e => hb.1.2 e.symm))
    refine h2.mono (fun b hb => ⟨hb.1.1, ?_⟩)
    show some g ≠ some b
    intro e
    cases e
    rcases hg with hg | hg
    · exact hb.1.2 hg
    · omega
  refine ⟨by rw [hl, hfl]; exact hown, fun q hq => ?_⟩
  rcases List.mem_append.1 hq with hq | hq
  · exact keep _ (h.2 q hq)
  · rw [List.mem_singleton.1 hq]; exact keep _ hx
theorem st_one (x : St) (a b c : Option Addr) (n m k i j l : Nat) : ∀ u, u ∈ stCells x (.slice a n i) (.slice b m j) (.slice c k l) → u.oneCell' = true := by
  intro u hu
  simp only [stCells, List.mem_cons, List.not_mem_nil, or_false] at hu
  rcases hu with rfl | rfl | rfl | rfl | rfl <;> rfl
end Go.Proofs.YtcfpfnoldgnloaaGreatDoor

namespace Go.Proofs.YtcfpfnoldgnloaaGreatDoor
open Go.RowKit
set_option maxRecDepth 100000
set_option maxHeartbeats 4000000

/-- What may change: the parser, one variable's block, blocks from base on. -/
structure AFr (p ob base : Nat) (w w' : World) : Prop where
  os : w'.os = w.os
  tape : w'.tape = w.tape
  output : w'.output = w.output
  size : w.heap.size ≤ w'.heap.size
  block : ∀ k, k < w.heap.size → k < base → k ≠ p → k ≠ ob → w'.heap[k]? = w.heap[k]?
section
variable {p ob base : Nat} {u v w : World}
theorem AFr.refl (p ob base : Nat) (w : World) : AFr p ob base w w := ⟨rfl, rfl, rfl, Nat.le_refl _, fun _ _ _ _ _ => rfl⟩
theorem AFr.trans (h : AFr p ob base u v) (k : AFr p ob base v w) : AFr p ob base u w :=
  ⟨k.os.trans h.os, k.tape.trans h.tape, k.output.trans h.output, Nat.le_trans h.size k.size, fun i hi hb h1 h2 => (k.block i (Nat.lt_of_lt_of_le hi h.size) hb h1 h2).trans (h.block i hi hb h1 h2)⟩
theorem AFr.of_sfr (h : SFr p v w) : AFr p ob base v w := ⟨h.os, h.tape, h.output, h.size, fun k hk _ h1 _ => h.block k hk h1⟩
theorem AFr.of_below (h : Below v.heap.size v w) : AFr p ob base v w := AFr.of_sfr (SFr.of_below h)
theorem AFr.old (h : AFr p ob base u v) (hb : Below v.heap.size v w) : AFr p ob base u w := h.trans (AFr.of_below hb)
theorem AFr.set (h : AFr p ob base u v) (i : Nat) (x : Value) : AFr p ob base u (v.setCell ⟨ob, i, none⟩ x) :=
  ⟨h.os, h.tape, h.output, by simpa [World.setCell] using h.size, fun k hk hb h1 h2 => (Below.heap_setCell _ _ _ _ (show k ≠ ob from h2)).trans (h.block k hk hb h1 h2)⟩
theorem AFr.high (h : AFr p ob base u v) {g : Nat} (hg : base ≤ g) (i : Nat) (x : Value) : AFr p ob base u (v.setCell ⟨g, i, none⟩ x) :=
  ⟨h.os, h.tape, h.output, by simpa [World.setCell] using h.size, fun k hk hb h1 h2 => (Below.heap_setCell _ _ _ _ (show k ≠ g by omega)).trans (h.block k hk hb h1 h2)⟩
theorem AFr.grown (h : AFr p ob base u v) {row : Option Nat} (hg : v.grownBy w row) (hr : ∀ k, row = some k → base ≤ k) : AFr p ob base u w :=
  ⟨hg.os.trans h.os, hg.tape.trans h.tape, hg.output.trans h.output, Nat.le_trans h.size hg.size, fun k hk hb h1 h2 => (hg.block k (Nat.lt_of_lt_of_le hk h.size) (fun e => by have := hr k e.symm; omega)).trans (h.block k hk hb h1 h2)⟩
theorem OwnAt.afr {b : Nat} {cs : List Value} {T : TypeId} (h : OwnAt v b cs T) (hf : AFr p ob base v w) (h1 : b < base) (h2 : b ≠ p) (h3 : b ≠ ob) : OwnAt w b cs T := (hf.block b h.lt h1 h2 h3).trans h
theorem OwnAt.grew {b : Nat} {cs : List Value} {T : TypeId} (h : OwnAt v b cs T) {row : Option Nat} (hg : v.grownBy w row) (hr : row ≠ some b) : OwnAt w b cs T := (hg.block b h.lt (fun e => hr e.symm)).trans h
end
theorem Ps.grown {w w' : World} {p tb : Nat} {l : List Tk} (h : Ps w p tb l) {row : Option Nat} (hg : w.grownBy w' row) {base : Nat} (hr : ∀ k, row = some k → base ≤ k) (hp : p < base) : Ps w' p tb l := by
  obtain ⟨o, cap, h⟩ := h
  have hl := h.lt
  refine ⟨o, cap, h.own.grew hg (fun e => by have := hr p e; omega), h.row.keep (fun b off x hb hx => ?_), h.hcap, h.fit, h.lt, h.ends, h.nums⟩
  have hb : b = tb := hb
  rw [World.cell?_of_block (w := w) (hg.block b (World.block_lt_of_cell? _ _ hx) (fun e => by have := hr b e.symm; omega))]; exact hx
theorem ExsOwn.sfrB {p : Nat} {w w' : World} {base : Nat} {ps : List (Ex × Value)} {v : Value} (h : ExsOwn w base ps v) (hf : SFr p w w') (hp : p < base) : ExsOwn w' base ps v := h.keep (fun k h1 h2 => hf.block k h1 (by omega))
theorem ExsOwn.old {w w' : World} {base : Nat} {ps : List (Ex × Value)} {v : Value} (h : ExsOwn w base ps v) (hb : Below w.heap.size w w') : ExsOwn w' base ps v := h.keep (fun k h1 _ => hb.block k h1)
theorem ExsOwn.low {w : World} {base : Nat} {ps : List (Ex × Value)} {v : Value} (h : ExsOwn w base ps v) {k : Nat} (hk : k < base) (i : Nat) (x : Value) : ExsOwn (w.setCell ⟨k, i, none⟩ x) base ps v := h.keep (fun j _ h2 => Below.heap_setCell _ _ _ _ (show j ≠ k by omega))
theorem ExsOwn.rowGe {w : World} {base : Nat} {ps : List (Ex × Value)} {v : Value} (h : ExsOwn w base ps v) : ∀ k, v.ownBlock = some k → base ≤ k := fun k e => (World.ownsRow.lt h.1 k e).1
theorem ExsOwn.yshape {w : World} {base : Nat} {ps : List (Ex × Value)} {v : Value} (h : ExsOwn w base ps v) : ∃ a cap, v = .slice a ps.length cap := by
  rcases h.1.2 with ⟨rfl, h0⟩ | ⟨g, cap, cur, rfl, _⟩
  · exact ⟨none, 0, by rw [h0]⟩
  · exact ⟨_, _, rfl⟩
def exZ : Ex := .mk 0 0 0 [] []
/-- The last one is stored. -/
theorem ExsOwn.setLast {w : World} {base g cap : Nat} {ps : List (Ex × Value)} {zv : Value} {z : Ex} (h : ExsOwn w base (ps ++ [(z, zv)]) (.slice (some ⟨g, 0, none⟩) (ps.length + 1) cap)) {x : Ex} {s : Value} (hx : ExsAt (fun b => base ≤ b ∧ b ≠ g) w x.args s) (hn : I64 x.n) :
    ExsOwn (((((w.setCell ⟨g, ps.length * 5, none⟩ (.int .i64 x.kind)).setCell ⟨g, ps.length * 5 + 1, none⟩ (.int .i64 x.op)).setCell ⟨g, ps.length * 5 + 2, none⟩ (.int .i64 x.n)).setCell ⟨g, ps.length * 5 + 3, none⟩ (.string (strOf x.name))).setCell ⟨g, ps.length * 5 + 4, none⟩ s) base (ps ++ [(x, s)]) (.slice (some ⟨g, 0, none⟩) (ps.length + 1) cap) := by
  have hl : (ps ++ [(z, zv)]).length = ps.length + 1 := by simp
  have h0 := h.1
  rw [hl] at h0
  have h1 := ((((h0.stored (ps.length * 5) (.int .i64 x.kind)).1.stored (ps.length * 5 + 1) (.int .i64 x.op)).1.stored (ps.length * 5 + 2) (.int .i64 x.n)).1.stored (ps.length * 5 + 3) (.string (strOf x.name))).1.stored (ps.length * 5 + 4) s
  have hf : (((((exFlat (ps ++ [(z, zv)])).set (ps.length * 5) (.int .i64 x.kind)).set (ps.length * 5 + 1) (.int .i64 x.op)).set (ps.length * 5 + 2) (.int .i64 x.n)).set (ps.length * 5 + 3) (.string (strOf x.name))).set (ps.length * 5 + 4) s = exFlat (ps ++ [(x, s)]) := by
    rw [exFlat_app, exFlat_app]
    have hq := exFlat_len ps
    rw [← hq]
    simp [exFlat, exCells, List.set_append]
  rw [hf] at h1
  have hk : Keeps (fun b => base ≤ b ∧ b ≠ g) w (((((w.setCell ⟨g, ps.length * 5, none⟩ (.int .i64 x.kind)).setCell ⟨g, ps.length * 5 + 1, none⟩ (.int .i64 x.op)).setCell ⟨g, ps.length * 5 + 2, none⟩ (.int .i64 x.n)).setCell ⟨g, ps.length * 5 + 3, none⟩ (.string (strOf x.name))).setCell ⟨g, ps.length * 5 + 4, none⟩ s) := by
    have hng : ¬ (base ≤ g ∧ g ≠ g) := fun e => e.2 rfl
    exact ((((keeps_set w hng _ _).trans (keeps_set _ hng _ _)).trans (keeps_set _ hng _ _)).trans (keeps_set _ hng _ _)).trans (keeps_set _ hng _ _)
  have hl2 : (ps ++ [(x, s)]).length = ps.length + 1 := by simp
  refine ⟨by rw [hl2]; exact h1.1, fun q hq => ?_⟩
  have ob : ∀ b, (base ≤ b ∧ (Value.slice (some ⟨g, 0, none⟩) (ps.length + 1) cap).ownBlock ≠ some b) → base ≤ b ∧ b ≠ g := fun b hb => ⟨hb.1, fun e => hb.2 (by rw [e]; rfl)⟩
  have bo : ∀ b, base ≤ b ∧ b ≠ g → (base ≤ b ∧ (Value.slice (some ⟨g, 0, none⟩) (ps.length + 1) cap).ownBlock ≠ some b) := fun b hb => ⟨hb.1, fun e => hb.2 (by injection e with e; exact e.symm)⟩
  rcases List.mem_append.1 hq with hq | hq
  · have := h.2 q (List.mem_append.2 (.inl hq))
    exact ⟨((this.1.mono ob).keep hk).mono bo, this.2⟩
  · rw [List.mem_singleton.1 hq]
    exact ⟨(hx.keep hk).mono bo, hn⟩
section
variable (w : World) {o : Oper} {a : Act} {K : Act → World → Prop} {Q : Exit → Act → World → Prop}
/-- An empty expression is appended. -/
theorem wp_exSnoc (s x : Operand) (ho : o.op = .call { callee := .builtin .append, args := #[s, x], argTypes := #[25, 25] })
    (base : Nat) (ps : List (Ex × Value)) (v : Value) (hs : a.eval s = v) (hown : ExsOwn w base ps v) (b c : Nat) (hx : a.eval x = .slice (some ⟨b, 0, none⟩) 1 c) (hnew : OwnAt w b (exCells exZ (.slice none 0 0)) 27)
    (hlen : ps.length ≤ 1000000) (hbase : base ≤ w.heap.size)
    (h : ∀ g cap w', ExsOwn w' base (ps ++ [(exZ, .slice none 0 0)]) (.slice (some ⟨g, 0, none⟩) (ps.length + 1) cap) → w.grownBy w' v.ownBlock → (v.ownBlock = some g ∨ g = w.heap.size) → g < w'.heap.size → K (a.put o.dst (.slice (some ⟨g, 0, none⟩) (ps.length + 1) cap)) w') : o.wp Tryz.prog a w K Q := by
  obtain ⟨i0, hi, hz0, hz1, hz2⟩ := info_parts infoEx
  refine wp_append_lies (P := Tryz.prog) w s x _ ho base 27 i0 _ 5 _ Tryz.underlying25 hi hz0 hz1 hz2 rfl (by decide) v ps.length (exFlat ps) hs hown.1 ⟨b, 0, none⟩ 1 c (exCells exZ (.slice none 0 0)) hx rfl ?_ ?_ (by decide) (by unfold maxLen; omega) (by omega) hbase _ rfl ?_
  · intro j u hu
    have h2 : (⟨b, 0, none⟩ : Addr).add j = ⟨b, j, none⟩ := by unfold Addr.add; split <;> simp_all
    rw [h2]; exact hnew.at j u hu
  · intro u hu
    simp only [exCells, List.mem_cons, List.not_mem_nil, or_false] at hu
    rcases hu with rfl | rfl | rfl | rfl | rfl <;> rfl
  · intro g cap w' hown' hg hat hlt
    exact h g cap w' (hown.snoc exZ (.slice none 0 0) ExsAt.zero yi64_0 hown' hg hat) hg hat hlt
end
end Go.Proofs.YtcfpfnoldgnloaaGreatDoor

namespace Go.Proofs.YtcfpfnoldgnloaaGreatDoor
open Go.RowKit
set_option maxHeartbeats 8000000
set_option maxRecDepth 100000

structure VY1 (p tb cb ob base : Nat) (va : Option Addr) (vc : Nat) (ps : List (Ex × Value)) (l r2 : List Tk) (x : Ex) (W : World) (L : Nat → Bool) (sa : Option Addr) (sc : Nat) (nb : Nat) (gn : Nat) (cn : Nat) (z2 z3 z4 z5 z6 z7 z8 : Value) (wx : World) : Prop where
  p5_0 : L 5 = true → L 0 = true
  p5_2 : L 5 = true → L 2 = true
  p5_4 : L 5 = true → L 4 = true
  p6_5 : L 6 = true → L 5 = true
  p7_2 : L 7 = true → L 2 = true
  p7_4 : L 7 = true → L 4 = true
  p7_5 : L 7 = true → L 5 = true
  p8_2 : L 8 = true → L 2 = true
  p8_4 : L 8 = true → L 4 = true
  p8_5 : L 8 = true → L 5 = true
  c0 : L 0 = true → z2 = .slice va ps.length vc
  c1 : L 1 = true → z3 = .pointer (some ⟨p, 0, none⟩)
  c2 : L 2 = true → z4 = exV x (.slice sa x.args.length sc)
  c3 : L 3 = true → z5 = .int .i64 ps.length
  c4 : L 4 = true → z6 = .slice (some ⟨nb, 0, none⟩) 1 1
  c5 : L 5 = true → z7 = .slice (some ⟨gn, 0, none⟩) (ps.length + 1) cn
  c6 : L 6 = true → z8 = .pointer (some ⟨gn, ps.length * 5, none⟩)
  fr : AFr p ob base W wx
  pa : L 2 = false → Ps wx p tb l
  pb : L 2 = true → Ps wx p tb r2
  c : OwnAt wx cb [.pointer (some ⟨p, 0, none⟩)] 64
  oa : L 8 = false → OwnAt wx ob [.slice va ps.length vc] 25
  ob : L 8 = true → OwnAt wx ob [.slice (some ⟨gn, 0, none⟩) (ps.length + 1) cn] 25
  ra : L 5 = false → ExsOwn wx base ps (.slice va ps.length vc)
  g4 : L 4 = true → L 5 = false → OwnAt wx nb (exCells exZ (.slice none 0 0)) 27 ∧ base ≤ nb ∧ (Value.slice va ps.length vc).ownBlock ≠ some nb
  xa : L 2 = true → L 5 = false → ExsAt (fun b => base ≤ b ∧ (Value.slice va ps.length vc).ownBlock ≠ some b) wx x.args (.slice sa x.args.length sc)
  xn : L 2 = true → I64 x.n
  rb : L 5 = true → L 7 = false → ExsOwn wx base (ps ++ [(exZ, .slice none 0 0)]) (.slice (some ⟨gn, 0, none⟩) (ps.length + 1) cn)
  xb : L 5 = true → ExsAt (fun b => base ≤ b ∧ b ≠ gn) wx x.args (.slice sa x.args.length sc)
  rc : L 7 = true → ExsOwn wx base (ps ++ [(x, .slice sa x.args.length sc)]) (.slice (some ⟨gn, 0, none⟩) (ps.length + 1) cn)
  gb : L 5 = true → base ≤ gn ∧ gn < wx.heap.size
def IY1 (p tb cb ob base : Nat) (va : Option Addr) (vc : Nat) (ps : List (Ex × Value)) (l r2 : List Tk) (x : Ex) (W : World)  (L : Nat → Bool) (a' : Act) (w' : World) : Prop :=
  ∃ sa : Option Addr, ∃ sc : Nat, ∃ nb : Nat, ∃ gn : Nat, ∃ cn : Nat, ∃ z2 z3 z4 z5 z6 z7 z8 : Value, VY1 p tb cb ob base va vc ps l r2 x W L sa sc nb gn cn z2 z3 z4 z5 z6 z7 z8 w' ∧ a' = ⟨[.pointer (some ⟨ob, 0, none⟩), .pointer (some ⟨cb, 0, none⟩), z2, z3, z4, z5, z6, z7, z8].toArray, []⟩
def RY1 (p tb cb ob base : Nat) (va : Option Addr) (vc : Nat) (ps : List (Ex × Value)) (l r2 : List Tk) (x : Ex) (W : World)  (a' : Act) (w' : World) : Prop :=
  ∃ sa : Option Addr, ∃ sc : Nat, ∃ nb : Nat, ∃ gn : Nat, ∃ cn : Nat, (AFr p ob base W w' ∧ Ps w' p tb r2 ∧ OwnAt w' cb [.pointer (some ⟨p, 0, none⟩)] 64 ∧ OwnAt w' ob [.slice (some ⟨gn, 0, none⟩) (ps.length + 1) cn] 25 ∧ ExsOwn w' base (ps ++ [(x, .slice sa x.args.length sc)]) (.slice (some ⟨gn, 0, none⟩) (ps.length + 1) cn)) ∧ a' = ⟨[.pointer (some ⟨ob, 0, none⟩), .pointer (some ⟨cb, 0, none⟩), .slice va ps.length vc, .pointer (some ⟨p, 0, none⟩), exV x (.slice sa x.args.length sc), .int .i64 ps.length, .slice (some ⟨nb, 0, none⟩) 1 1, .slice (some ⟨gn, 0, none⟩) (ps.length + 1) cn, .pointer (some ⟨gn, ps.length * 5, none⟩)].toArray, []⟩
theorem reg_Y1 (p tb cb ob base : Nat) (va : Option Addr) (vc : Nat) (ps : List (Ex × Value)) (l r2 : List Tk) (x : Ex) (W : World) (hps : Ps W p tb l) (hc : OwnAt W cb [.pointer (some ⟨p, 0, none⟩)] 64) (ho : OwnAt W ob [.slice va ps.length vc] 25) (hrow : ExsOwn W base ps (.slice va ps.length vc)) (hpc : p < cb) (hco : cb < ob) (hob : ob < base) (hbs : base ≤ W.heap.size) (hll : ps.length ≤ 1000000) (HE : Hid (∀ w1, Ps w1 p tb l → Calls Tryz.prog 27 #[.pointer (some ⟨p, 0, none⟩)] w1 fun e w' => ∃ s, e = .returned (exV x s) ∧ SFr p w1 w' ∧ Ps w' p tb r2 ∧ ExsAt (w1.heap.size ≤ ·) w' x.args s ∧ I64 x.n)) (q2 q3 q4 q5 q6 q7 q8 : Value) (J K' : Act → World → Prop) (hJ : ∀ a' w', RY1 p tb cb ob base va vc ps l r2 x W  a' w' → J a' w') (hM : ∀ a' w', Met J a' w' → K' a' w') :
    Code.wp Tryz.prog ((Tryz.f224.body.bind (regOf 0)).getD .skip) (Exit.then K' (fun _ _ _ => False)) ⟨[.pointer (some ⟨ob, 0, none⟩), .pointer (some ⟨cb, 0, none⟩), q2, q3, q4, q5, q6, q7, q8].toArray, []⟩ W := by
  have HPS := Lib.hid hps; have HC := Lib.hid hc; have HO := Lib.hid ho; have HROW := Lib.hid hrow
  clear hps hc ho hrow
  conv => arg 2; whnf
  (try dsimp only)
  refine region_by (by kernel_rfl) (by kernel_rfl) (IY1 p tb cb ob base va vc ps l r2 x W ) ?_ ?_ ?_
  · exact ⟨none, 0, 0, 0, 0, q2, q3, q4, q5, q6, q7, q8, ⟨(fun h => by cases h), (fun h => by cases h), (fun h => by cases h), (fun h => by cases h), (fun h => by cases h), (fun h => by cases h), (fun h => by cases h), (fun h => by cases h), (fun h => by cases h), (fun h => by cases h), (fun h => by cases h), (fun h => by cases h), (fun h => by cases h), (fun h => by cases h), (fun h => by cases h), (fun h => by cases h), (fun h => by cases h), ((AFr.refl p ob base W).old (Below.refl _ _).drew), (fun _ => HPS.out.old (Below.refl _ _).drew), (fun h => by cases h), (HC.out.old (Below.refl _ _).drew), (fun _ => HO.out.old (Below.refl _ _).drew), (fun h => by cases h), (fun _ => HROW.out.old (Below.refl _ _).drew), (fun h => fun _ => by cases h), (fun h => fun _ => by cases h), (fun h => by cases h), (fun h => fun _ => by cases h), (fun h => by cases h), (fun h => by cases h), (fun h => by cases h)⟩, rfl⟩
  · intro L act wx k hI hk hl hd
    obtain ⟨sa, sc, nb, gn, cn, z2, z3, z4, z5, z6, z7, z8, hV, rfl⟩ := hI
    have hk : k = 0 ∨ k = 1 ∨ k = 2 ∨ k = 3 ∨ k = 4 ∨ k = 5 ∨ k = 6 ∨ k = 7 ∨ k = 8 := by
      have : k < 9 := hk
      omega
    rcases hk with rfl | rfl | rfl | rfl | rfl | rfl | rfl | rfl | rfl
    · have l5 : L 5 = false := by
        cases e : L 5 with
        | false => rfl
        | true => have := hV.p5_0 e; rw [hl] at this; cases this
      have l8 : L 8 = false := by
        cases e : L 8 with
        | false => rfl
        | true => have := hV.p8_5 e; rw [l5] at this; cases this
      have ho := (hV.oa l8).at 0 _ rfl
      refine op_at _ rfl rfl (fun K' hK => ?_)
      conv => arg 2; whnf
      go_wp2_with fail
      exact ⟨sa, sc, nb, gn, cn, .slice va ps.length vc, z3, z4, z5, z6, z7, z8, ⟨(fun _ => upd_same L 0), (kq hV.p5_2), (kq hV.p5_4), (kq hV.p6_5), (kq hV.p7_2), (kq hV.p7_4), (kq hV.p7_5), (kq hV.p8_2), (kq hV.p8_4), (kq hV.p8_5), (fun _ => rfl), (kc hV.c1), (kc hV.c2), (kc hV.c3), (kc hV.c4), (kc hV.c5), (kc hV.c6), hV.fr, (fun h0 => hV.pa (kb h0)), (kc hV.pb), hV.c, (fun h0 => hV.oa (kb h0)), (kc hV.ob), (fun h0 => hV.ra (kb h0)), (fun h0 => fun h1 => hV.g4 (kb h0) (kb h1)), (fun h0 => fun h1 => hV.xa (kb h0) (kb h1)), (kc hV.xn), (fun h0 => fun h1 => hV.rb (kb h0) (kb h1)), (kc hV.xb), (kc hV.rc), (kc hV.gb)⟩, rfl⟩
    · have hc0 := hV.c.at 0 _ rfl
      refine op_at _ rfl rfl (fun K' hK => ?_)
      conv => arg 2; whnf
      go_wp2_with fail
      exact ⟨sa, sc, nb, gn, cn, z2, .pointer (some ⟨p, 0, none⟩), z4, z5, z6, z7, z8, ⟨(kq hV.p5_0), (kq hV.p5_2), (kq hV.p5_4), (kq hV.p6_5), (kq hV.p7_2), (kq hV.p7_4), (kq hV.p7_5), (kq hV.p8_2), (kq hV.p8_4), (kq hV.p8_5), (kc hV.c0), (fun _ => rfl), (kc hV.c2), (kc hV.c3), (kc hV.c4), (kc hV.c5), (kc hV.c6), hV.fr, (fun h0 => hV.pa (kb h0)), (kc hV.pb), hV.c, (fun h0 => hV.oa (kb h0)), (kc hV.ob), (fun h0 => hV.ra (kb h0)), (fun h0 => fun h1 => hV.g4 (kb h0) (kb h1)), (fun h0 => fun h1 => hV.xa (kb h0) (kb h1)), (kc hV.xn), (fun h0 => fun h1 => hV.rb (kb h0) (kb h1)), (kc hV.xb), (kc hV.rc), (kc hV.gb)⟩, rfl⟩
    · have d1 : L 1 = true := hd _ rfl ⟨1, .data⟩ (by simp) rfl
      obtain rfl := (hV.c1 d1).symm
      have l5 : L 5 = false := by
        cases e : L 5 with
        | false => rfl
        | true => have := hV.p5_2 e; rw [hl] at this; cases this
      have l8 : L 8 = false := by
        cases e : L 8 with
        | false => rfl
        | true => have := hV.p8_5 e; rw [l5] at this; cases this
      have l7 : L 7 = false := by
        cases e : L 7 with
        | false => rfl
        | true => have := hV.p7_5 e; rw [l5] at this; cases this
      have hps := hV.pa hl
      refine op_at _ rfl rfl (fun K' hK => ?_)
      conv => arg 2; whnf
      go_wp2_with fail
      refine (HE.out _ hps).mono ?_
      rintro e w7 ⟨s1, rfl, hf7, hp7, hx7, hn7⟩
      obtain ⟨a7, c7, rfl⟩ := hx7.shape
      go_wp2_with fail
      exact ⟨a7, c7, nb, gn, cn, z2, .pointer (some ⟨p, 0, none⟩), exV x (.slice (a7) x.args.length (c7)), z5, z6, z7, z8, ⟨(kq hV.p5_0), (fun _ => upd_same L 2), (kq hV.p5_4), (kq hV.p6_5), (fun _ => upd_same L 2), (kq hV.p7_4), (kq hV.p7_5), (fun _ => upd_same L 2), (kq hV.p8_4), (kq hV.p8_5), (kc hV.c0), (kc hV.c1), (fun _ => rfl), (kc hV.c3), (kc hV.c4), (kc hV.c5), (kc hV.c6), (hV.fr.trans (AFr.of_sfr hf7)), (ks), (fun _ => hp7), (hV.c.sfr hf7 (by omega)), (fun _ => (hV.oa l8).sfr hf7 (by omega)), (fun h => by rw [upd_ne L (by decide)] at h; rw [l8] at h; cases h), (fun _ => (hV.ra l5).sfrB hf7 (by omega)), (fun h1 h2 => ⟨OwnAt.sfr (hV.g4 (kb h1) (kb h2)).1 hf7 (by have := (hV.g4 (kb h1) (kb h2)).2.1; omega), (hV.g4 (kb h1) (kb h2)).2⟩), (fun _ _ => hx7.mono (fun b hb => by have h1 : wx.heap.size ≤ b := hb; have h2 := hV.fr.size; exact ⟨by omega, fun e => by have := (World.ownsRow.lt (hV.ra l5).1 _ e).2; omega⟩)), (fun _ => hn7), (fun h _ => by rw [upd_ne L (by decide)] at h; rw [l5] at h; cases h), (fun h => by rw [upd_ne L (by decide)] at h; rw [l5] at h; cases h), (fun h => by rw [upd_ne L (by decide)] at h; rw [l7] at h; cases h), (fun h => by rw [upd_ne L (by decide)] at h; rw [l5] at h; cases h)⟩, rfl⟩
    · have d0 : L 0 = true := hd _ rfl ⟨0, .data⟩ (by simp) rfl
      obtain rfl := (hV.c0 d0).symm
  
      refine op_at _ rfl rfl (fun K' hK => ?_)
      conv => arg 2; whnf
      go_wp2_with fail
      exact ⟨sa, sc, nb, gn, cn, .slice va ps.length vc, z3, z4, .int .i64 ps.length, z6, z7, z8, ⟨(kq hV.p5_0), (kq hV.p5_2), (kq hV.p5_4), (kq hV.p6_5), (kq hV.p7_2), (kq hV.p7_4), (kq hV.p7_5), (kq hV.p8_2), (kq hV.p8_4), (kq hV.p8_5), (kc hV.c0), (kc hV.c1), (kc hV.c2), (fun _ => rfl), (kc hV.c4), (kc hV.c5), (kc hV.c6), hV.fr, (fun h0 => hV.pa (kb h0)), (kc hV.pb), hV.c, (fun h0 => hV.oa (kb h0)), (kc hV.ob), (fun h0 => hV.ra (kb h0)), (fun h0 => fun h1 => hV.g4 (kb h0) (kb h1)), (fun h0 => fun h1 => hV.xa (kb h0) (kb h1)), (kc hV.xn), (fun h0 => fun h1 => hV.rb (kb h0) (kb h1)), (kc hV.xb), (kc hV.rc), (kc hV.gb)⟩, rfl⟩
    · have hal : Below wx.heap.size wx (wx.alloc (.cells #[.int .i64 0, .int .i64 0, .int .i64 0, .string ⟨#[]⟩, .slice none 0 0] 27)) := (Below.refl _ _).alloc (Nat.le_refl _) _
      have hfs := hV.fr.size
      have l5 : L 5 = false := by
        cases e : L 5 with
        | false => rfl
        | true => have := hV.p5_4 e; rw [hl] at this; cases this
      refine op_at _ rfl rfl (fun K' hK => ?_)
      conv => arg 2; whnf
      go_wp2_with fail
      exact ⟨sa, sc, wx.heap.size, gn, cn, z2, z3, z4, z5, .slice (some ⟨(wx.heap.size), 0, none⟩) 1 1, z7, z8, ⟨(kq hV.p5_0), (kq hV.p5_2), (fun _ => upd_same L 4), (kq hV.p6_5), (kq hV.p7_2), (fun _ => upd_same L 4), (kq hV.p7_5), (kq hV.p8_2), (fun _ => upd_same L 4), (kq hV.p8_5), (kc hV.c0), (kc hV.c1), (kc hV.c2), (kc hV.c3), (fun _ => rfl), (kc hV.c5), (kc hV.c6), (AFr.old (hV.fr) hal), (fun h0 => Ps.old (hV.pa (kb h0)) hal), (fun h0 => Ps.old (hV.pb (kb h0)) hal), (OwnAt.old (hV.c) hal), (fun h0 => OwnAt.old (hV.oa (kb h0)) hal), (kn hV.p8_4 hl), (fun h0 => ExsOwn.old (hV.ra (kb h0)) hal), (fun _ _ => ⟨OwnAt.new wx (exCells exZ (.slice none 0 0)) 27, by omega, fun e => by have := (World.ownsRow.lt (hV.ra l5).1 _ e).2; omega⟩), (fun h0 => fun h1 => ExsAt.old hal (hV.xa (kb h0) (kb h1))), (fun h0 => (hV.xn (kb h0))), (kn hV.p5_4 hl), (kn hV.p5_4 hl), (kn hV.p7_4 hl), (kn hV.p5_4 hl)⟩, rfl⟩
    · have d0 : L 0 = true := hd _ rfl ⟨0, .data⟩ (by simp) rfl
      obtain rfl := (hV.c0 d0).symm
      have d2 : L 2 = true := hd _ rfl ⟨2, .chain⟩ (by simp) rfl
      have d4 : L 4 = true := hd _ rfl ⟨4, .data⟩ (by simp) rfl
      obtain rfl := (hV.c4 d4).symm
      have l8 : L 8 = false := by
        cases e : L 8 with
        | false => rfl
        | true => have := hV.p8_5 e; rw [hl] at this; cases this
      have l7 : L 7 = false := by
        cases e : L 7 with
        | false => rfl
        | true => have := hV.p7_5 e; rw [hl] at this; cases this
      have hg4 := hV.g4 d4 hl
      have hra := hV.ra hl
      have hxa := hV.xa d2 hl
      have hfs := hV.fr.size
      refine op_at _ rfl rfl (fun K' hK => ?_)
      conv => arg 2; whnf
      refine wp_exSnoc wx _ _ rfl base ps (.slice va ps.length vc) rfl hra nb 1 rfl hg4.1 hll (Nat.le_trans hbs hfs) ?_
      intro g2 cap2 w2 hr2 hg2 ha2 hl2
      have hge : base ≤ g2 := by
        rcases ha2 with e | e
        · exact hra.rowGe _ e
        · omega
      go_wp2_with fail
      exact ⟨sa, sc, nb, g2, cap2, .slice va ps.length vc, z3, z4, z5, .slice (some ⟨nb, 0, none⟩) 1 1, .slice (some ⟨(g2), 0, none⟩) (ps.length + 1) (cap2), z8, ⟨(kd (d0)), (kd (d2)), (kd (d4)), (fun _ => upd_same L 5), (kq hV.p7_2), (kq hV.p7_4), (fun _ => upd_same L 5), (kq hV.p8_2), (kq hV.p8_4), (fun _ => upd_same L 5), (kc hV.c0), (kc hV.c1), (kc hV.c2), (kc hV.c3), (kc hV.c4), (fun _ => rfl), (kn hV.p6_5 hl), (hV.fr.grown hg2 hra.rowGe), (fun h => by rw [upd_ne L (by decide)] at h; rw [d2] at h; cases h), (fun _ => (hV.pb d2).grown hg2 hra.rowGe (by omega)), (hV.c.grew hg2 (fun e => by have := hra.rowGe _ e; omega)), (fun _ => (hV.oa l8).grew hg2 (fun e => by have := hra.rowGe _ e; omega)), (fun h => by rw [upd_ne L (by decide)] at h; rw [l8] at h; cases h), (ks), (fun _ => ks), (fun _ => ks), (fun _ => hV.xn d2), (fun _ _ => hr2), (fun _ => by have h1 := hxa.strong.keep (w' := w2) (fun b off y hb hy => hg2.cell hy (fun e => hb.1.2 e.symm)); exact h1.mono (fun b hb => ⟨hb.1.1, by rintro rfl; rcases ha2 with e | e; exact hb.1.2 e; have := hb.2; omega⟩)), (fun h => by rw [upd_ne L (by decide)] at h; rw [l7] at h; cases h), (fun _ => ⟨hge, hl2⟩)⟩, rfl⟩
    · have d3 : L 3 = true := hd _ rfl ⟨3, .data⟩ (by simp) rfl
      obtain rfl := (hV.c3 d3).symm
      have d5 : L 5 = true := hd _ rfl ⟨5, .data⟩ (by simp) rfl
      obtain rfl := (hV.c5 d5).symm
      have hgb := hV.gb d5
      refine op_at _ rfl rfl (fun K' hK => ?_)
      conv => arg 2; whnf
      go_wp2_with fail
      exact ⟨sa, sc, nb, gn, cn, z2, z3, z4, .int .i64 ps.length, z6, .slice (some ⟨gn, 0, none⟩) (ps.length + 1) cn, .pointer (some ⟨gn, ps.length * 5, none⟩), ⟨(kq hV.p5_0), (kq hV.p5_2), (kq hV.p5_4), (kd (d5)), (kq hV.p7_2), (kq hV.p7_4), (kq hV.p7_5), (kq hV.p8_2), (kq hV.p8_4), (kq hV.p8_5), (kc hV.c0), (kc hV.c1), (kc hV.c2), (kc hV.c3), (kc hV.c4), (kc hV.c5), (fun _ => rfl), hV.fr, (fun h0 => hV.pa (kb h0)), (kc hV.pb), hV.c, (fun h0 => hV.oa (kb h0)), (kc hV.ob), (fun h0 => hV.ra (kb h0)), (fun h0 => fun h1 => hV.g4 (kb h0) (kb h1)), (fun h0 => fun h1 => hV.xa (kb h0) (kb h1)), (kc hV.xn), (fun h0 => fun h1 => hV.rb (kb h0) (kb h1)), (kc hV.xb), (kc hV.rc), (kc hV.gb)⟩, rfl⟩
    · have d2 : L 2 = true := hd _ rfl ⟨2, .data⟩ (by simp) rfl
      obtain rfl := (hV.c2 d2).symm
      have d5 : L 5 = true := hd _ rfl ⟨5, .chain⟩ (by simp) rfl
      have d6 : L 6 = true := hd _ rfl ⟨6, .data⟩ (by simp) rfl
      obtain rfl := (hV.c6 d6).symm
      have hrb := hV.rb d5 hl
      have hxb := hV.xb d5
      have hxn := hV.xn d2
      have hgb := hV.gb d5
      have hlr : (ps ++ [(exZ, Value.slice none 0 0)]).length = ps.length + 1 := by simp
      have hrw := hrb.1
      rw [hlr] at hrw
      have k0 := hrw.cellAt (ps.length * 5) (by omega)
      have k1 := hrw.cellAt (ps.length * 5 + 1) (by omega)
      have k2 := hrw.cellAt (ps.length * 5 + 2) (by omega)
      have k3 := hrw.cellAt (ps.length * 5 + 3) (by omega)
      have k4 := hrw.cellAt (ps.length * 5 + 4) (by omega)
      rw [List.getElem?_eq_getElem (by rw [exFlat_len, hlr]; omega)] at k0 k1 k2 k3 k4
      have f0 := hrw.frozenAt (ps.length * 5)
      have f1 := hrw.frozenAt (ps.length * 5 + 1)
      have f2 := hrw.frozenAt (ps.length * 5 + 2)
      have f3 := hrw.frozenAt (ps.length * 5 + 3)
      have f4 := hrw.frozenAt (ps.length * 5 + 4)
      refine op_at _ rfl rfl (fun K' hK => ?_)
      conv => arg 2; whnf
      go_wp2_with fail
      exact ⟨sa, sc, nb, gn, cn, z2, z3, exV x (.slice sa x.args.length sc), z5, z6, z7, .pointer (some ⟨gn, ps.length * 5, none⟩), ⟨(kq hV.p5_0), (kq hV.p5_2), (kq hV.p5_4), (kq hV.p6_5), (kd (d2)), (kd (hV.p5_4 d5)), (kd (d5)), (kq hV.p8_2), (kq hV.p8_4), (kq hV.p8_5), (kc hV.c0), (kc hV.c1), (kc hV.c2), (kc hV.c3), (kc hV.c4), (kc hV.c5), (kc hV.c6), (((((hV.fr.high hgb.1 _ _).high hgb.1 _ _).high hgb.1 _ _).high hgb.1 _ _).high hgb.1 _ _), (fun h => by rw [upd_ne L (by decide)] at h; rw [d2] at h; cases h), (fun _ => ((((((hV.pb d2).other (by omega) _ _).other (by omega) _ _).other (by omega) _ _).other (by omega) _ _).other (by omega) _ _)), (((((hV.c.other (by omega) _ _).other (by omega) _ _).other (by omega) _ _).other (by omega) _ _).other (by omega) _ _), (fun h => ((((((hV.oa (kb h)).other (by omega) _ _).other (by omega) _ _).other (by omega) _ _).other (by omega) _ _).other (by omega) _ _)), (fun h => ((((((hV.ob (kb h)).other (by omega) _ _).other (by omega) _ _).other (by omega) _ _).other (by omega) _ _).other (by omega) _ _)), (fun h => by rw [upd_ne L (by decide)] at h; rw [d5] at h; cases h), (fun _ h => by rw [upd_ne L (by decide)] at h; rw [d5] at h; cases h), (fun _ h => by rw [upd_ne L (by decide)] at h; rw [d5] at h; cases h), (fun _ => hxn), (fun _ => ks), (fun _ => ((((hxb.keep (keeps_set _ (fun e => e.2 rfl) _ _)).keep (keeps_set _ (fun e => e.2 rfl) _ _)).keep (keeps_set _ (fun e => e.2 rfl) _ _)).keep (keeps_set _ (fun e => e.2 rfl) _ _)).keep (keeps_set _ (fun e => e.2 rfl) _ _)), (fun _ => hrb.setLast hxb hxn), (fun _ => by simpa [World.setCell] using hgb)⟩, rfl⟩
    · have d5 : L 5 = true := hd _ rfl ⟨5, .data⟩ (by simp) rfl
      obtain rfl := (hV.c5 d5).symm
      have hx := hV.oa hl
      have x1 := hx.at 0 _ rfl
      have fx := hx.fz 0
      have hxl := hx.lt
      have hgb := hV.gb d5
      refine op_at _ rfl rfl (fun K' hK => ?_)
      conv => arg 2; whnf
      go_wp2_with fail
      exact ⟨sa, sc, nb, gn, cn, z2, z3, z4, z5, z6, .slice (some ⟨gn, 0, none⟩) (ps.length + 1) cn, z8, ⟨(kq hV.p5_0), (kq hV.p5_2), (kq hV.p5_4), (kq hV.p6_5), (kq hV.p7_2), (kq hV.p7_4), (kq hV.p7_5), (kd (hV.p5_2 d5)), (kd (hV.p5_4 d5)), (kd (d5)), (kc hV.c0), (kc hV.c1), (kc hV.c2), (kc hV.c3), (kc hV.c4), (kc hV.c5), (kc hV.c6), (hV.fr.set _ _), (fun h => (hV.pa (kb h)).other (by omega) _ _), (fun h => (hV.pb (kb h)).other (by omega) _ _), (hV.c.other (by omega) _ _), (ks), (fun _ => hx.set 0 (.slice (some ⟨gn, 0, none⟩) (ps.length + 1) cn)), (fun h => (hV.ra (kb h)).low hob _ _), (fun _ h => by rw [upd_ne L (by decide)] at h; rw [d5] at h; cases h), (fun _ h => by rw [upd_ne L (by decide)] at h; rw [d5] at h; cases h), (fun h => hV.xn (kb h)), (fun h1 h2 => (hV.rb (kb h1) (kb h2)).low hob _ _), (fun h => (hV.xb (kb h)).keep (keeps_set _ (fun e => by have := e.1; omega) _ _)), (fun h => (hV.rc (kb h)).low hob _ _), (fun h => by simpa [World.setCell] using hV.gb (kb h))⟩, rfl⟩
  · intro L act wx hI hall
    obtain ⟨sa, sc, nb, gn, cn, z2, z3, z4, z5, z6, z7, z8, hV, rfl⟩ := hI
    obtain rfl := (hV.c0 (hall 0 (by decide))).symm
    obtain rfl := (hV.c1 (hall 1 (by decide))).symm
    obtain rfl := (hV.c2 (hall 2 (by decide))).symm
    obtain rfl := (hV.c3 (hall 3 (by decide))).symm
    obtain rfl := (hV.c4 (hall 4 (by decide))).symm
    obtain rfl := (hV.c5 (hall 5 (by decide))).symm
    obtain rfl := (hV.c6 (hall 6 (by decide))).symm
    exact hM _ _ (Met.intro (hJ _ _ ⟨sa, sc, nb, gn, cn, ⟨hV.fr, hV.pb (hall 2 (by decide)), hV.c, hV.ob (hall 8 (by decide)), hV.rc (hall 7 (by decide))⟩, rfl⟩))
end Go.Proofs.YtcfpfnoldgnloaaGreatDoor
