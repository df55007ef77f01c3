/-
  A region that draws its order, by an invariant of what is done already; only edges that bind need lead back. No condition.
  The document's Number: a number in decimal. Condition: it is an int.
  The document's value and read, as plain functions: read undoes a right instruction's text. Condition: its numbers are ints.
  The document's Number, all of it. Condition: the number is an int.
-/
import Derived.Test.YtgdnnaiidmfncaaDoorInstrB
import Derived.Test.YtgdnnaiidmfncaaDoorInstrH2
import Derived.IntWalk
set_option linter.unusedVariables false
set_option linter.unusedSimpArgs false
namespace Go.Proofs.YtgdnnaiidmfncaaDoor
open Go.RowKit
set_option maxHeartbeats 4000000
set_option maxRecDepth 100000

def undone : List Bool → Nat
  | [] => 0
  | b :: l => (if b then 0 else 1) + undone l
theorem undone_set : ∀ (l : List Bool) (i : Nat), l[i]? = some false → undone (l.set i true) + 1 = undone l
  | [], i, h => by simp at h
  | b :: l, 0, h => by simp at h; subst h; simp [undone]; omega
  | b :: l, i + 1, h => by
    simp at h
    have := undone_set l i h
    simp only [List.set_cons_succ, undone]; omega
theorem undone_pos : ∀ (l : List Bool) (i : Nat), l[i]? = some false → 0 < undone l
  | [], i, h => by simp at h
  | b :: l, 0, h => by simp at h; subst h; simp [undone]; omega
  | b :: l, i + 1, h => by
    simp at h
    have := undone_pos l i h
    simp only [undone]; omega
theorem mem_ready {md : Region.Mode} {ops : Array Oper} {listed : Array Bool} {i : Nat} (h : i ∈ Region.ready md ops listed) : i < ops.size ∧ listed.toList[i]? = some false ∧ ∀ o, ops[i]? = some o → ∀ e, e ∈ o.after → Region.binds md e = true → listed.getD e.on false = true := by
  unfold Region.ready at h
  rw [List.mem_filter] at h
  obtain ⟨h1, h2⟩ := h
  simp only [Bool.and_eq_true, Bool.not_eq_true'] at h2
  refine ⟨List.mem_range.1 h1, ?_, fun o ho e he hb => ?_⟩
  · have h3 := h2.1
    rw [Array.getD_eq_getD_getElem?] at h3
    rw [Array.getElem?_toList]
    cases hl : listed[i]? with
    | none => rw [hl] at h3; simp at h3
    | some b => rw [hl] at h3; simp at h3; rw [h3]
  · have h3 := h2.2
    rw [ho] at h3
    simp only [Option.map_some, Option.getD_some] at h3
    have h4 := Array.all_eq_true_iff_forall_mem.1 h3 e he
    simpa [hb] using h4
/-- THE LAW: what is done is in 'listed'; the invariant is carried by each operation that may come. -/
theorem any_inv {P : Program} {ops : Array Oper} {Q : Exit → Act → World → Prop} (I : Array Bool → Act → World → Prop)
    (step : ∀ listed a w i, I listed a w → i < ops.size → listed.toList[i]? = some false → (∀ o, ops[i]? = some o → ∀ e, e ∈ o.after → Region.binds .any e = true → listed.getD e.on false = true) → wpOp P ops Q i (I (listed.setIfInBounds i true)) a w)
    (fin : ∀ listed a w, I listed a w → Region.ready .any ops listed = [] → Q .normal a w) : ∀ (fuel : Nat) (listed : Array Bool) (a : Act) (w : World), undone listed.toList ≤ fuel → I listed a w → wpAny P .any ops Q fuel listed a w
  | 0, listed, a, w, hu, hI => by
    have hr : Region.ready .any ops listed = [] := by
      cases hl : Region.ready .any ops listed with
      | nil => rfl
      | cons i l =>
        have := undone_pos _ _ (mem_ready (show i ∈ Region.ready .any ops listed by rw [hl]; exact List.mem_cons_self)).2.1
        omega
    exact ⟨hr, fin _ _ _ hI hr⟩
  | fuel + 1, listed, a, w, hu, hI => by
    refine ⟨fin _ _ _ hI, fun i hi => ?_⟩
    obtain ⟨h1, h2, h3⟩ := mem_ready hi
    refine wpOp_mono (fun a' w' hI' => any_inv I step fin fuel _ a' w' ?_ hI') (step listed a w i hI h1 h2 h3)
    have := undone_set _ _ h2
    rw [Array.toList_setIfInBounds]; omega
theorem undone_rep : ∀ n, undone (List.replicate n false) = n
  | 0 => rfl
  | n + 1 => by rw [List.replicate_succ, undone, undone_rep n]; simp; omega
theorem region_inv {P : Program} {id : Nat} {ops : Array Oper} {Q : Exit → Act → World → Prop} {a : Act} {w : World} (hm : P.follows .mixedOrders = true) (I : Array Bool → Act → World → Prop) (h0 : I (Array.replicate ops.size false) a w.drew)
    (step : ∀ listed a w i, I listed a w → i < ops.size → listed.toList[i]? = some false → (∀ o, ops[i]? = some o → ∀ e, e ∈ o.after → Region.binds .any e = true → listed.getD e.on false = true) → wpOp P ops Q i (I (listed.setIfInBounds i true)) a w)
    (fin : ∀ listed a w, I listed a w → Region.ready .any ops listed = [] → Q .normal a w) : (Code.region id ops true).wp P Q a w :=
  wp_region_any hm (any_inv I step fin _ _ _ _ (by rw [Array.toList_replicate, undone_rep]; exact Nat.le_refl _) h0)
/-- What is done, as a function. -/
def upd (L : Nat → Bool) (i : Nat) : Nat → Bool := fun j => if j = i then true else L j
theorem upd_same (L : Nat → Bool) (i : Nat) : upd L i i = true := if_pos rfl
theorem upd_ne (L : Nat → Bool) {i j : Nat} (h : j ≠ i) : upd L i j = L j := if_neg h
def doneOf (listed : Array Bool) : Nat → Bool := fun j => listed.getD j false
theorem doneOf_set (listed : Array Bool) (i : Nat) (h : i < listed.size) : doneOf (listed.setIfInBounds i true) = upd (doneOf listed) i := by
  funext j
  unfold doneOf upd
  by_cases hj : j = i
  · subst hj; simp [Array.getD_eq_getD_getElem?, h]
  · have : ¬ i = j := fun e => hj e.symm
    simp [Array.getD_eq_getD_getElem?, Array.getElem?_setIfInBounds, hj, this]
/-- Every edge goes to what stands before. -/
def lowOk (ops : Array Oper) : Bool := (List.range ops.size).all fun i => ((ops[i]?).map (fun o => o.after.all fun e => !(Region.binds .any e) || decide (e.on < i))).getD true
theorem all_done {ops : Array Oper} {listed : Array Bool} (hlow : lowOk ops = true) (hs : listed.size = ops.size) (h : Region.ready .any ops listed = []) : ∀ i, i < ops.size → doneOf listed i = true := by
  intro i
  induction i using Nat.strongRecOn with
  | _ i ih =>
    intro hi
    cases hd : doneOf listed i with
    | true => rfl
    | false =>
      exfalso
      have hm : i ∈ Region.ready .any ops listed := by
        unfold Region.ready
        rw [List.mem_filter]
        refine ⟨List.mem_range.2 hi, ?_⟩
        rw [Bool.and_eq_true]
        constructor
        · have hli : i < listed.size := by omega
          unfold doneOf at hd
          simp only [Array.getD_eq_getD_getElem?, Array.getElem?_eq_getElem hli, Option.getD_some] at hd ⊢
          rw [hd]; rfl
        · have ho : ops[i]? = some ops[i] := Array.getElem?_eq_getElem hi
          rw [ho]
          simp only [Option.map_some, Option.getD_some]
          rw [Array.all_eq_true_iff_forall_mem]
          intro e he
          have h1 := List.all_eq_true.1 hlow i (List.mem_range.2 hi)
          rw [ho] at h1
          simp only [Option.map_some, Option.getD_some] at h1
          have h2 := Array.all_eq_true_iff_forall_mem.1 h1 e he
          cases hb : Region.binds .any e with
          | false => rfl
          | true =>
            rw [hb] at h2
            have h4 : e.on < i := by simpa using h2
            have h3 := ih e.on h4 (by omega)
            unfold doneOf at h3
            rw [h3, Bool.or_true]
      rw [h] at hm; cases hm
theorem region_by {P : Program} {id : Nat} {ops : Array Oper} {Q : Exit → Act → World → Prop} {a : Act} {w : World} (hm : P.follows .mixedOrders = true) (hlow : lowOk ops = true) (I : (Nat → Bool) → Act → World → Prop) (h0 : I (fun _ => false) a w.drew)
    (step : ∀ L a w i, I L a w → i < ops.size → L i = false → (∀ o, ops[i]? = some o → ∀ e, e ∈ o.after → Region.binds .any e = true → L e.on = true) → wpOp P ops Q i (I (upd L i)) a w)
    (fin : ∀ L a w, I L a w → (∀ i, i < ops.size → L i = true) → Q .normal a w) : (Code.region id ops true).wp P Q a w := by
  refine region_inv hm (fun listed a w => listed.size = ops.size ∧ I (doneOf listed) a w) ⟨by simp, ?_⟩ ?_ ?_
  · have : doneOf (Array.replicate ops.size false) = fun _ => false := by
      funext j; unfold doneOf
      rw [Array.getD_eq_getD_getElem?, Array.getElem?_replicate]; split <;> rfl
    rw [this]; exact h0
  · intro listed a w i hI hi hl hd
    have hli : doneOf listed i = false := by
      unfold doneOf
      rw [Array.getElem?_toList] at hl
      rw [Array.getD_eq_getD_getElem?, hl]; rfl
    refine wpOp_mono (fun a' w' h => ⟨by rw [Array.size_setIfInBounds]; exact hI.1, ?_⟩) (step (doneOf listed) a w i hI.2 hi hli hd)
    rw [doneOf_set _ _ (by rw [hI.1]; exact hi)]; exact h
  · intro listed a w hI hr
    exact fin _ _ _ hI.2 (all_done hlow hI.1 hr)
theorem op_at {P : Program} {ops : Array Oper} {Q : Exit → Act → World → Prop} {i : Nat} {K : Act → World → Prop} {a : Act} {w : World} (o : Oper) (ho : ops[i]? = some o) (hg : o.guard = none) (h : ∀ K' : Act → World → Prop, (∀ a w, K a w → K' a w) → o.wp P a w K' Q) : wpOp P ops Q i K a w := by
  unfold wpOp
  rw [ho]
  simp only [Region.wanted, hg, if_true]
  exact .inl (h K (fun _ _ q => q))
theorem kb {L : Nat → Bool} {j k : Nat} {b : Bool} (h : upd L k j = b) (hn : j ≠ k := by decide) : L j = b := by rwa [upd_ne L hn] at h
theorem kc {L : Nat → Bool} {j k : Nat} {P : Prop} (h : L j = true → P) (hn : j ≠ k := by decide) : upd L k j = true → P := fun e => h (kb e hn)
theorem kq {L : Nat → Bool} {j i k : Nat} (h : L j = true → L i = true) (hn : j ≠ k := by decide) (hm : i ≠ k := by decide) : upd L k j = true → upd L k i = true := fun e => by rw [upd_ne L hm]; exact h (kb e hn)
theorem kn {L : Nat → Bool} {j k : Nat} {P : Prop} (h : L j = true → L k = true) (hl : L k = false) (hn : j ≠ k := by decide) : upd L k j = true → P := fun e => by
  have := h (kb e hn)
  rw [hl] at this; cases this
theorem kl {L : Nat → Bool} {j k : Nat} {P : Prop} (h : L j = false) (hn : j ≠ k := by decide) : upd L k j = true → P := fun e => by
  have := kb e hn
  rw [h] at this; cases this
theorem kf {L : Nat → Bool} {n k : Nat} (h : L n = true → ∀ j, j < n → L j = true) (hl : L k = false) (hk : k < n := by decide) : L n = false := by
  cases e : L n with
  | false => rfl
  | true => have := h e k hk; rw [hl] at this; cases this
theorem ks {L : Nat → Bool} {k : Nat} {P : Prop} : upd L k k = false → P := fun e => by rw [upd_same] at e; cases e
theorem kd {L : Nat → Bool} {j i k : Nat} (h : L i = true) (hm : i ≠ k := by decide) : upd L k j = true → upd L k i = true := fun _ => by rw [upd_ne L hm]; exact h
def regOf (n : Nat) : Code → Option Code
  | .region k o b => if k == n then some (.region k o b) else none
  | .loop c => regOf n c
  | .seq a b => match regOf n a with
    | some c => some c
    | none => regOf n b
  | .block _ c => regOf n c
  | .scope c => regOf n c
  | .cond _ a b => match regOf n a with
    | some c => some c
    | none => regOf n b
  | _ => none
end Go.Proofs.YtgdnnaiidmfncaaDoor

namespace Go.Proofs.YtgdnnaiidmfncaaDoor
open Go.RowKit
set_option maxHeartbeats 4000000
set_option maxRecDepth 100000

theorem dig_small (u : Nat) (h : u < 10) : Lib.decDigits u = [UInt8.ofNat (48 + u)] := by rw [Lib.decDigits, dif_pos h]
theorem dig_great (u : Nat) (h : ¬ u < 10) : Lib.decDigits u = Lib.decDigits (u / 10) ++ [UInt8.ofNat (48 + u % 10)] := by rw [Lib.decDigits, dif_neg h]
theorem itoa_nat (u : Nat) : Lib.itoa (u : Int) = Lib.decDigits u := by
  unfold Lib.itoa
  rw [if_neg (by omega)]
  congr 1
theorem number_nat : ∀ (u : Nat), u ≤ 9223372036854775807 → ∀ w : World,
    Calls Tryd.prog 29 #[.int .i64 (u : Nat)] w fun e w' => e = .returned (.string (strOf (Lib.decDigits u))) ∧ Below w.heap.size w w' := by
  intro u
  induction u using Nat.strongRecOn with
  | _ u ih =>
    intro hu w
    have huI : (u : Int) ≤ 9223372036854775807 := by omega
    have hm0 : 0 ≤ (u : Int) % 10 := Int.emod_nonneg _ (by decide)
    have hm1 : (u : Int) % 10 < 10 := Int.emod_lt_of_pos _ (by decide)
    have HCV := iconv_one (48 + (u : Int) % 10) (by omega) (by omega)
    have HB := Lib.hid ((Below.refl w.heap.size w).alloc (Nat.le_refl _) (.cells #[.int .u8 (48 + (u : Int) % 10)] 5))
    have hby : (48 + (u : Int) % 10).toNat = 48 + u % 10 := by omega
    by_cases h10 : u < 10
    · have hr : Lib.decDigits u = [UInt8.ofNat (48 + (u : Int) % 10).toNat] := by rw [dig_small u h10, hby, Nat.mod_eq_of_lt h10]
      have HR := Lib.hid hr
      have h10I : (u : Int) < 10 := by omega
      rw [hr]
      clear ih hr hby HR
      generalize UInt8.ofNat (48 + (u : Int) % 10).toNat = bt at *
      go_enter Tryd.func29, Tryd.ntmps29
      go_wp2_with fail
      go_ret
      exact ⟨rfl, HB.out⟩
    · have hr : Lib.decDigits u = Lib.decDigits (u / 10) ++ [UInt8.ofNat (48 + (u : Int) % 10).toNat] := by rw [dig_great u h10, hby]
      have h10I : (10 : Int) ≤ (u : Int) := by omega
      have hq : (u : Int) / 10 = ((u / 10 : Nat) : Int) := by omega
      have HN := Lib.hid (fun w' => ih (u / 10) (by omega) (by omega) w')
      rw [← hq] at HN
      have hlen : (Lib.decDigits (u / 10)).length ≤ 21 := by
        have := Lib.itoa_length_le ((u / 10 : Nat) : Int) (by omega) (by omega)
        rwa [itoa_nat] at this
      rw [hr]
      obtain ⟨D, hD⟩ : ∃ D, Lib.decDigits (u / 10) = D := ⟨_, rfl⟩
      rw [hD] at HN hlen ⊢
      have hno : ¬ ((strOf D).size + (strOf [UInt8.ofNat (48 + (u : Int) % 10).toNat]).size > 9223372036854775807) := by
        show ¬ (D.toArray.size + [UInt8.ofNat (48 + (u : Int) % 10).toNat].toArray.size > _)
        simp; omega
      clear ih hr hby hD hq hlen
      generalize UInt8.ofNat (48 + (u : Int) % 10).toNat = bt at *
      go_enter Tryd.func29, Tryd.ntmps29
      go_wp2_with fail
      refine (HN.out _).mono ?_
      rintro e w2 ⟨rfl, hb2⟩
      have HB2 := Lib.hid (HB.out.trans (hb2.mono HB.out.size))
      go_wp2_with fail
      go_ret
      exact ⟨by rw [← strOf_append]; rfl, HB2.out⟩
theorem itoa_tdiv (n : Int) (h : n ≤ -10) : Lib.itoa n = Lib.itoa (n.tdiv 10) ++ [UInt8.ofNat (48 + (-(n.tmod 10))).toNat] := by
  obtain ⟨u, rfl⟩ : ∃ u : Nat, n = -(u : Int) := ⟨n.natAbs, by omega⟩
  have hq : (-(u : Int)).tdiv 10 = -((u / 10 : Nat) : Int) := by
    rw [Int.neg_tdiv, Int.tdiv_eq_ediv_of_nonneg (by omega)]
    rfl
  have hm : (-(u : Int)).tmod 10 = -((u % 10 : Nat) : Int) := by
    rw [Int.neg_tmod, Int.tmod_eq_emod_of_nonneg (by omega)]
    rfl
  rw [hq, hm]
  unfold Lib.itoa
  rw [if_pos (by omega), if_pos (by omega)]
  rw [show (-(u : Int)).natAbs = u by omega, show (-((u / 10 : Nat) : Int)).natAbs = u / 10 by omega, dig_great u (by omega)]
  rw [show ((48 : Int) + -(-((u % 10 : Nat) : Int))).toNat = 48 + u % 10 by omega]
  rfl
theorem itoa_short (n : Int) (h0 : n < 0) (h : -10 < n) : Lib.itoa n = [45, UInt8.ofNat (48 + (-(n.tmod 10))).toNat] := by
  obtain ⟨u, rfl⟩ : ∃ u : Nat, n = -(u : Int) := ⟨n.natAbs, by omega⟩
  have hm : (-(u : Int)).tmod 10 = -((u % 10 : Nat) : Int) := by
    rw [Int.neg_tmod, Int.tmod_eq_emod_of_nonneg (by omega)]
    rfl
  rw [hm]
  unfold Lib.itoa
  rw [if_pos (by omega), show (-(u : Int)).natAbs = u by omega, dig_small u (by omega)]
  rw [show ((48 : Int) + -(-((u % 10 : Nat) : Int))).toNat = 48 + u by omega]
end Go.Proofs.YtgdnnaiidmfncaaDoor

namespace Go.Proofs.YtgdnnaiidmfncaaDoor
set_option maxHeartbeats 4000000
set_option maxRecDepth 100000

def digB (c : UInt8) : Bool := decide (48 ≤ c) && decide (c ≤ 57)
def digV (m : Bool) (c : UInt8) : Int := if m = true then -((c.toNat : Int) - 48) else (c.toNat : Int) - 48
def valN (m : Bool) (n : Int) (c : UInt8) : Int := IntKind.i64.wrap (IntKind.i64.wrap (10 * n) + digV m c)
def valL (m : Bool) : Int → Nat → Bs → Int × Nat
  | n, i, [] => (n, i)
  | n, i, c :: s => if digB c = true ∧ i < 20 then valL m (valN m n c) (i + 1) s else (n, i)
/-- A text's number, and how many bytes it takes. -/
def valQ (s : Bs) : Int × Nat := if s.head? = some 45 then valL true 0 1 (s.drop 1) else valL false 0 0 s
def stepRd (o : Ins) (c : UInt8) (s : Bs) : Ins × Bs :=
  if c = 68 ∨ c = 65 ∨ c = 66 then (if s = [] then (setI o c 0, []) else (setI o c (valQ (s.drop 1)).1, s.drop ((valQ (s.drop 1)).2 + 1)))
  else if c = 78 ∨ c = 83 then (setI o c (valQ s).1, s.drop (valQ s).2)
  else if c = 76 then ({ o with name := s }, [])
  else (o, s.drop 1)
def foldRd : Bs → Ins → Bs → Ins
  | [], o, _ => o
  | c :: f, o, s => foldRd f (stepRd o c s).1 (stepRd o c s).2
def readQ (op : Int) (s : Bs) : Ins :=
  if s.take (rowI op).1.length ≠ (rowI op).1 then zeroI op
  else foldRd (rowI op).2 (zeroI op) (if (rowI op).2 ≠ [] then (s.drop (rowI op).1.length).drop 1 else s.drop (rowI op).1.length)
def findQ (s : Bs) : Nat → Int → Option Ins
  | 0, _ => none
  | k + 1, op => if rightI (readQ op s) = true ∧ textI (readQ op s) = s then some (readQ op s) else findQ s k (op + 1)
/-! ### A number's text is read as the number -/
theorem valL_app (m : Bool) : ∀ (a : Bs) (n : Int) (i : Nat) (b : Bs), (∀ c, c ∈ a → digB c = true) → i + a.length ≤ 20 → valL m n i (a ++ b) = valL m (a.foldl (valN m) n) (i + a.length) b
  | [], n, i, b, _, _ => rfl
  | c :: a, n, i, b, h, hl => by
    have hc := h c (List.mem_cons_self ..)
    have hl' : i + (a.length + 1) ≤ 20 := hl
    show valL m n i (c :: (a ++ b)) = _
    show (if digB c = true ∧ i < 20 then valL m (valN m n c) (i + 1) (a ++ b) else (n, i)) = _
    rw [if_pos ⟨hc, by omega⟩, valL_app m a _ (i + 1) b (fun d hd => h d (List.mem_cons_of_mem _ hd)) (by omega)]
    rw [List.foldl_cons, List.length_cons, show i + 1 + a.length = i + (a.length + 1) by omega]
theorem digit_dig (k : Nat) (h : k < 10) : digB (UInt8.ofNat (48 + k)) = true ∧ ((UInt8.ofNat (48 + k)).toNat : Int) - 48 = k := by
  have : k = 0 ∨ k = 1 ∨ k = 2 ∨ k = 3 ∨ k = 4 ∨ k = 5 ∨ k = 6 ∨ k = 7 ∨ k = 8 ∨ k = 9 := by omega
  rcases this with rfl | rfl | rfl | rfl | rfl | rfl | rfl | rfl | rfl | rfl <;> decide
theorem dec_dig : ∀ (u : Nat), ∀ c, c ∈ Lib.decDigits u → digB c = true := by
  intro u
  induction u using Nat.strongRecOn with
  | _ u ih =>
    intro c hc
    by_cases h : u < 10
    · rw [dig_small u h, List.mem_singleton] at hc
      subst hc; exact (digit_dig u h).1
    · rw [dig_great u h, List.mem_append, List.mem_singleton] at hc
      rcases hc with hc | rfl
      · exact ih (u / 10) (by omega) c hc
      · exact (digit_dig (u % 10) (by omega)).1
theorem dec_len : ∀ (k u : Nat), u < 10 ^ (k + 1) → (Lib.decDigits u).length ≤ k + 1
  | 0, u, h => by rw [dig_small u (by simpa using h)]; simp
  | k + 1, u, h => by
    by_cases h1 : u < 10
    · rw [dig_small u h1]; simp
    · rw [dig_great u h1, List.length_append]
      have := dec_len k (u / 10) (by rw [Nat.pow_succ] at h; omega)
      simp; omega
theorem wrap_in (n : Int) (h0 : -9223372036854775808 ≤ n) (h1 : n ≤ 9223372036854775807) : IntKind.i64.wrap n = n := by
  unfold IntKind.wrap
  simp [IntKind.bits, IntKind.signed]
  omega
theorem dec_val (m : Bool) : ∀ (u : Nat), u ≤ 9223372036854775808 → (m = false → u ≤ 9223372036854775807) → (Lib.decDigits u).foldl (valN m) 0 = if m = true then -(u : Int) else (u : Int) := by
  intro u
  induction u using Nat.strongRecOn with
  | _ u ih =>
    intro hu hm
    by_cases h : u < 10
    · rw [dig_small u h]
      show valN m 0 _ = _
      unfold valN digV
      rw [(digit_dig u h).2]
      cases m
      · simp (config := {failIfUnchanged := false}) only [if_true, Bool.false_eq_true, if_false]
        have := hm rfl
        rw [wrap_in (10 * 0) (by omega) (by omega), wrap_in _ (by omega) (by omega)]; omega
      · simp (config := {failIfUnchanged := false}) only [if_true, Bool.false_eq_true, if_false]
        rw [wrap_in (10 * 0) (by omega) (by omega), wrap_in _ (by omega) (by omega)]; omega
    · rw [dig_great u h, List.foldl_append, ih (u / 10) (by omega) (by omega) (fun e => by have := hm e; omega)]
      show valN m _ _ = _
      unfold valN digV
      rw [(digit_dig (u % 10) (by omega)).2]
      cases m
      · have := hm rfl
        simp (config := {failIfUnchanged := false}) only [if_true, Bool.false_eq_true, if_false]
        rw [wrap_in (10 * _) (by omega) (by omega), wrap_in _ (by omega) (by omega)]; omega
      · simp (config := {failIfUnchanged := false}) only [if_true, Bool.false_eq_true, if_false]
        rw [wrap_in (10 * _) (by omega) (by omega), wrap_in _ (by omega) (by omega)]; omega
theorem valL_stop (m : Bool) (n : Int) (i : Nat) (b : Bs) (h : b = [] ∨ ∃ c r, b = c :: r ∧ digB c = false) : valL m n i b = (n, i) := by
  rcases h with rfl | ⟨c, r, rfl, hc⟩
  · rfl
  · unfold valL; rw [if_neg (by rw [hc]; simp)]
theorem val_itoa (v : Int) (h0 : -9223372036854775808 ≤ v) (h1 : v ≤ 9223372036854775807) (b : Bs) (h : b = [] ∨ ∃ c r, b = c :: r ∧ digB c = false) : valQ (Lib.itoa v ++ b) = (v, (Lib.itoa v).length) := by
  unfold valQ
  by_cases hn : v < 0
  · obtain ⟨u, rfl⟩ : ∃ u : Nat, v = -(u : Int) := ⟨v.natAbs, by omega⟩
    have e : Lib.itoa (-(u : Int)) = 45 :: Lib.decDigits u := by
      unfold Lib.itoa
      rw [if_pos (by omega)]
      congr 2
      omega
    have hl := dec_len 18 u (by omega)
    rw [e, List.cons_append, List.head?_cons, if_pos rfl, List.drop_succ_cons, List.drop_zero, valL_app true _ _ _ _ (dec_dig u) (by omega), dec_val true u (by omega) (fun e => by cases e), if_pos rfl, valL_stop _ _ _ _ h]
    rw [List.length_cons, Nat.add_comm]
  · obtain ⟨u, rfl⟩ : ∃ u : Nat, v = (u : Int) := ⟨v.toNat, by omega⟩
    rw [itoa_nat]
    have hl := dec_len 18 u (by omega)
    have hne : Lib.decDigits u ≠ [] := by
      by_cases h : u < 10
      · rw [dig_small u h]; simp
      · rw [dig_great u h]; simp
    have hh : (Lib.decDigits u ++ b).head? ≠ some 45 := by
      cases hd : Lib.decDigits u with
      | nil => exact absurd hd hne
      | cons c r =>
        rw [List.cons_append, List.head?_cons]
        intro e
        injection e with e
        have := dec_dig u c (by rw [hd]; exact List.mem_cons_self ..)
        rw [e] at this; revert this; decide
    rw [if_neg hh, valL_app false _ _ _ _ (dec_dig u) (by omega), dec_val false u (by omega) (fun _ => by omega), if_neg (by decide), valL_stop _ _ _ _ h, Nat.zero_add]
/-! ### read undoes a right instruction's text -/
def numC (c : UInt8) : Bool := c == 68 || (c == 65 || (c == 66 || (c == 78 || c == 83)))
/-- A form: behind a number stands what is in none; a label stands last. -/
def okF : Bs → Bool
  | [] => true
  | c :: f => (c != 76 || f.isEmpty) && ((!numC c || match f with | [] => true | d :: _ => (d == 44 || (d == 40 || d == 41))) && okF f)
theorem forms_okF : ∀ r, r ∈ rowsI → okF r.2 = true := by decide
theorem form_ok (op : Int) : okF (rowI op).2 = true := by
  rcases row_mem op with h | h
  · rw [h]; rfl
  · exact forms_okF _ h.1
theorem piece_sepF (X : Ins) (c : UInt8) (h : c = 44 ∨ c = 40 ∨ c = 41) : pieceI X c = [c] := by
  rcases h with rfl | rfl | rfl <;> rfl
theorem rest_sep (X : Ins) (c : UInt8) (f : Bs) (hc : numC c = true) (h : okF (c :: f) = true) : f.flatMap (pieceI X) = [] ∨ ∃ d r, f.flatMap (pieceI X) = d :: r ∧ digB d = false := by
  cases f with
  | nil => exact .inl rfl
  | cons d f =>
    unfold okF at h
    rw [Bool.and_eq_true, Bool.and_eq_true, hc] at h
    have h2 := h.2.1
    simp only [Bool.not_true, Bool.false_or, Bool.or_eq_true, beq_iff_eq] at h2
    refine .inr ⟨d, f.flatMap (pieceI X), ?_, ?_⟩
    · rw [List.flatMap_cons, piece_sepF X d h2]; rfl
    · rcases h2 with rfl | rfl | rfl <;> decide
theorem may_fits (X : Ins) (hX : FitsI X) (c : UInt8) (v : Int) (hc : numC c = true) (hp : partI X c = some v) (hm : mayI v c = true) : -9223372036854775808 ≤ v ∧ v ≤ 9223372036854775807 := by
  unfold mayI at hm
  by_cases h78 : c = 78
  · subst h78
    have : some X.n = some v := hp
    injection this with this
    subst this; exact hX
  · rw [if_neg h78] at hm
    by_cases h83 : c = 83
    · rw [if_pos h83, decide_eq_true_eq] at hm; omega
    · rw [if_neg h83, decide_eq_true_eq] at hm; omega
theorem foldRd_back (X : Ins) (hX : FitsI X) : ∀ (f : Bs) (o o' : Ins), foldR X f o = some o' → okF f = true → foldRd f o (f.flatMap (pieceI X)) = o'
  | [], o, o', h, _ => by
    have h : some o = some o' := h
    cases h; rfl
  | c :: f, o, o', h, hf => by
    have hf2 : okF f = true := by
      unfold okF at hf
      rw [Bool.and_eq_true, Bool.and_eq_true] at hf
      exact hf.2.2
    have ih := fun o1 h1 => foldRd_back X hX f o1 o' h1 hf2
    have hl : c = 76 → f = [] := by
      intro e
      subst e
      unfold okF at hf
      rw [Bool.and_eq_true] at hf
      simpa using hf.1
    unfold foldR at h
    rw [List.flatMap_cons]
    unfold foldRd
    by_cases h76 : c = 76
    · subst h76
      have := hl rfl
      subst this
      rw [show stepR X o 76 = some { o with name := X.name } from rfl] at h
      have h : some { o with name := X.name } = some o' := h
      cases h
      show (stepRd o 76 (pieceI X 76 ++ [])).1 = _
      rw [show pieceI X 76 = X.name from rfl, List.append_nil]; rfl
    · by_cases hc : numC c = true
      · obtain ⟨v, hpv⟩ : ∃ v, partI X c = some v := by
          unfold numC at hc
          simp only [Bool.or_eq_true, beq_iff_eq] at hc
          rcases hc with rfl | rfl | rfl | rfl | rfl <;> exact ⟨_, rfl⟩
        have hst : stepR X o c = if mayI v c = true then some (setI o c v) else none := by
          unfold stepR; rw [if_neg h76, hpv]
        rw [hst] at h
        by_cases hm : mayI v c = true
        · rw [if_pos hm] at h
          obtain ⟨v0, v1⟩ := may_fits X hX c v hc hpv hm
          have hr := rest_sep X c f hc hf
          have hq := val_itoa v v0 v1 _ hr
          by_cases hreg : c = 68 ∨ c = 65 ∨ c = 66
          · have hp : pieceI X c = 120 :: Lib.itoa v := by
              unfold pieceI
              rw [if_neg h76, hpv]
              dsimp only
              rw [if_neg (by rcases hreg with rfl | rfl | rfl <;> decide)]
            have hs : stepRd o c (pieceI X c ++ f.flatMap (pieceI X)) = (setI o c v, f.flatMap (pieceI X)) := by
              unfold stepRd
              rw [if_pos hreg, hp, List.cons_append, if_neg (List.cons_ne_nil _ _), List.drop_succ_cons, List.drop_zero, hq]
              dsimp only
              rw [List.drop_succ_cons, List.drop_left]
            rw [hs]
            exact ih _ h
          · have hns : c = 78 ∨ c = 83 := by
              unfold numC at hc
              simp only [Bool.or_eq_true, beq_iff_eq] at hc
              rcases hc with h | h | h | h | h
              · exact absurd (.inl h) hreg
              · exact absurd (.inr (.inl h)) hreg
              · exact absurd (.inr (.inr h)) hreg
              · exact .inl h
              · exact .inr h
            have hp : pieceI X c = Lib.itoa v := by
              unfold pieceI
              rw [if_neg h76, hpv]
              dsimp only
              rw [if_pos hns]
            have hs : stepRd o c (pieceI X c ++ f.flatMap (pieceI X)) = (setI o c v, f.flatMap (pieceI X)) := by
              unfold stepRd
              rw [if_neg hreg, if_pos hns, hp, hq]
              dsimp only
              rw [List.drop_left]
            rw [hs]
            exact ih _ h
        · rw [if_neg hm] at h; cases h
      · have hpn : partI X c = none := by
          unfold partI
          unfold numC at hc
          simp only [Bool.or_eq_true, beq_iff_eq, not_or] at hc
          obtain ⟨a1, a2, a3, a4, a5⟩ := hc
          rw [if_neg a1, if_neg a2, if_neg a3, if_neg (by rintro (h | h) <;> contradiction)]
        have hst : stepR X o c = some o := by
          unfold stepR; rw [if_neg h76, hpn]
        rw [hst] at h
        have hp : pieceI X c = [c] := by
          unfold pieceI; rw [if_neg h76, hpn]
        have hs : stepRd o c (pieceI X c ++ f.flatMap (pieceI X)) = (o, f.flatMap (pieceI X)) := by
          unfold numC at hc
          simp only [Bool.or_eq_true, beq_iff_eq, not_or] at hc
          obtain ⟨a1, a2, a3, a4, a5⟩ := hc
          unfold stepRd
          rw [if_neg (by rintro (h | h | h) <;> contradiction), if_neg (by rintro (h | h) <;> contradiction), if_neg h76, hp]; rfl
        rw [hs]
        exact ih _ h
theorem rd_back (X : Ins) (hX : FitsI X) (h : rightI X = true) : readQ X.op (textI X) = X := by
  obtain ⟨h1, h2, _⟩ := right_open h
  unfold readQ textI
  rw [List.take_left, if_neg (by simp), List.drop_left]
  by_cases hf : (rowI X.op).2 = []
  · rw [hf] at h1 ⊢
    rw [if_neg (by simp), if_pos rfl]
    have h1 : some (zeroI X.op) = some X := h1
    injection h1
  · rw [if_pos hf, if_neg hf, List.singleton_append, List.drop_succ_cons, List.drop_zero]
    exact foldRd_back X hX _ _ _ h1 (form_ok X.op)
theorem findQ_some (s : Bs) (X : Ins) (hX : FitsI X) (h : rightI X = true) (ht : textI X = s) (hfit : ∀ op, rightI (readQ op s) = true → FitsI (readQ op s)) :
    ∀ (k : Nat) (op : Int), op ≤ X.op → X.op < op + k → findQ s k op = some X
  | 0, op, h1, h2 => by omega
  | k + 1, op, h1, h2 => by
    unfold findQ
    by_cases hc : rightI (readQ op s) = true ∧ textI (readQ op s) = s
    · rw [if_pos hc]
      have := text_inj (readQ op s) X (hfit op hc.1) hX hc.1 h (by rw [hc.2, ht])
      rw [this]
    · rw [if_neg hc]
      by_cases he : op = X.op
      · exfalso
        subst he
        rw [← ht, rd_back X hX h] at hc
        exact hc ⟨h, rfl⟩
      · exact findQ_some s X hX h ht hfit k (op + 1) (by omega) (by push_cast at h2 ⊢; omega)
theorem findQ_none (s : Bs) (hn : parseI s = none) (hfit : ∀ op, rightI (readQ op s) = true → FitsI (readQ op s)) : ∀ (k : Nat) (op : Int), findQ s k op = none
  | 0, _ => rfl
  | k + 1, op => by
    unfold findQ
    rw [if_neg ?_]
    · exact findQ_none s hn hfit k (op + 1)
    · rintro ⟨h1, h2⟩
      have := parse_back _ (hfit op h1) h1
      rw [h2, hn] at this; cases this
end Go.Proofs.YtgdnnaiidmfncaaDoor

namespace Go.Proofs.YtgdnnaiidmfncaaDoor
open Go.RowKit
set_option maxHeartbeats 4000000
set_option maxRecDepth 100000

structure VN5 (n q : Int) (D : Bs) (bt : UInt8) (W : World) (L : Nat → Bool) (nb : Nat) (z18 z19 z20 z21 z22 z23 z24 z25 z26 z2 : Value) (wx : World) : Prop where
  ord : L 9 = true → ∀ j, j < 9 → L j = true
  c0 : L 0 = true → z18 = .int .i64 n
  c1 : L 1 = true → z19 = .int .i64 (n.tdiv 10)
  c2 : L 2 = true → z20 = .string (strOf D)
  c3 : L 3 = true → z21 = .int .i64 q
  c4 : L 4 = true → z22 = .int .i64 (48 + q)
  c5 : L 5 = true → z23 = .int .u8 (48 + q)
  c6 : L 6 = true → z24 = .slice (some ⟨nb, 0, none⟩) 1 1
  c7 : L 7 = true → z25 = .string (strOf [bt])
  c8 : L 8 = true → z26 = .string (strOf D ++ strOf [bt])
  c9 : L 9 = true → z2 = .string (strOf D ++ strOf [bt])
  be : Below W.heap.size W wx
  bl : L 6 = true → OwnAt wx nb [.int .u8 (48 + q)] 5
def IN5 (n q : Int) (D : Bs) (bt : UInt8) (W : World) (q1 q4 q5 q6 q7 q8 q9 q10 q11 q12 q13 q14 q15 q16 q17 q27 q28 q29 q30 q31 q32 q33 q34 q35 q36 q37 q38 q39 q40 : Value) (L : Nat → Bool) (a' : Act) (w' : World) : Prop :=
  ∃ nb : Nat, ∃ z18 z19 z20 z21 z22 z23 z24 z25 z26 z2 : Value, VN5 n q D bt W L nb z18 z19 z20 z21 z22 z23 z24 z25 z26 z2 w' ∧ a' = ⟨[.int .i64 n, q1, z2, .int .i64 q, q4, q5, q6, q7, q8, q9, q10, q11, q12, q13, q14, q15, q16, q17, z18, z19, z20, z21, z22, z23, z24, z25, z26, q27, q28, q29, q30, q31, q32, q33, q34, q35, q36, q37, q38, q39, q40].toArray, []⟩
def RN5 (n q : Int) (D : Bs) (bt : UInt8) (W : World) (q1 q4 q5 q6 q7 q8 q9 q10 q11 q12 q13 q14 q15 q16 q17 q27 q28 q29 q30 q31 q32 q33 q34 q35 q36 q37 q38 q39 q40 : Value) (a' : Act) (w' : World) : Prop :=
  ∃ nb : Nat, (Below W.heap.size W w') ∧ a' = ⟨[.int .i64 n, q1, .string (strOf D ++ strOf [bt]), .int .i64 q, q4, q5, q6, q7, q8, q9, q10, q11, q12, q13, q14, q15, q16, q17, .int .i64 n, .int .i64 (n.tdiv 10), .string (strOf D), .int .i64 q, .int .i64 (48 + q), .int .u8 (48 + q), .slice (some ⟨nb, 0, none⟩) 1 1, .string (strOf [bt]), .string (strOf D ++ strOf [bt]), q27, q28, q29, q30, q31, q32, q33, q34, q35, q36, q37, q38, q39, q40].toArray, []⟩
theorem reg_N5 (n q : Int) (D : Bs) (bt : UInt8) (W : World) (h0 : 0 ≤ q) (h1 : q < 10) (hn1 : n ≤ -10) (hnl : -9223372036854775808 ≤ n) (hbt : UInt8.ofNat (48 + q).toNat = bt) (hDl : D.length ≤ 21) (HN : ∀ w', Calls Tryd.prog 29 #[.int .i64 (n.tdiv 10)] w' fun e w'' => e = .returned (.string (strOf D)) ∧ Below w'.heap.size w' w'') (q1 q2 q4 q5 q6 q7 q8 q9 q10 q11 q12 q13 q14 q15 q16 q17 q18 q19 q20 q21 q22 q23 q24 q25 q26 q27 q28 q29 q30 q31 q32 q33 q34 q35 q36 q37 q38 q39 q40 : Value) (J K' : Act → World → Prop) (hJ : ∀ a' w', RN5 n q D bt W q1 q4 q5 q6 q7 q8 q9 q10 q11 q12 q13 q14 q15 q16 q17 q27 q28 q29 q30 q31 q32 q33 q34 q35 q36 q37 q38 q39 q40 a' w' → J a' w') (hM : ∀ a' w', Met J a' w' → K' a' w') :
    Code.wp Tryd.prog ((Tryd.f29.body.bind (regOf 5)).getD .skip) (Exit.then K' (fun _ _ _ => False)) ⟨[.int .i64 n, q1, q2, .int .i64 q, q4, q5, q6, q7, q8, q9, q10, q11, q12, q13, q14, q15, q16, q17, q18, q19, q20, q21, q22, q23, q24, q25, q26, q27, q28, q29, q30, q31, q32, q33, q34, q35, q36, q37, q38, q39, q40].toArray, []⟩ W := by
  have HNH := Lib.hid HN
  have HBT := Lib.hid hbt
  have hno : ¬ ((strOf D).size + (strOf [bt]).size > 9223372036854775807) := by
    show ¬ (D.toArray.size + [bt].toArray.size > _)
    simp; omega
  clear HN hbt
  conv => arg 2; whnf
  dsimp only
  refine region_by (by kernel_rfl) (by kernel_rfl) (IN5 n q D bt W q1 q4 q5 q6 q7 q8 q9 q10 q11 q12 q13 q14 q15 q16 q17 q27 q28 q29 q30 q31 q32 q33 q34 q35 q36 q37 q38 q39 q40) ?_ ?_ ?_
  · exact ⟨0, q18, q19, q20, q21, q22, q23, q24, q25, q26, q2, ⟨(fun h => by cases h), (fun h => by cases h), (fun h => by cases h), (fun h => by cases h), (fun h => by cases h), (fun h => by cases h), (fun h => by cases h), (fun h => by cases h), (fun h => by cases h), (fun h => by cases h), (fun h => by cases h), ((Below.refl _ _).drew), (fun h => by cases h)⟩, rfl⟩
  · intro L act wx k hI hk hl hd
    obtain ⟨nb, z18, z19, z20, z21, z22, z23, z24, z25, z26, z2, hV, rfl⟩ := hI
    have hk : k = 0 ∨ k = 1 ∨ k = 2 ∨ k = 3 ∨ k = 4 ∨ k = 5 ∨ k = 6 ∨ k = 7 ∨ k = 8 ∨ k = 9 := by
      have : k < 10 := hk
      omega
    rcases hk with rfl | rfl | rfl | rfl | rfl | rfl | rfl | rfl | rfl | rfl
    · have nl := kf hV.ord hl
      refine op_at _ rfl rfl (fun K' hK => ?_)
      conv => arg 2; whnf
      go_wp2_with fail
      exact ⟨nb, .int .i64 n, z19, z20, z21, z22, z23, z24, z25, z26, z2, ⟨(kl nl), (fun _ => rfl), (kc hV.c1), (kc hV.c2), (kc hV.c3), (kc hV.c4), (kc hV.c5), (kc hV.c6), (kc hV.c7), (kc hV.c8), (kc hV.c9), hV.be, (kc hV.bl)⟩, rfl⟩
    · have nl := kf hV.ord hl
      have d0 : L 0 = true := hd _ rfl ⟨0, .data⟩ (by simp) rfl
      obtain rfl := (hV.c0 d0).symm
      refine op_at _ rfl rfl (fun K' hK => ?_)
      conv => arg 2; whnf
      go_wp2_with fail
      exact ⟨nb, .int .i64 n, .int .i64 (n.tdiv 10), z20, z21, z22, z23, z24, z25, z26, z2, ⟨(kl nl), (kc hV.c0), (fun _ => rfl), (kc hV.c2), (kc hV.c3), (kc hV.c4), (kc hV.c5), (kc hV.c6), (kc hV.c7), (kc hV.c8), (kc hV.c9), hV.be, (kc hV.bl)⟩, rfl⟩
    · have nl := kf hV.ord hl
      have d1 : L 1 = true := hd _ rfl ⟨1, .data⟩ (by simp) rfl
      obtain rfl := (hV.c1 d1).symm
      refine op_at _ rfl rfl (fun K' hK => ?_)
      conv => arg 2; whnf
      go_wp2_with (go_at_call 29; refine (HNH.out _).mono ?_; rintro e w2 ⟨rfl, hal⟩)
      exact ⟨nb, z18, .int .i64 (n.tdiv 10), .string (strOf D), z21, z22, z23, z24, z25, z26, z2, ⟨(kl nl), (kc hV.c0), (kc hV.c1), (fun _ => rfl), (kc hV.c3), (kc hV.c4), (kc hV.c5), (kc hV.c6), (kc hV.c7), (kc hV.c8), (kc hV.c9), (Below.trans (hV.be) (Below.mono hal hV.be.size)), (fun h0 => OwnAt.old (hV.bl (kb h0)) hal)⟩, rfl⟩
    · have nl := kf hV.ord hl
      refine op_at _ rfl rfl (fun K' hK => ?_)
      conv => arg 2; whnf
      go_wp2_with fail
      exact ⟨nb, z18, z19, z20, .int .i64 q, z22, z23, z24, z25, z26, z2, ⟨(kl nl), (kc hV.c0), (kc hV.c1), (kc hV.c2), (fun _ => rfl), (kc hV.c4), (kc hV.c5), (kc hV.c6), (kc hV.c7), (kc hV.c8), (kc hV.c9), hV.be, (kc hV.bl)⟩, rfl⟩
    · have nl := kf hV.ord hl
      have d3 : L 3 = true := hd _ rfl ⟨3, .data⟩ (by simp) rfl
      obtain rfl := (hV.c3 d3).symm
      refine op_at _ rfl rfl (fun K' hK => ?_)
      conv => arg 2; whnf
      go_wp2_with fail
      exact ⟨nb, z18, z19, z20, .int .i64 q, .int .i64 (48 + q), z23, z24, z25, z26, z2, ⟨(kl nl), (kc hV.c0), (kc hV.c1), (kc hV.c2), (kc hV.c3), (fun _ => rfl), (kc hV.c5), (kc hV.c6), (kc hV.c7), (kc hV.c8), (kc hV.c9), hV.be, (kc hV.bl)⟩, rfl⟩
    · have nl := kf hV.ord hl
      have d4 : L 4 = true := hd _ rfl ⟨4, .data⟩ (by simp) rfl
      obtain rfl := (hV.c4 d4).symm
      refine op_at _ rfl rfl (fun K' hK => ?_)
      conv => arg 2; whnf
      go_wp2_with fail
      exact ⟨nb, z18, z19, z20, z21, .int .i64 (48 + q), .int .u8 (48 + q), z24, z25, z26, z2, ⟨(kl nl), (kc hV.c0), (kc hV.c1), (kc hV.c2), (kc hV.c3), (kc hV.c4), (fun _ => rfl), (kc hV.c6), (kc hV.c7), (kc hV.c8), (kc hV.c9), hV.be, (kc hV.bl)⟩, rfl⟩
    · have nl := kf hV.ord hl
      have d5 : L 5 = true := hd _ rfl ⟨5, .data⟩ (by simp) rfl
      obtain rfl := (hV.c5 d5).symm
      have hal : Below wx.heap.size wx (wx.alloc (.cells #[.int .u8 (48 + q)] 5)) := (Below.refl _ _).alloc (Nat.le_refl _) _
      refine op_at _ rfl rfl (fun K' hK => ?_)
      conv => arg 2; whnf
      go_wp2_with fail
      exact ⟨wx.heap.size, z18, z19, z20, z21, z22, .int .u8 (48 + q), .slice (some ⟨(wx.heap.size), 0, none⟩) 1 1, z25, z26, z2, ⟨(kl nl), (kc hV.c0), (kc hV.c1), (kc hV.c2), (kc hV.c3), (kc hV.c4), (kc hV.c5), (fun _ => rfl), (kc hV.c7), (kc hV.c8), (kc hV.c9), (Below.trans (hV.be) (Below.mono hal hV.be.size)), (fun _ => OwnAt.new wx [.int .u8 (48 + q)] 5)⟩, rfl⟩
    · have nl := kf hV.ord hl
      have d6 : L 6 = true := hd _ rfl ⟨6, .data⟩ (by simp) rfl
      obtain rfl := (hV.c6 d6).symm
      have hb7 := hV.bl d6
      have hcv := iconv_one (48 + q) (by omega) (by omega) wx nb (hb7.at 0 _ rfl)
      rw [HBT.out] at hcv
      refine op_at _ rfl rfl (fun K' hK => ?_)
      conv => arg 2; whnf
      go_wp2_with fail
      exact ⟨nb, z18, z19, z20, z21, z22, z23, .slice (some ⟨nb, 0, none⟩) 1 1, .string (strOf [bt]), z26, z2, ⟨(kl nl), (kc hV.c0), (kc hV.c1), (kc hV.c2), (kc hV.c3), (kc hV.c4), (kc hV.c5), (kc hV.c6), (fun _ => rfl), (kc hV.c8), (kc hV.c9), hV.be, (kc hV.bl)⟩, rfl⟩
    · have nl := kf hV.ord hl
      have d2 : L 2 = true := hd _ rfl ⟨2, .data⟩ (by simp) rfl
      obtain rfl := (hV.c2 d2).symm
      have d7 : L 7 = true := hd _ rfl ⟨7, .data⟩ (by simp) rfl
      obtain rfl := (hV.c7 d7).symm
      refine op_at _ rfl rfl (fun K' hK => ?_)
      conv => arg 2; whnf
      go_wp2_with fail
      exact ⟨nb, z18, z19, .string (strOf D), z21, z22, z23, z24, .string (strOf [bt]), .string (strOf D ++ strOf [bt]), z2, ⟨(kl nl), (kc hV.c0), (kc hV.c1), (kc hV.c2), (kc hV.c3), (kc hV.c4), (kc hV.c5), (kc hV.c6), (kc hV.c7), (fun _ => rfl), (kc hV.c9), hV.be, (kc hV.bl)⟩, rfl⟩
    · have before : ∀ j, j < 9 → L j = true := fun j hj => by
        have hj : j = 0 ∨ j = 1 ∨ j = 2 ∨ j = 3 ∨ j = 4 ∨ j = 5 ∨ j = 6 ∨ j = 7 ∨ j = 8 := by omega
        rcases hj with rfl | rfl | rfl | rfl | rfl | rfl | rfl | rfl | rfl
        · exact hd _ rfl ⟨0, .phase⟩ (by simp) rfl
        · exact hd _ rfl ⟨1, .phase⟩ (by simp) rfl
        · exact hd _ rfl ⟨2, .chain⟩ (by simp) rfl
        · exact hd _ rfl ⟨3, .phase⟩ (by simp) rfl
        · exact hd _ rfl ⟨4, .phase⟩ (by simp) rfl
        · exact hd _ rfl ⟨5, .phase⟩ (by simp) rfl
        · exact hd _ rfl ⟨6, .phase⟩ (by simp) rfl
        · exact hd _ rfl ⟨7, .phase⟩ (by simp) rfl
        · exact hd _ rfl ⟨8, .data⟩ (by simp) rfl
      have d2 : L 2 = true := hd _ rfl ⟨2, .chain⟩ (by simp) rfl
      have d8 : L 8 = true := hd _ rfl ⟨8, .data⟩ (by simp) rfl
      obtain rfl := (hV.c8 d8).symm
      refine op_at _ rfl rfl (fun K' hK => ?_)
      conv => arg 2; whnf
      go_wp2_with fail
      exact ⟨nb, z18, z19, z20, z21, z22, z23, z24, z25, .string (strOf D ++ strOf [bt]), .string (strOf D ++ strOf [bt]), ⟨(fun _ j hj => by rw [upd_ne L (show j ≠ 9 by omega)]; exact before j hj), (kc hV.c0), (kc hV.c1), (kc hV.c2), (kc hV.c3), (kc hV.c4), (kc hV.c5), (kc hV.c6), (kc hV.c7), (kc hV.c8), (fun _ => rfl), hV.be, (kc hV.bl)⟩, rfl⟩
  · intro L act wx hI hall
    obtain ⟨nb, z18, z19, z20, z21, z22, z23, z24, z25, z26, z2, hV, rfl⟩ := hI
    obtain rfl := (hV.c0 (hall 0 (by decide))).symm
    obtain rfl := (hV.c1 (hall 1 (by decide))).symm
    obtain rfl := (hV.c2 (hall 2 (by decide))).symm
    obtain rfl := (hV.c3 (hall 3 (by decide))).symm
    obtain rfl := (hV.c4 (hall 4 (by decide))).symm
    obtain rfl := (hV.c5 (hall 5 (by decide))).symm
    obtain rfl := (hV.c6 (hall 6 (by decide))).symm
    obtain rfl := (hV.c7 (hall 7 (by decide))).symm
    obtain rfl := (hV.c8 (hall 8 (by decide))).symm
    obtain rfl := (hV.c9 (hall 9 (by decide))).symm
    exact hM _ _ (Met.intro (hJ _ _ ⟨nb, hV.be, rfl⟩))
theorem thenI_any {P : Program} {c : Code} {K : Act → World → Prop} {Q : Exit → Act → World → Prop} {a : Act} {w : World} (h : c.wp P (Exit.then K (fun _ _ _ => False)) a w) : c.wp P (Exit.then K Q) a w :=
  wp_mono h (fun e a w q => by cases e with
    | normal => exact q
    | _ => exact False.elim q)
theorem number_any : ∀ (m : Nat) (n : Int), n.natAbs = m → -9223372036854775808 ≤ n → n ≤ 9223372036854775807 → ∀ w : World,
    Calls Tryd.prog 29 #[.int .i64 n] w fun e w' => e = .returned (.string (strOf (Lib.itoa n))) ∧ Below w.heap.size w w' := by
  intro m
  induction m using Nat.strongRecOn with
  | _ m ih =>
    intro n hm hl hu w
    by_cases hneg : n < 0
    · have hr0 : 0 ≤ -(n.tmod 10) ∧ -(n.tmod 10) < 10 := by
        obtain ⟨u, rfl⟩ : ∃ u : Nat, n = -(u : Int) := ⟨n.natAbs, by omega⟩
        rw [Int.neg_tmod, Int.tmod_eq_emod_of_nonneg (by omega)]
        omega
      have HCV := iconv_one (48 + -(n.tmod 10)) (by omega) (by omega)
      by_cases h10 : -10 < n
      · have hs := itoa_short n hneg h10
        rw [hs]
        have HB := Lib.hid ((Below.refl w.heap.size w).alloc (Nat.le_refl _) (.cells #[.int .u8 (48 + -(n.tmod 10))] 5))
        generalize UInt8.ofNat (48 + -(n.tmod 10)).toNat = bt at *
        clear ih hs hm
        obtain ⟨q, hq⟩ : ∃ q, -(n.tmod 10) = q := ⟨_, rfl⟩
        rw [hq] at HCV HB hr0
        obtain ⟨r0, r1⟩ := hr0
        go_enter Tryd.func29, Tryd.ntmps29
        go_wp2_with fail
        go_ret
        exact ⟨rfl, HB.out⟩
      · have hs := itoa_tdiv n (by omega)
        rw [hs]
        have hqd : n.tdiv 10 < 0 ∧ (n.tdiv 10).natAbs < m ∧ -9223372036854775808 ≤ n.tdiv 10 ∧ n.tdiv 10 ≤ 9223372036854775807 := by
          obtain ⟨u, rfl⟩ : ∃ u : Nat, n = -(u : Int) := ⟨n.natAbs, by omega⟩
          rw [Int.neg_tdiv, Int.tdiv_eq_ediv_of_nonneg (by omega)]
          omega
        have HN := Lib.hid (fun w' => ih (n.tdiv 10).natAbs hqd.2.1 (n.tdiv 10) rfl hqd.2.2.1 hqd.2.2.2 w')
        have hlen := Lib.itoa_length_le (n.tdiv 10) hqd.2.2.1 hqd.2.2.2
        clear ih hs hm
        obtain ⟨D, hD⟩ : ∃ D, Lib.itoa (n.tdiv 10) = D := ⟨_, rfl⟩
        rw [hD] at HN hlen ⊢
        clear hD hqd
        have hno : ¬ ((strOf D).size + (strOf [UInt8.ofNat (48 + -(n.tmod 10)).toNat]).size > 9223372036854775807) := by
          show ¬ (D.toArray.size + [UInt8.ofNat (48 + -(n.tmod 10)).toNat].toArray.size > _)
          simp; omega
        obtain ⟨bt, hbt0⟩ : ∃ bt, UInt8.ofNat (48 + -(n.tmod 10)).toNat = bt := ⟨_, rfl⟩
        rw [hbt0] at hno HCV ⊢
        have HAP := Lib.hid (strOf_append D [bt])
        obtain ⟨q, hq⟩ : ∃ q, -(n.tmod 10) = q := ⟨_, rfl⟩
        rw [hq] at HCV hr0 hbt0
        obtain ⟨r0, r1⟩ := hr0
        have h10' : n ≤ -10 := by omega
        go_enter Tryd.func29, Tryd.ntmps29
        go_upto_region 5 with (fail)
        refine wp_cut (fun a' w' => RN5 n q D bt w _ _ _ _ _ _ _ _ _ _ _ _ _ _ _ _ _ _ _ _ _ _ _ _ _ _ _ _ _ a' w') ?rest (fun J K' hJ hM => thenI_any (reg_N5 n q D bt w r0 r1 h10' hl hbt0 hlen HN.out _ _ _ _ _ _ _ _ _ _ _ _ _ _ _ _ _ _ _ _ _ _ _ _ _ _ _ _ _ _ _ _ _ _ _ _ _ _ _ J K' hJ hM))
        case rest =>
        rintro a' w' ⟨nb, hb5, rfl⟩
        go_wp2_with fail
        go_ret
        exact ⟨by rw [HAP.out]; rfl, hb5⟩
    · obtain ⟨u, rfl⟩ : ∃ u : Nat, n = (u : Int) := ⟨n.toNat, by omega⟩
      have := number_nat u (by omega) w
      rw [itoa_nat]
      exact this
end Go.Proofs.YtgdnnaiidmfncaaDoor
