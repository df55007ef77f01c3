/-
  Tame code may be. Plain functions alone.
  What MachSteps leans on: numbers appended to numbers; what is so of three runs. Conditions: rows lie in memory.
  MachSteps: a run on what is padded, in whatever order. Conditions: the code and the row lie in memory.
-/
import Derived.Test.YtpgjfpphigeliaaGreatDoorMachTd
import Derived.Test.YtpgjfpphigeliaaGreatDoorMachTe
import Derived.Test.YtpgjfpphigeliaaGreatDoorMachF
import Derived.Maps.AppendAt
set_option linter.unusedVariables false
set_option linter.unusedSimpArgs false
namespace Go.Proofs.YtpgjfpphigeliaaGreatDoor
open Go.RowKit
set_option maxHeartbeats 4000000
set_option maxRecDepth 100000

theorem tame_right {x : Ins} (h : rightI x = true) : rightI (tameI x) = true := by
  obtain ⟨o1, o2⟩ := right_op h
  have hl := (right_open h).2.2
  unfold tameI
  by_cases h1 : x.op ≤ 12
  · rw [if_pos h1]; exact right_two ⟨o1, h1⟩ (few_in _) (few_in _) (few_in _)
  rw [if_neg h1]
  by_cases h2 : x.op ≤ 15
  · rw [if_pos h2]; exact right_one (by omega) (few_in _) (few_in _)
  rw [if_neg h2]
  by_cases h3 : x.op = 16
  · rw [if_pos h3]; exact right_li (few_in _)
  rw [if_neg h3]
  by_cases h4 : x.op = 17
  · rw [if_pos h4]
    rw [h4] at hl
    exact right_la (few_in _) (hl.1 (by decide))
  rw [if_neg h4]
  have t9 := tmod_in (x.n.tdiv 8) 9 (by decide)
  have t5 := tmod_in (x.n.tdiv 8) 5 (by decide)
  by_cases h5 : x.op = 18
  · rw [if_pos h5]; exact right_addi (few_in _) (few_in _) ⟨by omega, by omega⟩
  rw [if_neg h5]
  by_cases h6 : x.op = 19
  · rw [if_pos h6]; exact right_ld (few_in _) (two_in _) ⟨by omega, by omega⟩
  rw [if_neg h6]
  by_cases h7 : x.op = 20
  · rw [if_pos h7]; exact right_sd (few_in _) (two_in _) ⟨by omega, by omega⟩
  rw [if_neg h7]
  by_cases h8 : x.op ≤ 24
  · rw [if_pos h8]
    have h76 : (76 : UInt8) ∈ (rowI x.op).2 := by
      have : x.op = 21 ∨ x.op = 22 ∨ x.op = 23 ∨ x.op = 24 := by omega
      rcases this with e | e | e | e <;> rw [e] <;> decide
    exact right_br ⟨by omega, h8⟩ (few_in _) (few_in _) (hl.1 h76)
  · rw [if_neg h8]; exact h
theorem tame_same (x : Ins) : (tameI x).op = x.op ∧ ((tameI x).name = x.name ∨ (tameI x).name = [] ∧ ¬ x.op = 17) := by
  unfold tameI
  by_cases h1 : x.op ≤ 12
  · rw [if_pos h1]; exact ⟨rfl, .inr ⟨rfl, by omega⟩⟩
  rw [if_neg h1]
  by_cases h2 : x.op ≤ 15
  · rw [if_pos h2]; exact ⟨rfl, .inr ⟨rfl, by omega⟩⟩
  rw [if_neg h2]
  by_cases h3 : x.op = 16
  · rw [if_pos h3]; exact ⟨h3.symm, .inr ⟨rfl, by omega⟩⟩
  rw [if_neg h3]
  by_cases h4 : x.op = 17
  · rw [if_pos h4]; exact ⟨h4.symm, .inl rfl⟩
  rw [if_neg h4]
  by_cases h5 : x.op = 18
  · rw [if_pos h5]; exact ⟨h5.symm, .inr ⟨rfl, h4⟩⟩
  rw [if_neg h5]
  by_cases h6 : x.op = 19
  · rw [if_pos h6]; exact ⟨h6.symm, .inr ⟨rfl, h4⟩⟩
  rw [if_neg h6]
  by_cases h7 : x.op = 20
  · rw [if_pos h7]; exact ⟨h7.symm, .inr ⟨rfl, h4⟩⟩
  rw [if_neg h7]
  by_cases h8 : x.op ≤ 24
  · rw [if_pos h8]; exact ⟨rfl, .inl rfl⟩
  · rw [if_neg h8]; exact ⟨rfl, .inl rfl⟩
theorem tame_n {x : Ins} (h : I64 x.n) : I64 (tameI x).n := by
  obtain ⟨h1, h2⟩ := h
  have t9 := tmod_in (x.n.tdiv 8) 9 (by decide)
  have t5 := tmod_in (x.n.tdiv 8) 5 (by decide)
  have tn := tmod_in x.n 9 (by decide)
  unfold tameI I64
  repeat' split
  all_goals first | omega | (dsimp only; omega)
theorem tameL_label (x : Ln) : (tameL x).label = x.label := by
  unfold tameL
  split
  · rename_i h; exact h.symm
  · rfl
theorem place_tame {L : List Ln} {H : List Ln} {s : Bs} (h : (place L s).isSome = true) : (place (H ++ L.map tameL) s).isSome = true := by
  by_cases hs : s = []
  · subst hs; cases h
  · cases e : place (H ++ L.map tameL) s with
    | some i => rfl
    | none =>
      have hn := (place_none hs).1 e
      have : place L s = none := (place_none hs).2 fun x hx => by
        have := hn (tameL x) (List.mem_append_right _ (List.mem_map_of_mem hx))
        rwa [tameL_label] at this
      rw [this] at h; cases h
theorem head_lines (first : List Int) : ∀ x, x ∈ headT first → x.label = [] ∧ rightI x.ins = true ∧ x.ins.name.length ≤ 40 := by
  intro x hx
  simp only [headT, List.mem_cons, List.not_mem_nil, or_false] at hx
  rcases hx with rfl | rfl | rfl | rfl | rfl | rfl
  · exact ⟨rfl, right_la ⟨by decide, by decide⟩ (by decide), of_decide_eq_true rfl⟩
  · exact ⟨rfl, right_li ⟨by decide, by decide⟩, of_decide_eq_true rfl⟩
  · exact ⟨rfl, right_li ⟨by decide, by decide⟩, of_decide_eq_true rfl⟩
  · exact ⟨rfl, right_li ⟨by decide, by decide⟩, of_decide_eq_true rfl⟩
  · exact ⟨rfl, right_li ⟨by decide, by decide⟩, of_decide_eq_true rfl⟩
  · exact ⟨rfl, right_addi ⟨by decide, by decide⟩ ⟨by decide, by decide⟩ ⟨by decide, by decide⟩, of_decide_eq_true rfl⟩
theorem head_known (first : List Int) (L : List Ln) : ∀ x, x ∈ headT first → knownB ⟨arrs2, L⟩ x.ins = true := by
  intro x hx
  simp only [headT, List.mem_cons, List.not_mem_nil, or_false] at hx
  rcases hx with rfl | rfl | rfl | rfl | rfl | rfl
  · rfl
  · exact known_none (of_decide_eq_true rfl) rfl
  · exact known_none (of_decide_eq_true rfl) rfl
  · exact known_none (of_decide_eq_true rfl) rfl
  · exact known_none (of_decide_eq_true rfl) rfl
  · exact known_none (of_decide_eq_true rfl) rfl
theorem tame_known {raw : List Ln} (hr : RawL raw) (first : List Int) {x : Ins} (h : knownB (fitC raw) x = true) : knownB (tameC raw first) (tameI x) = true := by
  obtain ⟨h1, h2⟩ := tame_same x
  unfold knownB at h ⊢
  rw [h1]
  by_cases h17 : x.op = 17
  · rw [if_pos h17] at h ⊢
    rcases h2 with h2 | h2
    · rw [h2]; rw [(fitC_good hr).arrs] at h; exact h
    · exact absurd h17 h2.2
  · rw [if_neg h17] at h ⊢
    rcases h2 with h2 | h2
    · rw [h2]
      rw [Bool.or_eq_true] at h ⊢
      rcases h with h | h
      · exact .inl (place_tame h)
      · exact .inr h
    · rw [h2.1]; simp
theorem tame_check {raw : List Ln} (hr : RawL raw) (first : List Int) : checkC (tameC raw first) = (0, 0) := by
  have hg := fitC_good hr
  have hlen : (tameC raw first).lines.length = 6 + (fitC raw).lines.length := by
    show (headT first ++ (fitC raw).lines.map tameL).length = _
    rw [List.length_append, List.length_map]; rfl
  refine checkC_ok (by rw [hlen]; have := hg.len; omega) (show arrsE arrs2 = 0 by decide) fun j hj => ?_
  by_cases h6 : j < 6
  · have he : (tameC raw first).lines[j] = (headT first)[j]'h6 := List.getElem_append_left h6
    rw [he]
    obtain ⟨e1, e2, _⟩ := head_lines first _ (List.getElem_mem h6)
    refine lineE_zero.2 ⟨?_, fun h => absurd e1 h, head_known first _ _ (List.getElem_mem h6)⟩
    unfold wellB
    rw [if_pos e1]; exact e2
  · obtain ⟨i, rfl⟩ : ∃ i, j = 6 + i := ⟨j - 6, by omega⟩
    have hi : i < (fitC raw).lines.length := by omega
    have hat : ∀ i (hi : i < (fitC raw).lines.length) (hj : 6 + i < (tameC raw first).lines.length), (tameC raw first).lines[6 + i] = tameL (fitC raw).lines[i] := by
      intro i hi hj
      have : (tameC raw first).lines[6 + i] = ((fitC raw).lines.map tameL)[6 + i - (headT first).length]'(by rw [List.length_map]; show 6 + i - 6 < _; omega) := List.getElem_append_right (by show 6 ≤ 6 + i; omega)
      rw [this, List.getElem_map]
      congr 2
      show 6 + i - 6 = i
      omega
    rw [hat i hi hj]
    rcases hg.line i hi with ⟨h1, h2, h3, h4⟩ | ⟨h1, h2, m, h3⟩
    · have et : tameL (fitC raw).lines[i] = ⟨[], tameI (fitC raw).lines[i].ins⟩ := by unfold tameL; rw [if_pos h1]
      rw [et]
      refine lineE_zero.2 ⟨?_, fun h => absurd rfl h, tame_known hr first h4⟩
      unfold wellB
      rw [if_pos rfl]; exact tame_right h2
    · have et : tameL (fitC raw).lines[i] = (fitC raw).lines[i] := by unfold tameL; rw [if_neg h1]
      rw [et]
      refine lineE_zero.2 ⟨(hg.wells _ (List.getElem_mem hi)).1, fun _ => ?_, by rw [h2]; exact known_none (by decide) rfl⟩
      have hp : place (tameC raw first).lines (fitC raw).lines[i].label = some (6 + i) := by
        refine place_of h1 hj (by rw [hat i hi hj, et]) fun j2 hj2 e => ?_
        by_cases h62 : j2 < 6
        · have he : (tameC raw first).lines[j2] = (headT first)[j2]'h62 := List.getElem_append_left h62
          rw [he, (head_lines first _ (List.getElem_mem h62)).1] at e
          exact h1 e.symm
        · obtain ⟨i2, rfl⟩ : ∃ i2, j2 = 6 + i2 := ⟨j2 - 6, by omega⟩
          rw [hat i2 (by omega) (by omega), tameL_label] at e
          have := hg.uniq i2 i (by omega) hi (by omega) e
          rw [this] at e
          exact h1 e.symm
      unfold placeI
      rw [hp]
      exact Int.le_refl _
theorem tame_fine {raw : List Ln} (hr : RawL raw) (first : List Int) : FineC (tameC raw first) := by
  have hg := fitC_good hr
  refine ⟨by rw [tame_check hr first], (show arrs2.length ≤ 1000 by decide), short_of (fun x hx => ?_) (fun a ha => ?_)⟩
  · rcases List.mem_append.1 hx with h | h
    · obtain ⟨e1, _, e3⟩ := head_lines first x h
      exact ⟨by rw [e1]; exact Nat.zero_le _, e3⟩
    · obtain ⟨y, hy, rfl⟩ := List.mem_map.1 h
      obtain ⟨i, hi, e⟩ := List.getElem_of_mem hy
      rw [tameL_label]
      rcases hg.line i hi with ⟨h1, h2, _, _⟩ | ⟨h1, h2, m, h3⟩
      · rw [e] at h1 h2
        refine ⟨by rw [h1]; exact Nat.zero_le _, ?_⟩
        unfold tameL
        rw [if_pos h1]
        exact right_name (tame_right h2)
      · rw [e] at h1 h2 h3
        refine ⟨by rw [h3]; exact (label_mem (iname_ok m)).2.2, ?_⟩
        unfold tameL
        rw [if_neg h1, h2]; exact Nat.zero_le _
  · have : ∀ a, a ∈ arrs2 → a.name.length ≤ 40 := by decide
    exact this a ha
theorem fir_in {first : List Int} (h : ∀ z, z ∈ first → I64 z) (i : Nat) : I64 (firZ first i) := by
  unfold firZ
  rw [List.getD_eq_getElem?_getD]
  cases e : first[i]? with
  | none => exact ⟨by decide, by decide⟩
  | some z => exact h z (List.mem_of_getElem? e)
theorem tame_i64 {raw : List Ln} (hr : RawL raw) {first : List Int} (h : ∀ z, z ∈ first → I64 z) : ∀ x, x ∈ (tameC raw first).lines → I64 x.ins.n := by
  intro x hx
  rcases List.mem_append.1 hx with h' | h'
  · simp only [headT, List.mem_cons, List.not_mem_nil, or_false] at h'
    rcases h' with rfl | rfl | rfl | rfl | rfl | rfl <;> first | exact fir_in h _ | exact ⟨of_decide_eq_true rfl, of_decide_eq_true rfl⟩
  · obtain ⟨y, hy, rfl⟩ := List.mem_map.1 h'
    rcases rawfit_ok hr y hy with ⟨h1, _, h3⟩ | ⟨h1, _, _⟩
    · unfold tameL
      rw [if_pos h1]
      exact tame_n h3
    · obtain ⟨i, hi, e⟩ := List.getElem_of_mem hy
      unfold tameL
      rw [if_neg h1]
      rcases (fitC_good hr).line i hi with ⟨g1, _, _, _⟩ | ⟨_, g2, _⟩
      · rw [e] at g1; exact absurd g1 h1
      · rw [e] at g2; rw [g2]; exact ⟨by decide, by decide⟩
end Go.Proofs.YtpgjfpphigeliaaGreatDoor

namespace Go.Proofs.YtpgjfpphigeliaaGreatDoor
open Go.RowKit
set_option maxHeartbeats 4000000
set_option maxRecDepth 100000

theorem wpList_numApp (w : World) {ops : Array Oper} {rest : List Oper} {o : Oper} {a : Act} {Q : Exit → Act → World → Prop} (hgd : o.guard = none) (s x : Operand) (ho : o.op = .call { callee := .builtin .append, args := #[s, x], argTypes := #[23, 23] })
    (base : Nat) (L : List Int) (v : Value) (hs : a.eval s = v) (hown : NumsOwn w base L v) (M : List Int) (ad : Addr) (m c : Nat) (hx : a.eval x = .slice (some ad) m c) (hm : M.length = m) (hnews : ∀ j u, (M.flatMap intCells)[j]? = some u → w.cell? (ad.add j) = some u)
    (hlen : (L.length + m) * 8 ≤ 140737488355328) (hbase : base ≤ w.heap.size)
    (h : ∀ v' w', NumsOwn w' base (L ++ M) v' → w.grownBy w' v.ownBlock → wpList Tryz.prog ops Q rest (a.put o.dst v') w') : wpList Tryz.prog ops Q (o :: rest) a w := by
  obtain ⟨i0, hi, hz0, hz1, hz2⟩ := info_parts infoNum
  have hfl : ∀ M : List Int, (M.flatMap intCells).length = M.length * 1 := fun M => by
    induction M with
    | nil => rfl
    | cons y M ih => rw [List.flatMap_cons, List.length_append, ih, intCells_len, List.length_cons]; omega
  refine wpList_append_own_at (P := Tryz.prog) w hgd s x 23 ho base 3 i0 _ 1 8 Tryz.underlying23 hi hz0 hz1 hz2 rfl (by decide) v L.length (L.flatMap intCells) hs hown ad m c (M.flatMap intCells) hx (by rw [hfl, hm]) hnews (fun u hu => by obtain ⟨y, _, hy⟩ := List.mem_flatMap.1 hu; exact intCells_one y u hy) (by unfold maxLen; omega) hlen hbase ?_
  intro v' w' h1 h2 h3 h4
  refine h v' w' ?_ h2
  unfold NumsOwn RwOwn
  rw [List.length_append, List.flatMap_append, hm]
  exact h1
/-- What is so of three runs of one code. -/
structure Three (n : Int) (st cd sp : Int) (o : List Int) (stB cdB spB : Int) (mo : List Int) : Prop where
  sp_n : sp ≤ n
  sp_B : sp ≤ spB
  ended : ¬ st = 0 → stB = st ∧ cdB = cd ∧ mo = [] ∧ spB = sp
  going : st = 0 → cd = 0 ∧ sp = n
theorem three_runs (c : Cd) (hc : checkC c = (0, 0)) (inp : List Int) (n m : Int) (hn : 0 ≤ n) (hn2 : n ≤ 200) (hm : 0 ≤ m) :
    ∃ st cd sp o stB cdB spB mo, (runC c inp n).tells = (st, cd, o, sp) ∧ (runC c inp (n + m)).tells = (stB, cdB, o ++ mo, spB) ∧ (runC c (inp ++ (List.replicate 202 (-1) ++ [5])) n).tells = (st, cd, o, sp) ∧ Three n st cd sp o stB cdB spB mo ∧ (o.length : Int) ≤ n := by
  rw [runC_ok hc, runC_ok hc, runC_ok hc]
  have hmore := run_more (C := machR c) (show n ≤ n + m by omega) (startS inp)
  obtain ⟨mo, hmo⟩ := run_out (machR c) (n + m) (runR (machR c) n (startS inp))
  rw [hmore] at hmo
  obtain ⟨g1, _⟩ := run_steps (machR c) (n + m) (runR (machR c) n (startS inp))
  rw [hmore] at g1
  have g2 := (run_steps (machR c) n (startS inp)).2 hn
  have g3 := run_told (machR c) n (startS inp) hn (Int.le_refl 0)
  have g4 := run_going (machR c) n (startS inp) (fun _ => rfl)
  obtain ⟨k, hk⟩ := run_pad (C := machR c) (n := n) (startS inp) 202 (show n ≤ 0 + ((202 : Nat) : Int) by omega)
  refine ⟨(runR (machR c) n (startS inp)).st, (runR (machR c) n (startS inp)).code, (runR (machR c) n (startS inp)).steps, (runR (machR c) n (startS inp)).out, (runR (machR c) (n + m) (startS inp)).st, (runR (machR c) (n + m) (startS inp)).code, (runR (machR c) (n + m) (startS inp)).steps, mo, rfl, ?_, ?_, ⟨g2, g1, fun hst => ?_, fun hst => ?_⟩, by omega⟩
  · show (_, _, (runR (machR c) (n + m) (startS inp)).out, _) = _
    rw [hmo]
  · show (runR (machR c) n (padS 202 (startS inp))).tells = _
    rw [hk]; rfl
  · have hB : runR (machR c) (n + m) (startS inp) = runR (machR c) n (startS inp) := by rw [← hmore, runR_st hst]
    rw [hB] at hmo ⊢
    refine ⟨rfl, rfl, ?_, rfl⟩
    have := congrArg List.length hmo
    rw [List.length_append] at this
    exact List.eq_nil_of_length_eq_zero (by omega)
  · obtain ⟨h1, h2⟩ := g4 hst
    exact ⟨h1, by omega⟩
theorem NumsOwn.inp {w : World} {base : Nat} {L : List Int} {v : Value} (h : NumsOwn w base L v) (hl : L.length ≤ 140737488355328) : InpAt w L v := by
  refine ⟨RwOwn.nilv h hl intCells_len, ?_⟩
  rcases h.2 with ⟨h1, h2⟩ | ⟨g, cap, cur, h1, hb, hh, h3, h4, h5, h6⟩
  · exact ⟨none, 0, 0, h1, Nat.le_refl _, by decide⟩
  · exact ⟨_, _, _, h1, by first | exact h3 | omega, by first | (unfold maxLen at h4; omega) | omega⟩
end Go.Proofs.YtpgjfpphigeliaaGreatDoor

namespace Go.Proofs.YtpgjfpphigeliaaGreatDoor
open Go.RowKit
set_option maxHeartbeats 8000000
set_option maxRecDepth 100000

theorem OwnAt.below {w w' : World} {b B : Nat} {cs : List Value} {T : TypeId} (h : OwnAt w b cs T) (hb : Below B w w') (hB : b < B) : OwnAt w' b cs T := (hb.block b hB).trans h
theorem num_some {w : World} {base : Nat} {L : List Int} {v : Value} (h : NumsOwn w base (L ++ [5]) v) : ∃ g cap, v = .slice (some ⟨g, 0, none⟩) (L.length + 1) cap ∧ base ≤ g := by
  rcases h.2 with ⟨h1, h2⟩ | ⟨g, cap, cur, h1, hb, _⟩
  · rw [List.length_append] at h2; cases h2
  · exact ⟨g, cap, by rw [h1, List.length_append]; rfl, hb⟩
theorem wpO_numApp (w : World) {o : Oper} {a : Act} {K : Act → World → Prop} {Q : Exit → Act → World → Prop} (s x : Operand) (ho : o.op = .call { callee := .builtin .append, args := #[s, x], argTypes := #[23, 23] })
    (base : Nat) (L : List Int) (v : Value) (hs : a.eval s = v) (hown : NumsOwn w base L v) (M : List Int) (ad : Addr) (m c : Nat) (hx : a.eval x = .slice (some ad) m c) (hm : M.length = m) (hnews : ∀ j u, (M.flatMap intCells)[j]? = some u → w.cell? (ad.add j) = some u)
    (hlen : (L.length + m) * 8 ≤ 140737488355328) (hbase : base ≤ w.heap.size)
    (h : ∀ v' w', NumsOwn w' base (L ++ M) v' → w.grownBy w' v.ownBlock → K (a.put o.dst v') w') : o.wp Tryz.prog a w K Q := by
  obtain ⟨i0, hi, hz0, hz1, hz2⟩ := info_parts infoNum
  have hfl : ∀ M : List Int, (M.flatMap intCells).length = M.length * 1 := fun M => by
    induction M with
    | nil => rfl
    | cons y M ih => rw [List.flatMap_cons, List.length_append, ih, intCells_len, List.length_cons]; omega
  obtain ⟨v', w', hr, h2, h3, h4, h5⟩ := run_append_own_at (P := Tryz.prog) w base 23 o.type 3 i0 _ 1 8 Tryz.underlying23 hi hz0 hz1 hz2 rfl (by decide) v L.length (L.flatMap intCells) hown ad m c (M.flatMap intCells) (by rw [hfl, hm]) hnews (fun u hu => by obtain ⟨y, _, hy⟩ := List.mem_flatMap.1 hu; exact intCells_one y u hy) (by unfold maxLen; omega) hlen hbase
  unfold Oper.wp execOp
  simp only [ho, resolve, invoke, builtin, Sem.run_bind, Sem.run_pure, Result.andThen_ok, List.map_toArray, List.map_cons, List.map_nil, hs, hx, hr]
  refine h v' w' ?_ h3
  unfold NumsOwn RwOwn
  rw [List.length_append, List.flatMap_append, hm]
  exact h2
structure VST12 (T12 HP : Nat) (va vl pv : Value) (LL o : List Int) (n st cd sp : Int) (W : World) (L : Nat → Bool) (tb : Nat) (gp : Nat) (cp : Nat) (ra : (Option Addr)) (rc : Nat) (td : Nat) (z47 z48 z49 z50 z51 z52 z19 : Value) (wx : World) : Prop where
  ord : L 7 = true → ∀ j, j < 7 → L j = true
  p3_2 : L 3 = true → L 2 = true
  p5_2 : L 5 = true → L 2 = true
  p5_3 : L 5 = true → L 3 = true
  p7_5 : L 7 = true → L 5 = true
  p7_6 : L 7 = true → L 6 = true
  c0 : L 0 = true → z47 = .agg #[va, vl]
  c1 : L 1 = true → z48 = pv
  c2 : L 2 = true → z49 = .slice (some ⟨tb, 0, none⟩) 1 1
  c3 : L 3 = true → z50 = .slice (some ⟨gp, 0, none⟩) (LL.length + 1) cp
  c4 : L 4 = true → z51 = .int .i64 n
  c5 : L 5 = true → z52 = .agg #[.int .i64 st, .int .i64 cd, .slice ra o.length rc, .int .i64 sp]
  c6 : L 6 = true → z19 = .pointer (some ⟨td, 0, none⟩)
  fr : Below HP W wx ∧ W.heap.size ≤ wx.heap.size
  lo : L 3 = false → NumsOwn wx HP LL pv
  bt : L 2 = true → L 3 = false → OwnAt wx tb [.int .i64 5] 3 ∧ W.heap.size ≤ tb
  r3 : L 3 = true → L 5 = false → NumsOwn wx HP (LL ++ [5]) (.slice (some ⟨gp, 0, none⟩) (LL.length + 1) cp)
  r5 : L 5 = true → NumsOwn wx HP o (.slice ra o.length rc)
  ne : L 5 = true → L 6 = true → (.slice ra o.length rc : Value).ownBlock ≠ some td
  bd : L 6 = true → L 7 = false → OwnAt wx td [.int .i64 0, .int .i64 0, .slice none 0 0, .int .i64 0] 31 ∧ W.heap.size ≤ td ∧ pv.ownBlock ≠ some td
  up : L 7 = true → OwnAt wx td [.int .i64 st, .int .i64 cd, .slice ra o.length rc, .int .i64 sp] 31 ∧ W.heap.size ≤ td
def IST12 (T12 HP : Nat) (va vl pv : Value) (LL o : List Int) (n st cd sp : Int) (W : World) (q0 q1 q2 q3 q4 q5 q6 q7 q8 q9 q10 q11 q14 q15 q16 q18 q20 q21 q22 q23 q24 q25 q26 q27 q28 q29 q30 q31 q32 q33 q34 q35 q36 q37 q38 q39 q40 q41 q42 q43 q44 q45 q46 q53 q54 q55 q56 q57 q58 q59 q60 q61 q62 q63 q64 q65 q66 q67 q68 q69 q70 q71 q72 q73 q74 q75 q76 q77 q78 q79 q80 q81 q82 q83 q84 q85 q86 q87 q88 q89 q90 q91 q92 q93 q94 q95 q96 : Value) (L : Nat → Bool) (a' : Act) (w' : World) : Prop :=
  ∃ tb : Nat, ∃ gp : Nat, ∃ cp : Nat, ∃ ra : (Option Addr), ∃ rc : Nat, ∃ td : Nat, ∃ z47 z48 z49 z50 z51 z52 z19 : Value, VST12 T12 HP va vl pv LL o n st cd sp W L tb gp cp ra rc td z47 z48 z49 z50 z51 z52 z19 w' ∧ a' = ⟨[q0, q1, q2, q3, q4, q5, q6, q7, q8, q9, q10, q11, .pointer (some ⟨T12, 0, none⟩), .int .i64 n, q14, q15, q16, pv, q18, z19, q20, q21, q22, q23, q24, q25, q26, q27, q28, q29, q30, q31, q32, q33, q34, q35, q36, q37, q38, q39, q40, q41, q42, q43, q44, q45, q46, z47, z48, z49, z50, z51, z52, q53, q54, q55, q56, q57, q58, q59, q60, q61, q62, q63, q64, q65, q66, q67, q68, q69, q70, q71, q72, q73, q74, q75, q76, q77, q78, q79, q80, q81, q82, q83, q84, q85, q86, q87, q88, q89, q90, q91, q92, q93, q94, q95, q96].toArray, []⟩
def RST12 (T12 HP : Nat) (va vl pv : Value) (LL o : List Int) (n st cd sp : Int) (W : World) (q0 q1 q2 q3 q4 q5 q6 q7 q8 q9 q10 q11 q14 q15 q16 q18 q20 q21 q22 q23 q24 q25 q26 q27 q28 q29 q30 q31 q32 q33 q34 q35 q36 q37 q38 q39 q40 q41 q42 q43 q44 q45 q46 q53 q54 q55 q56 q57 q58 q59 q60 q61 q62 q63 q64 q65 q66 q67 q68 q69 q70 q71 q72 q73 q74 q75 q76 q77 q78 q79 q80 q81 q82 q83 q84 q85 q86 q87 q88 q89 q90 q91 q92 q93 q94 q95 q96 : Value) (a' : Act) (w' : World) : Prop :=
  ∃ tb : Nat, ∃ gp : Nat, ∃ cp : Nat, ∃ ra : (Option Addr), ∃ rc : Nat, ∃ td : Nat, ((Below HP W w' ∧ W.heap.size ≤ w'.heap.size) ∧ (NumsOwn w' HP o (.slice ra o.length rc)) ∧ (OwnAt w' td [.int .i64 st, .int .i64 cd, .slice ra o.length rc, .int .i64 sp] 31 ∧ W.heap.size ≤ td)) ∧ a' = ⟨[q0, q1, q2, q3, q4, q5, q6, q7, q8, q9, q10, q11, .pointer (some ⟨T12, 0, none⟩), .int .i64 n, q14, q15, q16, pv, q18, .pointer (some ⟨td, 0, none⟩), q20, q21, q22, q23, q24, q25, q26, q27, q28, q29, q30, q31, q32, q33, q34, q35, q36, q37, q38, q39, q40, q41, q42, q43, q44, q45, q46, .agg #[va, vl], pv, .slice (some ⟨tb, 0, none⟩) 1 1, .slice (some ⟨gp, 0, none⟩) (LL.length + 1) cp, .int .i64 n, .agg #[.int .i64 st, .int .i64 cd, .slice ra o.length rc, .int .i64 sp], q53, q54, q55, q56, q57, q58, q59, q60, q61, q62, q63, q64, q65, q66, q67, q68, q69, q70, q71, q72, q73, q74, q75, q76, q77, q78, q79, q80, q81, q82, q83, q84, q85, q86, q87, q88, q89, q90, q91, q92, q93, q94, q95, q96].toArray, []⟩
theorem reg_ST12 (T12 HP : Nat) (va vl pv : Value) (LL o : List Int) (n st cd sp : Int) (W : World) (HX : Hid (OwnAt W T12 [va, vl] 27)) (hT : T12 < HP) (hHP : HP ≤ W.heap.size) (hlo : NumsOwn W HP LL pv) (hll : (LL.length + 1) * 8 ≤ 140737488355328) (HR : Hid (∀ w v, Below HP W w → InpAt w (LL ++ [5]) v → Calls Tryz.prog 14 #[.agg #[va, vl], v, .int .i64 n] w fun e w' => ∃ a cap, e = .returned (.agg #[.int .i64 st, .int .i64 cd, .slice a o.length cap, .int .i64 sp]) ∧ NumsOwn w' w.heap.size o (.slice a o.length cap) ∧ Below w.heap.size w w')) (q0 q1 q2 q3 q4 q5 q6 q7 q8 q9 q10 q11 q14 q15 q16 q18 q19 q20 q21 q22 q23 q24 q25 q26 q27 q28 q29 q30 q31 q32 q33 q34 q35 q36 q37 q38 q39 q40 q41 q42 q43 q44 q45 q46 q47 q48 q49 q50 q51 q52 q53 q54 q55 q56 q57 q58 q59 q60 q61 q62 q63 q64 q65 q66 q67 q68 q69 q70 q71 q72 q73 q74 q75 q76 q77 q78 q79 q80 q81 q82 q83 q84 q85 q86 q87 q88 q89 q90 q91 q92 q93 q94 q95 q96 : Value) (J K' : Act → World → Prop) (hJ : ∀ a' w', RST12 T12 HP va vl pv LL o n st cd sp W q0 q1 q2 q3 q4 q5 q6 q7 q8 q9 q10 q11 q14 q15 q16 q18 q20 q21 q22 q23 q24 q25 q26 q27 q28 q29 q30 q31 q32 q33 q34 q35 q36 q37 q38 q39 q40 q41 q42 q43 q44 q45 q46 q53 q54 q55 q56 q57 q58 q59 q60 q61 q62 q63 q64 q65 q66 q67 q68 q69 q70 q71 q72 q73 q74 q75 q76 q77 q78 q79 q80 q81 q82 q83 q84 q85 q86 q87 q88 q89 q90 q91 q92 q93 q94 q95 q96 a' w' → J a' w') (hM : ∀ a' w', Met J a' w' → K' a' w') :
    Code.wp Tryz.prog ((Tryz.f3.body.bind (regOf 12)).getD .skip) (Exit.then K' (fun _ _ _ => False)) ⟨[q0, q1, q2, q3, q4, q5, q6, q7, q8, q9, q10, q11, .pointer (some ⟨T12, 0, none⟩), .int .i64 n, q14, q15, q16, pv, q18, q19, q20, q21, q22, q23, q24, q25, q26, q27, q28, q29, q30, q31, q32, q33, q34, q35, q36, q37, q38, q39, q40, q41, q42, q43, q44, q45, q46, q47, q48, q49, q50, q51, q52, q53, q54, q55, q56, q57, q58, q59, q60, q61, q62, q63, q64, q65, q66, q67, q68, q69, q70, q71, q72, q73, q74, q75, q76, q77, q78, q79, q80, q81, q82, q83, q84, q85, q86, q87, q88, q89, q90, q91, q92, q93, q94, q95, q96].toArray, []⟩ W := by
  have hvl : ∀ g, pv.ownBlock = some g → g < W.heap.size := fun g h => (RwOwn.lt hlo g h).2
  have HLO := Lib.hid hlo; have HVLT := Lib.hid hvl
  clear hlo hvl
  conv => arg 2; whnf
  dsimp only
  refine region_by (by kernel_rfl) (by kernel_rfl) (IST12 T12 HP va vl pv LL o n st cd sp W q0 q1 q2 q3 q4 q5 q6 q7 q8 q9 q10 q11 q14 q15 q16 q18 q20 q21 q22 q23 q24 q25 q26 q27 q28 q29 q30 q31 q32 q33 q34 q35 q36 q37 q38 q39 q40 q41 q42 q43 q44 q45 q46 q53 q54 q55 q56 q57 q58 q59 q60 q61 q62 q63 q64 q65 q66 q67 q68 q69 q70 q71 q72 q73 q74 q75 q76 q77 q78 q79 q80 q81 q82 q83 q84 q85 q86 q87 q88 q89 q90 q91 q92 q93 q94 q95 q96) ?_ ?_ ?_
  · exact ⟨0, 0, 0, none, 0, 0, q47, q48, q49, q50, q51, q52, q19, ⟨(fun h => by cases h), (fun h => by cases h), (fun h => by cases h), (fun h => by cases h), (fun h => by cases h), (fun h => by cases h), (fun h => by cases h), (fun h => by cases h), (fun h => by cases h), (fun h => by cases h), (fun h => by cases h), (fun h => by cases h), (fun h => by cases h), (⟨(Below.refl _ _).drew, Nat.le_refl _⟩), (fun _ => RwOwn.old HLO.out (Below.refl _ _).drew), (fun h => fun _ => by cases h), (fun h => fun _ => by cases h), (fun h => by cases h), (fun h => fun _ => by cases h), (fun h => fun _ => by cases h), (fun h => by cases h)⟩, rfl⟩
  · intro L act wx k hI hk hl hd
    obtain ⟨tb, gp, cp, ra, rc, td, z47, z48, z49, z50, z51, z52, z19, hV, rfl⟩ := hI
    have hk : k = 0 ∨ k = 1 ∨ k = 2 ∨ k = 3 ∨ k = 4 ∨ k = 5 ∨ k = 6 ∨ k = 7 := by
      have : k < 8 := hk
      omega
    rcases hk with rfl | rfl | rfl | rfl | rfl | rfl | rfl | rfl
    · have nl := kf hV.ord hl
      have ho := (HX.out.below hV.fr.1 hT)
      have x0 := ho.at 0 _ rfl
      have x1 := ho.at 1 _ rfl
      have hxl := ho.lt
      refine op_at _ rfl rfl (fun K' hK => ?_)
      conv => arg 2; whnf
      go_wp2_with fail
      exact ⟨tb, gp, cp, ra, rc, td, .agg #[va, vl], z48, z49, z50, z51, z52, z19, ⟨(kl nl), (kq hV.p3_2), (kq hV.p5_2), (kq hV.p5_3), (kq hV.p7_5), (kq hV.p7_6), (fun _ => rfl), (kc hV.c1), (kc hV.c2), (kc hV.c3), (kc hV.c4), (kc hV.c5), (kc hV.c6), hV.fr, (fun h0 => hV.lo (kb h0)), (fun h0 => fun h1 => hV.bt (kb h0) (kb h1)), (fun h0 => fun h1 => hV.r3 (kb h0) (kb h1)), (kc hV.r5), (fun h0 => fun h1 => hV.ne (kb h0) (kb h1)), (fun h0 => fun h1 => hV.bd (kb h0) (kb h1)), (kl nl)⟩, rfl⟩
    · have nl := kf hV.ord hl
      refine op_at _ rfl rfl (fun K' hK => ?_)
      conv => arg 2; whnf
      go_wp2_with fail
      exact ⟨tb, gp, cp, ra, rc, td, z47, pv, z49, z50, z51, z52, z19, ⟨(kl nl), (kq hV.p3_2), (kq hV.p5_2), (kq hV.p5_3), (kq hV.p7_5), (kq hV.p7_6), (kc hV.c0), (fun _ => rfl), (kc hV.c2), (kc hV.c3), (kc hV.c4), (kc hV.c5), (kc hV.c6), hV.fr, (fun h0 => hV.lo (kb h0)), (fun h0 => fun h1 => hV.bt (kb h0) (kb h1)), (fun h0 => fun h1 => hV.r3 (kb h0) (kb h1)), (kc hV.r5), (fun h0 => fun h1 => hV.ne (kb h0) (kb h1)), (fun h0 => fun h1 => hV.bd (kb h0) (kb h1)), (kl nl)⟩, rfl⟩
    · have nl := kf hV.ord hl
      have hal : Below wx.heap.size wx (wx.alloc (.cells #[.int .i64 5] 3)) := (Below.refl _ _).alloc (Nat.le_refl _) _
      have hfs := hV.fr.2
      refine op_at _ rfl rfl (fun K' hK => ?_)
      conv => arg 2; whnf
      go_wp2_with fail
      exact ⟨wx.heap.size, gp, cp, ra, rc, td, z47, z48, .slice (some ⟨(wx.heap.size), 0, none⟩) 1 1, z50, z51, z52, z19, ⟨(kl nl), (fun _ => upd_same L 2), (fun _ => upd_same L 2), (kq hV.p5_3), (kq hV.p7_5), (kq hV.p7_6), (kc hV.c0), (kc hV.c1), (fun _ => rfl), (kc hV.c3), (kc hV.c4), (kc hV.c5), (kc hV.c6), (⟨Below.trans (And.left (hV.fr)) (Below.mono hal (Nat.le_trans hHP (And.right (hV.fr)))), Nat.le_trans (And.right (hV.fr)) hal.size⟩), (fun h0 => RwOwn.old (hV.lo (kb h0)) hal), (fun _ _ => ⟨OwnAt.new wx [.int .i64 5] 3, hfs⟩), (kn hV.p3_2 hl), (kn hV.p5_2 hl), (kn hV.p5_2 hl), (fun h0 => fun h1 => ⟨OwnAt.old (And.left (hV.bd (kb h0) (kb h1))) hal, And.right (hV.bd (kb h0) (kb h1))⟩), (kl nl)⟩, rfl⟩
    · have nl := kf hV.ord hl
      have d1 : L 1 = true := hd _ rfl ⟨1, .data⟩ (by simp) rfl
      obtain rfl := (hV.c1 d1).symm
      have d2 : L 2 = true := hd _ rfl ⟨2, .data⟩ (by simp) rfl
      obtain rfl := (hV.c2 d2).symm
      have hb2 := hV.bt d2 hl
      have hlo := hV.lo hl
      have hfs := hV.fr.2
      refine op_at _ rfl rfl (fun K' hK => ?_)
      conv => arg 2; whnf
      refine wpO_numApp wx _ _ rfl HP LL pv rfl hlo [5] ⟨tb, 0, none⟩ 1 1 rfl rfl (fun j u hu => by rw [addr0]; exact hb2.1.at j u hu) hll (Nat.le_trans hHP hfs) ?_
      intro v2 w2 hr2 hg2
      obtain ⟨g2, cap2, rfl, ha2⟩ := num_some hr2
      go_wp2_with fail
      exact ⟨tb, g2, cap2, ra, rc, td, z47, pv, .slice (some ⟨tb, 0, none⟩) 1 1, .slice (some ⟨(g2), 0, none⟩) (LL.length + 1) (cap2), z51, z52, z19, ⟨(kl nl), (kd (d2)), (kq hV.p5_2), (fun _ => upd_same L 3), (kq hV.p7_5), (kq hV.p7_6), (kc hV.c0), (kc hV.c1), (kc hV.c2), (fun _ => rfl), (kc hV.c4), (kc hV.c5), (kc hV.c6), ⟨below_grow hV.fr.1 hg2 (fun k e => (RwOwn.lt hlo k e).1) (Nat.le_trans hHP hfs), Nat.le_trans hfs hg2.size⟩, (ks), (fun _ => ks), (fun _ _ => hr2), (fun h5 => by have := (hV.p5_3 (kb h5)); rw [hl] at this; cases this), (kn hV.p5_3 hl), (fun h6 h7 => ⟨(hV.bd (kb h6) nl).1.grow hg2 (hV.bd (kb h6) nl).2.2, (hV.bd (kb h6) nl).2⟩), (kl nl)⟩, rfl⟩
    · have nl := kf hV.ord hl
      refine op_at _ rfl rfl (fun K' hK => ?_)
      conv => arg 2; whnf
      go_wp2_with fail
      exact ⟨tb, gp, cp, ra, rc, td, z47, z48, z49, z50, .int .i64 n, z52, z19, ⟨(kl nl), (kq hV.p3_2), (kq hV.p5_2), (kq hV.p5_3), (kq hV.p7_5), (kq hV.p7_6), (kc hV.c0), (kc hV.c1), (kc hV.c2), (kc hV.c3), (fun _ => rfl), (kc hV.c5), (kc hV.c6), hV.fr, (fun h0 => hV.lo (kb h0)), (fun h0 => fun h1 => hV.bt (kb h0) (kb h1)), (fun h0 => fun h1 => hV.r3 (kb h0) (kb h1)), (kc hV.r5), (fun h0 => fun h1 => hV.ne (kb h0) (kb h1)), (fun h0 => fun h1 => hV.bd (kb h0) (kb h1)), (kl nl)⟩, rfl⟩
    · have nl := kf hV.ord hl
      have d0 : L 0 = true := hd _ rfl ⟨0, .data⟩ (by simp) rfl
      obtain rfl := (hV.c0 d0).symm
      have d3 : L 3 = true := hd _ rfl ⟨3, .data⟩ (by simp) rfl
      obtain rfl := (hV.c3 d3).symm
      have d4 : L 4 = true := hd _ rfl ⟨4, .data⟩ (by simp) rfl
      obtain rfl := (hV.c4 d4).symm
      have n7 := nl
      have hr3 := hV.r3 d3 hl
      have hin := NumsOwn.inp hr3 (by rw [List.length_append]; show LL.length + 1 ≤ _; omega)
      have hfs := hV.fr.2
      refine op_at _ rfl rfl (fun K' hK => ?_)
      conv => arg 2; whnf
      go_wp2_with fail
      refine (HR.out _ _ hV.fr.1 hin).mono ?_
      rintro e w7 ⟨a7, c7, rfl, hn7, hal⟩
      go_wp2_with fail
      exact ⟨tb, gp, cp, a7, c7, td, .agg #[va, vl], z48, z49, .slice (some ⟨gp, 0, none⟩) (LL.length + 1) cp, .int .i64 n, .agg #[.int .i64 st, .int .i64 cd, .slice (a7) o.length (c7), .int .i64 sp], z19, ⟨(kl nl), (kq hV.p3_2), (kd (hV.p3_2 d3)), (kd (d3)), (fun _ => upd_same L 5), (kq hV.p7_6), (kc hV.c0), (kc hV.c1), (kc hV.c2), (kc hV.c3), (kc hV.c4), (fun _ => rfl), (kc hV.c6), (⟨Below.trans (And.left (hV.fr)) (Below.mono hal (Nat.le_trans hHP (And.right (hV.fr)))), Nat.le_trans (And.right (hV.fr)) hal.size⟩), (fun h0 => RwOwn.old (hV.lo (kb h0)) hal), (fun h0 => fun h1 => ⟨OwnAt.old (And.left (hV.bt (kb h0) (kb h1))) hal, And.right (hV.bt (kb h0) (kb h1))⟩), (fun _ => ks), (fun _ => RwOwn.base hn7 (Nat.le_trans hHP hfs)), (fun _ h6 e => by have h1 := (RwOwn.lt hn7 _ e).1; have h2 := (hV.bd (kb h6) nl).1.lt; omega), (fun h0 => fun h1 => ⟨OwnAt.old (And.left (hV.bd (kb h0) (kb h1))) hal, And.right (hV.bd (kb h0) (kb h1))⟩), (kl nl)⟩, rfl⟩
    · have nl := kf hV.ord hl
      have hal : Below wx.heap.size wx (wx.alloc (.cells #[.int .i64 0, .int .i64 0, .slice none 0 0, .int .i64 0] 31)) := (Below.refl _ _).alloc (Nat.le_refl _) _
      have hfs := hV.fr.2
      refine op_at _ rfl rfl (fun K' hK => ?_)
      conv => arg 2; whnf
      go_wp2_with fail
      exact ⟨tb, gp, cp, ra, rc, wx.heap.size, z47, z48, z49, z50, z51, z52, .pointer (some ⟨(wx.heap.size), 0, none⟩), ⟨(kl nl), (kq hV.p3_2), (kq hV.p5_2), (kq hV.p5_3), (kq hV.p7_5), (fun _ => upd_same L 6), (kc hV.c0), (kc hV.c1), (kc hV.c2), (kc hV.c3), (kc hV.c4), (kc hV.c5), (fun _ => rfl), (⟨Below.trans (And.left (hV.fr)) (Below.mono hal (Nat.le_trans hHP (And.right (hV.fr)))), Nat.le_trans (And.right (hV.fr)) hal.size⟩), (fun h0 => RwOwn.old (hV.lo (kb h0)) hal), (fun h0 => fun h1 => ⟨OwnAt.old (And.left (hV.bt (kb h0) (kb h1))) hal, And.right (hV.bt (kb h0) (kb h1))⟩), (fun h0 => fun h1 => RwOwn.old (hV.r3 (kb h0) (kb h1)) hal), (fun h0 => RwOwn.old (hV.r5 (kb h0)) hal), (fun h5 _ e => by have := (RwOwn.lt (hV.r5 (kb h5)) _ e).2; omega), (fun _ _ => ⟨OwnAt.new wx [.int .i64 0, .int .i64 0, .slice none 0 0, .int .i64 0] 31, hfs, fun e => by have := HVLT.out _ e; omega⟩), (kl nl)⟩, rfl⟩
    · have before : ∀ j, j < 7 → L j = true := fun j hj => by
        have hj : j = 0 ∨ j = 1 ∨ j = 2 ∨ j = 3 ∨ j = 4 ∨ j = 5 ∨ j = 6 := by omega
        rcases hj with rfl | rfl | rfl | rfl | rfl | rfl | rfl
        · exact hd _ rfl ⟨0, .phase⟩ (by simp) rfl
        · exact hd _ rfl ⟨1, .phase⟩ (by simp) rfl
        · exact hd _ rfl ⟨2, .phase⟩ (by simp) rfl
        · exact hd _ rfl ⟨3, .phase⟩ (by simp) rfl
        · exact hd _ rfl ⟨4, .phase⟩ (by simp) rfl
        · exact hd _ rfl ⟨5, .data⟩ (by simp) rfl
        · exact hd _ rfl ⟨6, .data⟩ (by simp) rfl
      have d5 : L 5 = true := hd _ rfl ⟨5, .data⟩ (by simp) rfl
      obtain rfl := (hV.c5 d5).symm
      have d6 : L 6 = true := hd _ rfl ⟨6, .data⟩ (by simp) rfl
      obtain rfl := (hV.c6 d6).symm
      have hd6 := hV.bd d6 hl
      have hd0 := hd6.1.at 0 _ rfl
      have hd1 := hd6.1.at 1 _ rfl
      have hd2 := hd6.1.at 2 _ rfl
      have hd3 := hd6.1.at 3 _ rfl
      have hf0 := hd6.1.fz 0
      have hf1 := hd6.1.fz 1
      have hf2 := hd6.1.fz 2
      have hf3 := hd6.1.fz 3
      have hdl := hd6.1.lt
      refine op_at _ rfl rfl (fun K' hK => ?_)
      conv => arg 2; whnf
      go_wp2_with fail
      exact ⟨tb, gp, cp, ra, rc, td, z47, z48, z49, z50, z51, .agg #[.int .i64 st, .int .i64 cd, .slice ra o.length rc, .int .i64 sp], .pointer (some ⟨td, 0, none⟩), ⟨(fun _ j hj => by rw [upd_ne L (show j ≠ 7 by omega)]; exact before j hj), (kq hV.p3_2), (kq hV.p5_2), (kq hV.p5_3), (kd (before 5 (by decide))), (kd (before 6 (by decide))), (kc hV.c0), (kc hV.c1), (kc hV.c2), (kc hV.c3), (kc hV.c4), (kc hV.c5), (kc hV.c6), ⟨zbelow_set (zbelow_set (zbelow_set (zbelow_set hV.fr.1 (Nat.le_trans hHP hd6.2.1) 0 _) (Nat.le_trans hHP hd6.2.1) 1 _) (Nat.le_trans hHP hd6.2.1) 2 _) (Nat.le_trans hHP hd6.2.1) 3 _, by have := hV.fr.2; simpa using this⟩, (fun h => by rw [upd_ne L (show 3 ≠ 7 by decide), before 3 (by decide)] at h; cases h), (fun _ h => by rw [upd_ne L (show 3 ≠ 7 by decide), before 3 (by decide)] at h; cases h), (fun _ h => by rw [upd_ne L (show 5 ≠ 7 by decide), before 5 (by decide)] at h; cases h), (fun _ => RwOwn.set (RwOwn.set (RwOwn.set (RwOwn.set (hV.r5 d5) (hV.ne d5 d6) 0 _) (hV.ne d5 d6) 1 _) (hV.ne d5 d6) 2 _) (hV.ne d5 d6) 3 _), (fun h0 => fun h1 => (hV.ne (kb h0) (kb h1))), (fun _ => ks), (fun _ => ⟨(((hd6.1.set 0 _).set 1 _).set 2 _).set 3 _, hd6.2.1⟩)⟩, rfl⟩
  · intro L act wx hI hall
    obtain ⟨tb, gp, cp, ra, rc, td, z47, z48, z49, z50, z51, z52, z19, hV, rfl⟩ := hI
    obtain rfl := (hV.c0 (hall 0 (by decide))).symm
    obtain rfl := (hV.c1 (hall 1 (by decide))).symm
    obtain rfl := (hV.c2 (hall 2 (by decide))).symm
    obtain rfl := (hV.c3 (hall 3 (by decide))).symm
    obtain rfl := (hV.c4 (hall 4 (by decide))).symm
    obtain rfl := (hV.c5 (hall 5 (by decide))).symm
    obtain rfl := (hV.c6 (hall 6 (by decide))).symm
    exact hM _ _ (Met.intro (hJ _ _ ⟨tb, gp, cp, ra, rc, td, ⟨hV.fr, hV.r5 (hall 5 (by decide)), hV.up (hall 7 (by decide))⟩, rfl⟩))
end Go.Proofs.YtpgjfpphigeliaaGreatDoor
