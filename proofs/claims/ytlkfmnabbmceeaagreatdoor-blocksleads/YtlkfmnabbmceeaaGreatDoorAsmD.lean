/-
  labels: the places of labels, each one's first. Condition: labels are no longer than memory.
  arrays: may they be? Condition: names are no longer than memory.
  well: may a line be, by itself? known: is what an instruction names there? Condition: labels are no longer than memory.
  known: is what an instruction names there? Check: may code be? Condition: labels and names are no longer than memory.
-/
import Derived.Test.YtlkfmnabbmceeaaGreatDoorAsmC
import Derived.Test.YtlkfmnabbmceeaaGreatDoorInstrB
import Derived.Test.YtlkfmnabbmceeaaGreatDoorInstrC
set_option linter.unusedVariables false
set_option linter.unusedSimpArgs false
namespace Go.Proofs.YtlkfmnabbmceeaaGreatDoor
open Go.RowKit
set_option maxHeartbeats 4000000
set_option maxRecDepth 100000

def placeF (l : List Ln) : Bs → Option Int := fun s => (place l s).map Int.ofNat
theorem placeF_snoc (l : List Ln) (x : Ln) (h : x.label ≠ []) (hp : place l x.label = none) : ∀ s, placeF (l ++ [x]) s = putF (placeF l) x.label l.length s := by
  intro s
  unfold placeF putF
  rw [place_snoc]
  by_cases hs : s = x.label
  · subst hs
    rw [if_pos ⟨h, hp, rfl⟩, if_pos rfl]; rfl
  · rw [if_neg (fun hc => hs hc.2.2.symm), if_neg hs]
theorem placeF_none (l : List Ln) (x : Ln) (h : x.label = [] ∨ (place l x.label).isSome = true) : ∀ s, placeF (l ++ [x]) s = placeF l s := by
  intro s
  unfold placeF
  rw [place_snoc, if_neg]
  rintro ⟨h1, h2, h3⟩
  rcases h with h | h
  · exact h1 (h3.symm.trans h)
  · rw [h3, h2] at h; cases h
theorem labels_any (c : Cd) (va vl : Value) (w : World) (h : CodeAt w c va vl) (hs : ∀ x, x ∈ c.lines → x.label.length ≤ 9223372036854775807) :
    Calls Tryz.prog 16 #[.agg #[va, vl]] w fun e w' => ∃ B n, e = .returned (.map (some B)) ∧ MapIs w' B n (placeF c.lines) ∧ w.heap.size ≤ B ∧ Below w.heap.size w w' := by
  obtain ⟨a, cap, rfl⟩ := h.2.shape
  have hl := h.2.len
  have HL := Lib.hid h.2
  have HS := Lib.hid hs
  have hl63 : (c.lines.length : Int) ≤ 140737488355328 := by omega
  clear h hs
  go_enter Tryz.func16, Tryz.ntmps16
  have hmm := @run_makeMap Tryz.prog
  go_wp2_with fail
  go_loopw [12] (fun s12 wr => ∃ k : Nat, k ≤ c.lines.length ∧ s12 = .int .i64 k ∧ MapIs wr (w.heap.size + 1) k (placeF (c.lines.take k)) ∧ Below w.heap.size w wr) (fun s12 _ => c.lines.length - (intOf s12).toNat)
  case atStart => exact ⟨0, Nat.zero_le _, rfl, (MapIs.made1 _ _).ext (fun s => by cases s <;> rfl), ((Below.refl _ _).alloc (Nat.le_refl _) _).alloc (by simp) _⟩
  case round =>
    obtain ⟨k, hk, rfl, hm, hb⟩ := hrel
    have HM := Lib.hid hm; have HB := Lib.hid hb
    have hsz := hb.size
    have hml := hm.lt
    clear hm hb
    by_cases hlt : k < c.lines.length
    · obtain ⟨b, off, rfl, hbl, c0, c1, c2, c3, c4, c5, c6⟩ := LnsAt.at (LnsAt.old HL.out HB.out) hlt
      have hmem := HS.out _ (List.getElem_mem hlt)
      have htk : c.lines.take (k + 1) = c.lines.take k ++ [c.lines[k]] := by rw [List.take_add_one, List.getElem?_eq_getElem hlt]; rfl
      have htl : (c.lines.take k).length = k := by rw [List.length_take]; omega
      obtain ⟨x, hx⟩ : ∃ x, c.lines[k] = x := ⟨_, rfl⟩
      rw [hx] at c0 c1 c2 c3 c4 c5 c6 hmem htk
      have HTK := Lib.hid htk
      have HTL := Lib.hid htl
      have HMEM := Lib.hid hmem
      clear hx htk hmem htl
      obtain ⟨lab, o, d, aa, bb, n, nm⟩ := x
      dsimp only at c0 c1 c2 c3 c4 c5 c6
      obtain ⟨v, hv⟩ : ∃ v, (placeF (c.lines.take k) lab).getD 0 = v := ⟨_, rfl⟩
      have HV := Lib.hid hv
      clear hv
      cases lab with
      | nil =>
        obtain ⟨q, hq⟩ : ∃ q, (placeF (c.lines.take k) []).isSome = q := ⟨_, rfl⟩
        have HQ := Lib.hid hq
        clear hq
        go_wp2_with (at_lookup; refine wpList_mlookOk _ rfl _ _ rfl rfl (HM.out.alloc _) _ rfl HMEM.out HV.out HQ.out ?_)
        refine ⟨⟨k + 1, hlt, by first | rfl | (simp; done) | go_num, ?_, HB.out.alloc HB.out.size _⟩, by simp [intOf]; omega⟩
        refine ((HM.out.alloc _).mono (Nat.le_succ k)).ext fun s => ?_
        rw [HTK.out]
        exact placeF_none _ _ (.inl rfl) s
      | cons ch lab =>
        have hne : (ch :: lab = []) = False := by simp
        cases hq : (placeF (c.lines.take k) (ch :: lab)).isSome with
        | true =>
          have HQ := Lib.hid hq
          clear hq
          go_wp2_with (at_lookup; refine wpList_mlookOk _ rfl _ _ rfl rfl (HM.out.alloc _) _ rfl HMEM.out HV.out HQ.out ?_)
          refine ⟨⟨k + 1, hlt, by first | rfl | (simp; done) | go_num, ?_, HB.out.alloc HB.out.size _⟩, by simp [intOf]; omega⟩
          refine ((HM.out.alloc _).mono (Nat.le_succ k)).ext fun s => ?_
          rw [HTK.out]
          exact placeF_none _ _ (.inr (by have := HQ.out; unfold placeF at this; simpa using this)) s
        | false =>
          have HQ := Lib.hid hq
          have hkr : -9223372036854775808 ≤ (k : Int) ∧ (k : Int) ≤ 9223372036854775807 := by omega
          clear hq
          go_wp2_with (first | (at_lookup; refine wpList_mlookOk _ rfl _ _ rfl rfl (HM.out.alloc _) _ rfl HMEM.out HV.out HQ.out ?_) | (at_mapUpdate; refine wpList_mput _ rfl _ _ _ rfl rfl (HM.out.alloc _) (by omega) _ rfl HMEM.out _ rfl hkr ?_; intro w5 hm5 hg5; have HM5 := Lib.hid hm5; have HG5 := Lib.hid hg5; clear hm5 hg5))
          refine ⟨⟨k + 1, hlt, by first | rfl | (simp; done) | go_num, ?_, ?_⟩, by simp [intOf]; omega⟩
          · refine HM5.out.ext fun s => ?_
            rw [HTK.out, placeF_snoc _ _ (List.cons_ne_nil _ _) (by have := HQ.out; unfold placeF at this; simpa using this)]
            rw [HTL.out]
          · exact ⟨HG5.out.os.trans HB.out.os, HG5.out.tape.trans HB.out.tape, HG5.out.output.trans HB.out.output, by have := HG5.out.size; simp at this; omega, fun j hj => (HG5.out.block j (by simp; omega) (by rintro ⟨⟩; omega)).trans (((World.grownBy_alloc wr _ none).block j (by omega) (by simp)).trans (HB.out.block j hj))⟩
    · have he : k = c.lines.length := by omega
      subst he
      go_wp2_with fail
      go_ret
      refine ⟨w.heap.size + 1, c.lines.length, rfl, ?_, by omega, HB.out⟩
      have := HM.out
      rwa [List.take_length] at this
end Go.Proofs.YtlkfmnabbmceeaaGreatDoor

namespace Go.Proofs.YtlkfmnabbmceeaaGreatDoor
open Go.RowKit
set_option maxHeartbeats 4000000
set_option maxRecDepth 100000

def cntF (l : List Ar) : Bs → Option Int := fun s => if (l.map (·.name)).count s = 0 then none else some ((l.map (·.name)).count s : Nat)
theorem cntF_get (l : List Ar) (s : Bs) : (cntF l s).getD 0 = ((l.map (·.name)).count s : Nat) := by
  unfold cntF
  split
  · rename_i h; rw [h]; rfl
  · rfl
theorem cntF_snoc (l : List Ar) (a : Ar) : ∀ s, cntF (l ++ [a]) s = putF (cntF l) a.name (((l.map (·.name)).count a.name : Nat) + 1) s := by
  intro s
  unfold cntF putF
  rw [List.map_append, List.count_append, List.map_cons, List.map_nil]
  by_cases h : s = a.name
  · subst h
    simp
  · have : (a.name == s) = false := by simpa using fun e => h e.symm
    rw [if_neg h, List.count_cons, this]
    simp
def dupE (l : List Ar) : Int := if (l.map (·.name)).Nodup then 0 else 61
theorem dupE_snoc (l : List Ar) (a : Ar) : dupE (l ++ [a]) = (if (1 : Int) < ((l.map (·.name)).count a.name : Nat) + 1 then 61 else dupE l) := by
  unfold dupE
  rw [List.map_append, List.map_cons, List.map_nil]
  have e : ((l.map (·.name)) ++ [a.name]).Nodup ↔ (l.map (·.name)).Nodup ∧ a.name ∉ l.map (·.name) := by
    rw [List.nodup_append]
    constructor
    · rintro ⟨h1, _, h3⟩; exact ⟨h1, fun h => h3 a.name h a.name (by simp) rfl⟩
    · rintro ⟨h1, h2⟩; exact ⟨h1, by simp, fun x hx y hy e => h2 (by rw [List.mem_singleton.1 hy] at e; exact e ▸ hx)⟩
  by_cases h : a.name ∈ l.map (·.name)
  · have := List.count_pos_iff.2 h
    rw [if_neg (fun hc => (e.1 hc).2 h), if_pos (by omega)]
  · have := List.count_eq_zero.2 h
    rw [this, if_neg (show ¬ ((1 : Int) < ((0 : Nat) : Int) + 1) by decide)]
    by_cases hn : (l.map (·.name)).Nodup
    · rw [if_pos hn, if_pos (e.2 ⟨hn, h⟩)]
    · rw [if_neg hn, if_neg (fun hc => hn (e.1 hc).1)]
theorem arrsE_bad {l : List Ar} {a : Ar} (h : a ∈ l) (hb : arrBad a = true) : arrsE l = 1 := by
  unfold arrsE
  rw [if_pos (List.any_eq_true.2 ⟨a, h, hb⟩)]
theorem arrsE_good {l : List Ar} (h : ∀ a, a ∈ l → arrBad a = false) : arrsE l = dupE l := by
  unfold arrsE dupE
  rw [if_neg]
  intro hc
  obtain ⟨a, h1, h2⟩ := List.any_eq_true.1 hc
  rw [h a h1] at h2; cases h2
theorem arrays_any (l : List Ar) (v : Value) (w : World) (h : ArwAt w l v) (hs : ∀ x, x ∈ l → x.name.length ≤ 9223372036854775807) :
    Calls Tryz.prog 23 #[v] w fun e w' => e = .returned (.int .i64 (arrsE l)) ∧ Below w.heap.size w w' := by
  obtain ⟨a, cap, rfl⟩ := RwAt.shape h
  have hl := RwAt.len h
  have HL := Lib.hid h
  have HS := Lib.hid hs
  have hl63 : (l.length : Int) ≤ 140737488355328 := by omega
  clear h hs
  go_enter Tryz.func23, Tryz.ntmps23
  have hmm := @run_makeMap Tryz.prog
  go_wp2_with fail
  go_loopw [4, 10] (fun s4 s10 wr => ∃ k : Nat, k ≤ l.length ∧ s10 = .int .i64 k ∧ s4 = .int .i64 (dupE (l.take k)) ∧ (∀ x, x ∈ l.take k → arrBad x = false) ∧ MapIs wr w.heap.size k (cntF (l.take k)) ∧ Below w.heap.size w wr) (fun _ s10 _ => l.length - (intOf s10).toNat)
  case atStart => exact ⟨0, Nat.zero_le _, rfl, rfl, fun x hx => (by cases hx), (MapIs.made _).ext (fun s => by unfold cntF; simp), (Below.refl _ _).alloc (Nat.le_refl _) _⟩
  case round =>
    obtain ⟨k, hk, rfl, rfl, hno, hm, hb⟩ := hrel
    have HM := Lib.hid hm; have HB := Lib.hid hb; have HNO := Lib.hid hno
    have hsz := hb.size
    have hml := hm.lt
    clear hm hb hno
    by_cases hlt : k < l.length
    · obtain ⟨b, off, rfl, hbl, c0, c1⟩ := ArwAt.at (ArwAt.old HL.out HB.out) hlt
      have hmem := HS.out _ (List.getElem_mem hlt)
      have htk : l.take (k + 1) = l.take k ++ [l[k]] := by rw [List.take_add_one, List.getElem?_eq_getElem hlt]; rfl
      have hin := List.getElem_mem hlt
      have hcnt : ((l.take k).map (·.name)).count l[k].name ≤ k := by
        have := List.count_le_length (a := l[k].name) (l := (l.take k).map (·.name))
        simp only [List.length_map, List.length_take] at this; omega
      obtain ⟨x, hx⟩ : ∃ x, l[k] = x := ⟨_, rfl⟩
      rw [hx] at c0 c1 hmem htk hin hcnt
      have HTK := Lib.hid htk
      have HMEM := Lib.hid hmem
      have HIN := Lib.hid hin
      clear hx htk hmem hin
      obtain ⟨nm, sz⟩ := x
      dsimp only at c0 c1
      obtain ⟨n, hn⟩ : ∃ n, ((l.take k).map (·.name)).count nm = n := ⟨_, rfl⟩
      have HN := Lib.hid hn
      have hv : (cntF (l.take k) nm).getD 0 = (n : Int) := by rw [cntF_get, hn]
      have HV := Lib.hid hv
      have hnk : (n : Int) ≤ k := by
        have : n ≤ k := by rw [← hn]; exact hcnt
        omega
      clear hn hv hcnt
      have HLB := Lib.hid (fun w => label_any nm HMEM.out w)
      cases hlb : labelB nm with
      | false =>
        have HR := Lib.hid (arrsE_bad HIN.out (by unfold arrBad; rw [hlb]; rfl))
        rw [hlb] at HLB
        clear hlb
        go_wp2_with (go_at_call 37; refine (HLB.out _).mono ?_; rintro e w5 ⟨rfl, hb5⟩; have HB5 := Lib.hid hb5; clear hb5)
        go_ret
        exact ⟨ret_int HR.out.symm, (HB.out.alloc HB.out.size _).trans (HB5.out.mono (by simp; omega))⟩
      | true =>
        rw [hlb] at HLB
        have HLT := Lib.hid hlb
        clear hlb
        by_cases h1 : sz < 1
        · have HR := Lib.hid (arrsE_bad HIN.out (by unfold arrBad; simp [h1]))
          go_wp2_with (go_at_call 37; refine (HLB.out _).mono ?_; rintro e w5 ⟨rfl, hb5⟩; have HB5 := Lib.hid hb5; have hc5 := bcell hb5; clear hb5)
          go_ret
          exact ⟨ret_int HR.out.symm, (HB.out.alloc HB.out.size _).trans (HB5.out.mono (by simp; omega))⟩
        · by_cases h2 : 1048576 < sz
          · have HR := Lib.hid (arrsE_bad HIN.out (by unfold arrBad; simp [h2]))
            go_wp2_with (go_at_call 37; refine (HLB.out _).mono ?_; rintro e w5 ⟨rfl, hb5⟩; have HB5 := Lib.hid hb5; have hc5 := bcell hb5; clear hb5)
            go_ret
            exact ⟨ret_int HR.out.symm, (HB.out.alloc HB.out.size _).trans (HB5.out.mono (by simp; omega))⟩
          · have hgood : arrBad ⟨nm, sz⟩ = false := by unfold arrBad; simp [h1, h2, HLT.out]
            have HG := Lib.hid hgood
            have hr1 : -9223372036854775808 ≤ (n : Int) + 1 ∧ (n : Int) + 1 ≤ 9223372036854775807 := by omega
            have HV2 : Hid ((putF (cntF (l.take k)) nm ((n : Int) + 1) nm).getD 0 = (n : Int) + 1) := by
              show (putF _ _ _ _).getD 0 = _
              unfold putF; rw [if_pos rfl]; rfl
            have HD := Lib.hid (dupE_snoc (l.take k) ⟨nm, sz⟩)
            have HC := Lib.hid (cntF_snoc (l.take k) ⟨nm, sz⟩)
            rw [HN.out] at HD HC
            clear hgood
            have hgt : w.heap.size < wr.heap.size := hml
            by_cases hn0 : (1 : Int) < n + 1
            · rw [if_pos hn0] at HD
              go_wp2_with (first | (go_at_call 37; refine (HLB.out _).mono ?_; rintro e w5 ⟨rfl, hb5⟩; have HB5 := Lib.hid ((HB.out.alloc HB.out.size _).trans (hb5.mono (by simp; omega))); have HM5 := Lib.hid ((HM.out.alloc _).old hb5); have hs5 := hb5.size; simp only [World.size_alloc] at hs5; have hc5 := bcell hb5; have HX5 := Lib.hid ((OwnAt.new wr [.string (strOf nm), .int .i64 sz] 45).old hb5); have d0 := HX5.out.at 0 _ rfl; have d1 := HX5.out.at 1 _ rfl; clear hb5) | (at_mapUpdate; refine wpList_mput _ rfl _ _ _ rfl rfl HM5.out (by omega) _ rfl HMEM.out _ rfl hr1 ?_; intro w6 hm6 hg6; have HM6 := Lib.hid hm6; have HG6 := Lib.hid hg6; have HX6 := Lib.hid (HX5.out.grown hg6 (by omega)); have f0 := HX6.out.at 0 _ rfl; clear hm6 hg6) | (at_lookup; first | refine wpList_mlook _ rfl _ _ rfl rfl HM6.out _ rfl HMEM.out HV2.out ?_ | refine wpList_mlook _ rfl _ _ rfl rfl HM5.out _ rfl HMEM.out HV.out ?_))
              refine ⟨⟨k + 1, hlt, by first | rfl | (simp; done) | go_num, by rw [HTK.out, HD.out], ?_, ?_, ?_⟩, by simp [intOf]; omega⟩
              · intro x hx
                rw [HTK.out] at hx
                rcases List.mem_append.1 hx with h | h
                · exact HNO.out x h
                · rw [List.mem_singleton.1 h]; exact HG.out
              · rw [HTK.out]; exact HM6.out.ext HC.out
              · exact zbelow_own HB5.out HG6.out (Nat.le_refl _) HB5.out.size
            · rw [if_neg hn0] at HD
              go_wp2_with (first | (go_at_call 37; refine (HLB.out _).mono ?_; rintro e w5 ⟨rfl, hb5⟩; have HB5 := Lib.hid ((HB.out.alloc HB.out.size _).trans (hb5.mono (by simp; omega))); have HM5 := Lib.hid ((HM.out.alloc _).old hb5); have hs5 := hb5.size; simp only [World.size_alloc] at hs5; have hc5 := bcell hb5; have HX5 := Lib.hid ((OwnAt.new wr [.string (strOf nm), .int .i64 sz] 45).old hb5); have d0 := HX5.out.at 0 _ rfl; have d1 := HX5.out.at 1 _ rfl; clear hb5) | (at_mapUpdate; refine wpList_mput _ rfl _ _ _ rfl rfl HM5.out (by omega) _ rfl HMEM.out _ rfl hr1 ?_; intro w6 hm6 hg6; have HM6 := Lib.hid hm6; have HG6 := Lib.hid hg6; have HX6 := Lib.hid (HX5.out.grown hg6 (by omega)); have f0 := HX6.out.at 0 _ rfl; clear hm6 hg6) | (at_lookup; first | refine wpList_mlook _ rfl _ _ rfl rfl HM6.out _ rfl HMEM.out HV2.out ?_ | refine wpList_mlook _ rfl _ _ rfl rfl HM5.out _ rfl HMEM.out HV.out ?_))
              refine ⟨⟨k + 1, hlt, by first | rfl | (simp; done) | go_num, by rw [HTK.out, HD.out], ?_, ?_, ?_⟩, by simp [intOf]; omega⟩
              · intro x hx
                rw [HTK.out] at hx
                rcases List.mem_append.1 hx with h | h
                · exact HNO.out x h
                · rw [List.mem_singleton.1 h]; exact HG.out
              · rw [HTK.out]; exact HM6.out.ext HC.out
              · exact zbelow_own HB5.out HG6.out (Nat.le_refl _) HB5.out.size
    · have he : k = l.length := by omega
      subst he
      go_wp2_with fail
      go_ret
      rw [List.take_length] at HNO ⊢
      exact ⟨ret_int (arrsE_good HNO.out).symm, HB.out⟩
end Go.Proofs.YtlkfmnabbmceeaaGreatDoor

namespace Go.Proofs.YtlkfmnabbmceeaaGreatDoor
open Go.RowKit
set_option maxHeartbeats 4000000
set_option maxRecDepth 100000

theorem ins_cases (o0 o1 o2 o3 o4 x0 x1 x2 x3 x4 : Int) (o5 x5 : Bs) (he : insEq ⟨o0, o1, o2, o3, o4, o5⟩ ⟨x0, x1, x2, x3, x4, x5⟩ = false) : (o0 == x0) = false ∨ (o0 = x0 ∧ (o1 == x1) = false) ∨ (o0 = x0 ∧ o1 = x1 ∧ (o2 == x2) = false) ∨ (o0 = x0 ∧ o1 = x1 ∧ o2 = x2 ∧ (o3 == x3) = false) ∨ (o0 = x0 ∧ o1 = x1 ∧ o2 = x2 ∧ o3 = x3 ∧ (o4 == x4) = false) ∨ (o0 = x0 ∧ o1 = x1 ∧ o2 = x2 ∧ o3 = x3 ∧ o4 = x4 ∧ (o5 == x5) = false) := by
  unfold insEq at he
  dsimp only at he
  cases h0 : (o0 == x0)
  · exact .inl rfl
  · have h0' : o0 = x0 := by simpa using h0
    cases h1 : (o1 == x1)
    · exact .inr (.inl ⟨h0', rfl⟩)
    · have h1' : o1 = x1 := by simpa using h1
      cases h2 : (o2 == x2)
      · exact .inr (.inr (.inl ⟨h0', h1', rfl⟩))
      · have h2' : o2 = x2 := by simpa using h2
        cases h3 : (o3 == x3)
        · exact .inr (.inr (.inr (.inl ⟨h0', h1', h2', rfl⟩)))
        · have h3' : o3 = x3 := by simpa using h3
          cases h4 : (o4 == x4)
          · exact .inr (.inr (.inr (.inr (.inl ⟨h0', h1', h2', h3', rfl⟩))))
          · have h4' : o4 = x4 := by simpa using h4
            rw [h0, h1, h2, h3, h4] at he
            exact .inr (.inr (.inr (.inr (.inr ⟨h0', h1', h2', h3', h4', by simpa using he⟩))))
theorem well_any (x : Ln) (h1 : x.label.length ≤ 9223372036854775807) (h2 : x.ins.name.length ≤ 9223372036854775807) (w : World) :
    Calls Tryz.prog 25 #[lnV x] w fun e w' => e = .returned (.bool (wellB x)) ∧ Below w.heap.size w w' := by
  obtain ⟨lab, o, d, a, b, n, nm⟩ := x
  dsimp only at h1 h2
  have HL := Lib.hid (fun w => label_any lab h1 w)
  have HR := Lib.hid (fun w => right_any ⟨o, d, a, b, n, nm⟩ h2 w)
  unfold insV at HR
  dsimp only at HR
  unfold lnV
  dsimp only
  have HB := Lib.hid ((Below.refl w.heap.size w).alloc (Nat.le_refl _) (.cells #[.string (strOf lab), .int .i64 o, .int .i64 d, .int .i64 a, .int .i64 b, .int .i64 n, .string (strOf nm)] 48))
  cases lab with
  | nil =>
    have HW : Hid (wellB ⟨[], ⟨o, d, a, b, n, nm⟩⟩ = rightI ⟨o, d, a, b, n, nm⟩) := by show _ = _; unfold wellB; rw [if_pos rfl]
    go_enter Tryz.func25, Tryz.ntmps25
    go_wp2_with (go_at_call 38; refine (HR.out _).mono ?_; rintro e w5 ⟨rfl, hb5⟩; have HB5 := Lib.hid hb5; clear hb5)
    go_ret
    exact ⟨ret_bool HW.out.symm, HB.out.trans (HB5.out.mono (by simp))⟩
  | cons ch lab =>
    have HW : Hid (wellB ⟨ch :: lab, ⟨o, d, a, b, n, nm⟩⟩ = (labelB (ch :: lab) && insEq ⟨o, d, a, b, n, nm⟩ (zeroI 0))) := by show _ = _; unfold wellB; rw [if_neg (by simp)]
    cases hl : labelB (ch :: lab) with
    | false =>
      rw [hl] at HL HW
      clear hl
      go_enter Tryz.func25, Tryz.ntmps25
      go_wp2_with (go_at_call 37; refine (HL.out _).mono ?_; rintro e w5 ⟨rfl, hb5⟩; have HB5 := Lib.hid hb5; have hc5 := bcell hb5; clear hb5)
      go_ret
      exact ⟨ret_bool (by rw [HW.out]; rfl), HB.out.trans (HB5.out.mono (by simp))⟩
    | true =>
      rw [hl] at HL HW
      clear hl
      cases hi : insEq ⟨o, d, a, b, n, nm⟩ (zeroI 0) with
      | true =>
        have e := (insEq_iff _ _).1 hi
        unfold zeroI at e
        simp only [Ins.mk.injEq] at e
        obtain ⟨rfl, rfl, rfl, rfl, rfl, rfl⟩ := e
        rw [hi] at HW
        clear hi
        go_enter Tryz.func25, Tryz.ntmps25
        go_wp2_with (go_at_call 37; refine (HL.out _).mono ?_; rintro e w5 ⟨rfl, hb5⟩; have HB5 := Lib.hid hb5; have hc5 := bcell hb5; clear hb5)
        go_ret
        exact ⟨ret_bool (by rw [HW.out]; rfl), HB.out.trans (HB5.out.mono (by simp))⟩
      | false =>
        have hd := ins_cases _ _ _ _ _ _ _ _ _ _ _ _ hi
        rw [hi] at HW
        clear hi HR
        rcases hd with h | ⟨rfl, h⟩ | ⟨rfl, rfl, h⟩ | ⟨rfl, rfl, rfl, h⟩ | ⟨rfl, rfl, rfl, rfl, h⟩ | ⟨rfl, rfl, rfl, rfl, rfl, h⟩
        all_goals
          go_enter Tryz.func25, Tryz.ntmps25
          go_wp2_with (go_at_call 37; refine (HL.out _).mono ?_; rintro e w5 ⟨rfl, hb5⟩; have HB5 := Lib.hid hb5; have hc5 := bcell hb5; clear hb5)
          go_ret
          exact ⟨ret_bool (by rw [HW.out]; rfl), HB.out.trans (HB5.out.mono (by simp))⟩
theorem known1_any (x : Ar) (nm : Bs) (b : Nat) (w : World) (h : w.cell? ⟨b, 5, none⟩ = some (.string (strOf nm))) :
    Calls Tryz.prog 40 #[arV x, .pointer (some ⟨b, 0, none⟩)] w fun e w' => e = .returned (.bool (x.name == nm)) ∧ Below w.heap.size w w' := by
  have hb := World.block_lt_of_cell? w _ h
  have hb' : b < w.heap.size := hb
  obtain ⟨s, z⟩ := x
  unfold arV
  go_enter Tryz.func40, Tryz.ntmps40
  go_wp2_with fail
  go_ret
  exact ⟨rfl, (Below.refl _ _).alloc (Nat.le_refl _) _⟩
theorem arIndex_any (l : List Ar) (v : Value) (nm : Bs) (b : Nat) (w : World) (hv : ArwAt w l v) (h : w.cell? ⟨b, 5, none⟩ = some (.string (strOf nm))) :
    Calls Tryz.prog 74 #[v, .func (.func 40) #[] #[.pointer (some ⟨b, 0, none⟩)]] w fun e w' => ∃ i : Int, e = .returned (.int .i64 i) ∧ decide (0 ≤ i) = l.any (fun a => a.name == nm) ∧ Below w.heap.size w w' := by
  obtain ⟨a, cap, rfl⟩ := RwAt.shape hv
  have hl := RwAt.len hv
  have HL := Lib.hid hv
  have HC := Lib.hid h
  have hl63 : (l.length : Int) ≤ 140737488355328 := by omega
  clear h hv
  go_enter Tryz.func74, Tryz.ntmps74
  go_wp2_with fail
  go_loopw [8] (fun s8 wr => ∃ k : Nat, k ≤ l.length ∧ s8 = .int .i64 k ∧ (∀ x, x ∈ l.take k → (x.name == nm) = false) ∧ Below w.heap.size w wr) (fun s8 _ => l.length - (intOf s8).toNat)
  case atStart => exact ⟨0, Nat.zero_le _, rfl, fun x hx => (by cases hx), Below.refl _ _⟩
  case round =>
    obtain ⟨k, hk, rfl, hno, hb⟩ := hrel
    have HB := Lib.hid hb; have HNO := Lib.hid hno
    have hsz := hb.size
    clear hb hno
    by_cases hlt : k < l.length
    · obtain ⟨b, off, rfl, hbl, c0, c1⟩ := ArwAt.at (ArwAt.old HL.out HB.out) hlt
      have htk : l.take (k + 1) = l.take k ++ [l[k]] := by rw [List.take_add_one, List.getElem?_eq_getElem hlt]; rfl
      have hin := List.getElem_mem hlt
      obtain ⟨x, hx⟩ : ∃ x, l[k] = x := ⟨_, rfl⟩
      rw [hx] at c0 c1 htk hin
      have HTK := Lib.hid htk
      have HIN := Lib.hid hin
      clear hx htk hin
      obtain ⟨s, z⟩ := x
      dsimp only at c0 c1
      have HK := Lib.hid (known1_any ⟨s, z⟩ nm _ wr (below_keeps HB.out HC.out))
      unfold arV at HK
      dsimp only at HK
      cases hq : (s == nm) with
      | true =>
        rw [hq] at HK
        have HQ := Lib.hid hq
        clear hq
        go_wp2_with (go_at_call 40; refine (HK.out).mono ?_; rintro e w5 ⟨rfl, hb5⟩; have HB5 := Lib.hid hb5; clear hb5)
        go_ret
        refine ⟨_, rfl, ?_, HB.out.trans (HB5.out.mono HB.out.size)⟩
        rw [List.any_eq_true.2 ⟨_, HIN.out, HQ.out⟩]
        simp
      | false =>
        rw [hq] at HK
        have HQ := Lib.hid hq
        clear hq
        go_wp2_with (go_at_call 40; refine (HK.out).mono ?_; rintro e w5 ⟨rfl, hb5⟩; have HB5 := Lib.hid hb5; clear hb5)
        refine ⟨⟨k + 1, hlt, by first | rfl | (simp; done) | go_num, ?_, HB.out.trans (HB5.out.mono HB.out.size)⟩, by simp [intOf]; omega⟩
        intro x hx
        rw [HTK.out] at hx
        rcases List.mem_append.1 hx with h | h
        · exact HNO.out x h
        · rw [List.mem_singleton.1 h]; exact HQ.out
    · have he : k = l.length := by omega
      subst he
      go_wp2_with fail
      go_ret
      refine ⟨_, rfl, ?_, HB.out⟩
      have := HNO.out
      rw [List.take_length] at this
      rw [List.any_eq_false.2 (fun x hx => by rw [this x hx]; decide)]
      decide
theorem arHas_any (l : List Ar) (v : Value) (nm : Bs) (b : Nat) (w : World) (hv : ArwAt w l v) (h : w.cell? ⟨b, 5, none⟩ = some (.string (strOf nm))) :
    Calls Tryz.prog 39 #[v, .func (.func 40) #[] #[.pointer (some ⟨b, 0, none⟩)]] w fun e w' => e = .returned (.bool (l.any (fun a => a.name == nm))) ∧ Below w.heap.size w w' := by
  have HI := Lib.hid (arIndex_any l v nm b w hv h)
  clear hv h
  go_enter Tryz.func39, Tryz.ntmps39
  go_wp2_with (go_at_call 74; refine (HI.out).mono ?_; rintro e w5 ⟨i, rfl, hi5, hb5⟩; have HI5 := Lib.hid hi5; have HB5 := Lib.hid hb5; clear hi5 hb5)
  go_ret
  exact ⟨ret_bool HI5.out, HB5.out⟩
end Go.Proofs.YtlkfmnabbmceeaaGreatDoor

namespace Go.Proofs.YtlkfmnabbmceeaaGreatDoor
open Go.RowKit
set_option maxHeartbeats 4000000
set_option maxRecDepth 100000

theorem placeF_some (l : List Ln) (s : Bs) : (placeF l s).isSome = (place l s).isSome := by unfold placeF; simp
theorem placeF_get (l : List Ln) (s : Bs) : (placeF l s).getD 0 = placeI l s := by
  unfold placeF placeI
  cases place l s <;> rfl
theorem known_any (c : Cd) (va vl : Value) (x : Ins) (B n : Nat) (w : World) (hc : CodeAt w c va vl) (hm : MapIs w B n (placeF c.lines)) (hx : x.name.length ≤ 9223372036854775807) :
    Calls Tryz.prog 26 #[.agg #[va, vl], insV x, .map (some B)] w fun e w' => e = .returned (.bool (knownB c x)) ∧ Below w.heap.size w w' := by
  obtain ⟨o, d, a, b, n, nm⟩ := x
  dsimp only at hx
  unfold insV
  dsimp only
  have hb2 := ((Below.refl w.heap.size w).alloc (Nat.le_refl _) (.cells #[va, vl] 26)).alloc (by simp) (.cells #[.int .i64 o, .int .i64 d, .int .i64 a, .int .i64 b, .int .i64 n, .string (strOf nm)] 36)
  have HC := Lib.hid (hc.old hb2)
  have HM := Lib.hid (hm.old hb2)
  have HB := Lib.hid hb2
  have HX := Lib.hid hx
  have hI := (OwnAt.new (w.alloc (.cells #[va, vl] 26)) [.int .i64 o, .int .i64 d, .int .i64 a, .int .i64 b, .int .i64 n, .string (strOf nm)] 36).at 5 _ rfl
  rw [show (w.alloc (.cells #[va, vl] 26)).heap.size = w.heap.size + 1 by simp] at hI
  have HI := Lib.hid hI
  clear hb2 hc hm hx hI
  by_cases ho : o = 17
  · subst ho
    have HR : Hid (knownB c ⟨17, d, a, b, n, nm⟩ = c.arrs.any (fun a => a.name == nm)) := by show _ = _; unfold knownB; rw [if_pos rfl]
    go_enter Tryz.func26, Tryz.ntmps26
    go_wp2_with (go_at_call 39; refine (arHas_any c.arrs va nm (w.heap.size + 1) _ HC.out.1 HI.out).mono ?_; rintro e w5 ⟨rfl, hb5⟩; have HB5 := Lib.hid hb5; clear hb5)
    go_ret
    exact ⟨ret_bool HR.out.symm, HB.out.trans (HB5.out.mono HB.out.size)⟩
  · have ho' : (o == 17) = false := by simpa using ho
    have HR : Hid (knownB c ⟨o, d, a, b, n, nm⟩ = ((placeF c.lines nm).isSome || nm == [])) := by show _ = _; unfold knownB; rw [if_neg ho, placeF_some]
    clear ho
    obtain ⟨v, hv⟩ : ∃ v, (placeF c.lines nm).getD 0 = v := ⟨_, rfl⟩
    have HV := Lib.hid hv
    clear hv
    cases hq : (placeF c.lines nm).isSome with
    | true =>
      have HQ := Lib.hid hq
      rw [hq] at HR
      clear hq
      go_enter Tryz.func26, Tryz.ntmps26
      go_wp2_with (at_lookup; refine wpList_mlookOk _ rfl _ _ rfl rfl HM.out _ rfl HX.out HV.out HQ.out ?_)
      go_ret
      exact ⟨ret_bool (by rw [HR.out]; rfl), HB.out⟩
    | false =>
      have HQ := Lib.hid hq
      rw [hq] at HR
      clear hq
      go_enter Tryz.func26, Tryz.ntmps26
      go_wp2_with (at_lookup; refine wpList_mlookOk _ rfl _ _ rfl rfl HM.out _ rfl HX.out HV.out HQ.out ?_)
      go_ret
      exact ⟨ret_bool (by rw [HR.out]; simp), HB.out⟩
theorem check_any (c : Cd) (va vl : Value) (w : World) (hc : CodeAt w c va vl) (hs : ShortC c) :
    Calls Tryz.prog 15 #[.agg #[va, vl]] w fun e w' => e = .returned (.tuple #[.int .i64 (checkC c).1, .int .i64 (checkC c).2]) ∧ Below w.heap.size w w' := by
  obtain ⟨a, cap, rfl⟩ := RwAt.shape hc.2
  have hl := RwAt.len hc.2
  have hl63 : (c.lines.length : Int) ≤ 140737488355328 := by omega
  have HC := Lib.hid (hc.old ((Below.refl w.heap.size w).alloc (Nat.le_refl _) (.cells #[va, .slice a c.lines.length cap] 26)))
  have HB := Lib.hid ((Below.refl w.heap.size w).alloc (Nat.le_refl _) (.cells #[va, .slice a c.lines.length cap] 26))
  have HS := Lib.hid hs
  have HO := Lib.hid (OwnAt.new w [va, .slice a c.lines.length cap] 26)
  clear hc hs
  by_cases hbig : 40000 < c.lines.length
  · have HR : Hid (checkC c = (1, 0)) := by show _ = _; unfold checkC; rw [if_pos hbig]
    have hbI : (40000 : Int) < (c.lines.length : Int) := by omega
    rw [HR.out]
    go_enter Tryz.func15, Tryz.ntmps15
    go_wp2_with fail
    go_ret2
    exact ⟨rfl, HB.out⟩
  · have hbI : ¬ ((40000 : Int) < (c.lines.length : Int)) := by omega
    have HA := Lib.hid (arrays_any c.arrs va _ HC.out.1 (fun x hx => by have := HS.out.arrs x hx; omega))
    by_cases hne : arrsE c.arrs = 0
    · rw [hne] at HA
      have HNE := Lib.hid hne
      have HBIG := Lib.hid hbig
      clear hne hbig
      go_enter Tryz.func15, Tryz.ntmps15
      go_wp2_with (first | (go_at_call 23; refine (HA.out).mono ?_; rintro e w5 ⟨rfl, hb5⟩; have HC5 := Lib.hid (HC.out.old hb5); have HO5 := Lib.hid (HO.out.old hb5); have HB5 := Lib.hid (HB.out.trans (hb5.mono HB.out.size)); have d0 := HO5.out.at 0 _ rfl; have d1 := HO5.out.at 1 _ rfl; clear hb5) | (go_at_call 16; refine (labels_any c va _ _ HC5.out (fun x hx => by have := (HS.out.lines x hx).label; omega)).mono ?_; rintro e w6 ⟨B, n, rfl, hm6, _, hb6⟩; have HM6 := Lib.hid hm6; have HC6 := Lib.hid (HC5.out.old hb6); have HO6 := Lib.hid (HO5.out.old hb6); have HB6 := Lib.hid (HB5.out.trans (hb6.mono HB5.out.size)); have e0 := HO6.out.at 0 _ rfl; have e1 := HO6.out.at 1 _ rfl; clear hb6 hm6))
      go_loopw [23] (fun s23 wr => ∃ k : Nat, k ≤ c.lines.length ∧ s23 = .int .i64 k ∧ (∀ j (hj : j < c.lines.length), j < k → lineE c j c.lines[j] = 0) ∧ Below w6.heap.size w6 wr) (fun s23 _ => c.lines.length - (intOf s23).toNat)
      case atStart => exact ⟨0, Nat.zero_le _, rfl, fun j _ hj => absurd hj (Nat.not_lt_zero _), Below.refl _ _⟩
      case round =>
        obtain ⟨k, hk, rfl, hno, hb⟩ := hrel
        have HNO := Lib.hid hno
        have hb7 : Below w6.heap.size w6 wr := hb
        have HMR := Lib.hid (HM6.out.old hb)
        have HCR := Lib.hid (HC6.out.old hb)
        have HOR := Lib.hid (HO6.out.old hb)
        have HBR := Lib.hid (HB6.out.trans (hb.mono HB6.out.size))
        have HB7 := Lib.hid hb7
        have hsz := HB7.out.size
        clear hno hb hb7 e0 e1
        by_cases hlt : k < c.lines.length
        · obtain ⟨b, off, rfl, hbl, c0, c1, c2, c3, c4, c5, c6⟩ := LnsAt.at HCR.out.2 hlt
          have hsh := HS.out.lines _ (List.getElem_mem hlt)
          obtain ⟨x, hx⟩ : ∃ x, c.lines[k] = x := ⟨_, rfl⟩
          have HX := Lib.hid hx
          rw [hx] at c0 c1 c2 c3 c4 c5 c6 hsh
          clear hx
          obtain ⟨h1, h2⟩ := hsh
          obtain ⟨lab, o, d, aa, bb, n1, nm⟩ := x
          dsimp only at c0 c1 c2 c3 c4 c5 c6 h1 h2
          have HW := Lib.hid (fun w => well_any ⟨lab, o, d, aa, bb, n1, nm⟩ (by dsimp only; omega) (by dsimp only; omega) w)
          have HK := Lib.hid (fun w hc hm => known_any c va (.slice (some ⟨b, off, none⟩) c.lines.length cap) ⟨o, d, aa, bb, n1, nm⟩ B n w hc hm (by dsimp only; omega))
          unfold lnV at HW
          unfold insV at HK
          dsimp only at HW HK
          have HB8 := Lib.hid ((Below.refl wr.heap.size wr).alloc (Nat.le_refl _) (.cells #[.string (strOf lab), .int .i64 o, .int .i64 d, .int .i64 aa, .int .i64 bb, .int .i64 n1, .string (strOf nm)] 48))
          have HX8 := Lib.hid (OwnAt.new wr [.string (strOf lab), .int .i64 o, .int .i64 d, .int .i64 aa, .int .i64 bb, .int .i64 n1, .string (strOf nm)] 48)
          have HFAIL : Hid (∀ z, lineE c k c.lines[k] = z → z ≠ 0 → checkC c = (z, (k : Int))) := fun z hz hz0 => by
            have := checkC_at (c := c) (by have := HBIG.out; omega) HNE.out k hlt (fun j hj => HNO.out j (by omega) hj) (by rw [hz]; exact hz0)
            rw [this, hz]
          have HE : Hid (lineE c k c.lines[k] = (if wellB ⟨lab, o, d, aa, bb, n1, nm⟩ = false then 60 else if (lab ≠ [] ∧ placeI c.lines lab < k) ∨ knownB c ⟨o, d, aa, bb, n1, nm⟩ = false then 61 else 0)) := by
            show _ = _
            rw [HX.out]; rfl
          cases hw : wellB ⟨lab, o, d, aa, bb, n1, nm⟩ with
          | false =>
            rw [hw] at HW HE
            clear hw
            have HR := Lib.hid (HFAIL.out 60 (by rw [HE.out]; rfl) (by decide))
            go_wp2_with (go_at_call 25; refine (HW.out _).mono ?_; rintro e w9 ⟨rfl, hb9⟩; have HB9 := Lib.hid hb9; clear hb9)
            go_ret2
            rw [HR.out]
            exact ⟨rfl, HBR.out.trans ((HB8.out.trans (HB9.out.mono HB8.out.size)).mono HBR.out.size)⟩
          | true =>
            rw [hw] at HW HE
            clear hw
            cases lab with
            | nil =>
              cases hkn : knownB c ⟨o, d, aa, bb, n1, nm⟩ with
              | false =>
                rw [hkn] at HK HE
                clear hkn
                have HR := Lib.hid (HFAIL.out 61 (by rw [HE.out]; simp) (by decide))
                go_wp2_with (first | (go_at_call 25; refine (HW.out _).mono ?_; rintro e w9 ⟨rfl, hb9⟩; have HB9 := Lib.hid (HB8.out.trans (hb9.mono HB8.out.size)); have HX9 := Lib.hid (HX8.out.old hb9); have HM9 := Lib.hid (HMR.out.old HB9.out); have HC9 := Lib.hid (HCR.out.old HB9.out); have HO9 := Lib.hid (HOR.out.old HB9.out); have p0 := HO9.out.at 0 _ rfl; have p1 := HO9.out.at 1 _ rfl; have x0 := HX9.out.at 0 _ rfl; have x1 := HX9.out.at 1 _ rfl; have x2 := HX9.out.at 2 _ rfl; have x3 := HX9.out.at 3 _ rfl; have x4 := HX9.out.at 4 _ rfl; have x5 := HX9.out.at 5 _ rfl; have x6 := HX9.out.at 6 _ rfl; clear hb9) | (go_at_call 26; refine (HK.out _ HC9.out HM9.out).mono ?_; rintro e w10 ⟨rfl, hb10⟩; have HB10 := Lib.hid (HB9.out.trans (hb10.mono HB9.out.size)); clear hb10))
                go_ret2
                rw [HR.out]
                exact ⟨rfl, HBR.out.trans (HB10.out.mono HBR.out.size)⟩
              | true =>
                rw [hkn] at HK HE
                clear hkn
                have HZ : Hid (lineE c k c.lines[k] = 0) := by show _ = _; rw [HE.out]; simp []
                go_wp2_with (first | (go_at_call 25; refine (HW.out _).mono ?_; rintro e w9 ⟨rfl, hb9⟩; have HB9 := Lib.hid (HB8.out.trans (hb9.mono HB8.out.size)); have HX9 := Lib.hid (HX8.out.old hb9); have HM9 := Lib.hid (HMR.out.old HB9.out); have HC9 := Lib.hid (HCR.out.old HB9.out); have HO9 := Lib.hid (HOR.out.old HB9.out); have p0 := HO9.out.at 0 _ rfl; have p1 := HO9.out.at 1 _ rfl; have x0 := HX9.out.at 0 _ rfl; have x1 := HX9.out.at 1 _ rfl; have x2 := HX9.out.at 2 _ rfl; have x3 := HX9.out.at 3 _ rfl; have x4 := HX9.out.at 4 _ rfl; have x5 := HX9.out.at 5 _ rfl; have x6 := HX9.out.at 6 _ rfl; clear hb9) | (go_at_call 26; refine (HK.out _ HC9.out HM9.out).mono ?_; rintro e w10 ⟨rfl, hb10⟩; have HB10 := Lib.hid (HB9.out.trans (hb10.mono HB9.out.size)); clear hb10))
                refine ⟨⟨k + 1, hlt, by first | rfl | (simp; done) | go_num, ?_, HB7.out.trans (HB10.out.mono HB7.out.size)⟩, by simp [intOf]; omega⟩
                intro j hj hjk
                rcases Nat.lt_succ_iff_lt_or_eq.1 hjk with h | rfl
                · exact HNO.out j hj h
                · exact HZ.out
            | cons ch lab =>
              obtain ⟨v, hv⟩ : ∃ v, placeI c.lines (ch :: lab) = v := ⟨_, rfl⟩
              rw [hv] at HE
              have HV : Hid ((placeF c.lines (ch :: lab)).getD 0 = v) := by show _ = _; rw [placeF_get]; exact hv
              clear hv
              by_cases hvk : v < (k : Int)
              · have HR := Lib.hid (HFAIL.out 61 (by rw [HE.out]; simp [hvk]) (by decide))
                go_wp2_with (first | (go_at_call 25; refine (HW.out _).mono ?_; rintro e w9 ⟨rfl, hb9⟩; have HB9 := Lib.hid (HB8.out.trans (hb9.mono HB8.out.size)); have HX9 := Lib.hid (HX8.out.old hb9); have HM9 := Lib.hid (HMR.out.old HB9.out); have HC9 := Lib.hid (HCR.out.old HB9.out); have HO9 := Lib.hid (HOR.out.old HB9.out); have p0 := HO9.out.at 0 _ rfl; have p1 := HO9.out.at 1 _ rfl; have x0 := HX9.out.at 0 _ rfl; have x1 := HX9.out.at 1 _ rfl; have x2 := HX9.out.at 2 _ rfl; have x3 := HX9.out.at 3 _ rfl; have x4 := HX9.out.at 4 _ rfl; have x5 := HX9.out.at 5 _ rfl; have x6 := HX9.out.at 6 _ rfl; have hrun9 := HM9.out.look (ch :: lab) (by simp only [List.length_cons] at h1 ⊢; omega); rw [HV.out] at hrun9; clear hb9))
                go_ret2
                rw [HR.out]
                exact ⟨rfl, HBR.out.trans (HB9.out.mono HBR.out.size)⟩
              · have HVK := Lib.hid hvk
                cases hkn : knownB c ⟨o, d, aa, bb, n1, nm⟩ with
                | false =>
                  rw [hkn] at HK HE
                  clear hkn
                  have HR := Lib.hid (HFAIL.out 61 (by rw [HE.out]; simp) (by decide))
                  go_wp2_with (first | (go_at_call 25; refine (HW.out _).mono ?_; rintro e w9 ⟨rfl, hb9⟩; have HB9 := Lib.hid (HB8.out.trans (hb9.mono HB8.out.size)); have HX9 := Lib.hid (HX8.out.old hb9); have HM9 := Lib.hid (HMR.out.old HB9.out); have HC9 := Lib.hid (HCR.out.old HB9.out); have HO9 := Lib.hid (HOR.out.old HB9.out); have p0 := HO9.out.at 0 _ rfl; have p1 := HO9.out.at 1 _ rfl; have x0 := HX9.out.at 0 _ rfl; have x1 := HX9.out.at 1 _ rfl; have x2 := HX9.out.at 2 _ rfl; have x3 := HX9.out.at 3 _ rfl; have x4 := HX9.out.at 4 _ rfl; have x5 := HX9.out.at 5 _ rfl; have x6 := HX9.out.at 6 _ rfl; have hrun9 := HM9.out.look (ch :: lab) (by simp only [List.length_cons] at h1 ⊢; omega); rw [HV.out] at hrun9; clear hb9) | (go_at_call 26; refine (HK.out _ HC9.out HM9.out).mono ?_; rintro e w10 ⟨rfl, hb10⟩; have HB10 := Lib.hid (HB9.out.trans (hb10.mono HB9.out.size)); clear hb10))
                  go_ret2
                  rw [HR.out]
                  exact ⟨rfl, HBR.out.trans (HB10.out.mono HBR.out.size)⟩
                | true =>
                  rw [hkn] at HK HE
                  clear hkn
                  have HZ : Hid (lineE c k c.lines[k] = 0) := by show _ = _; rw [HE.out]; simp [HVK.out]
                  go_wp2_with (first | (go_at_call 25; refine (HW.out _).mono ?_; rintro e w9 ⟨rfl, hb9⟩; have HB9 := Lib.hid (HB8.out.trans (hb9.mono HB8.out.size)); have HX9 := Lib.hid (HX8.out.old hb9); have HM9 := Lib.hid (HMR.out.old HB9.out); have HC9 := Lib.hid (HCR.out.old HB9.out); have HO9 := Lib.hid (HOR.out.old HB9.out); have p0 := HO9.out.at 0 _ rfl; have p1 := HO9.out.at 1 _ rfl; have x0 := HX9.out.at 0 _ rfl; have x1 := HX9.out.at 1 _ rfl; have x2 := HX9.out.at 2 _ rfl; have x3 := HX9.out.at 3 _ rfl; have x4 := HX9.out.at 4 _ rfl; have x5 := HX9.out.at 5 _ rfl; have x6 := HX9.out.at 6 _ rfl; have hrun9 := HM9.out.look (ch :: lab) (by simp only [List.length_cons] at h1 ⊢; omega); rw [HV.out] at hrun9; clear hb9) | (go_at_call 26; refine (HK.out _ HC9.out HM9.out).mono ?_; rintro e w10 ⟨rfl, hb10⟩; have HB10 := Lib.hid (HB9.out.trans (hb10.mono HB9.out.size)); clear hb10))
                  refine ⟨⟨k + 1, hlt, by first | rfl | (simp; done) | go_num, ?_, HB7.out.trans (HB10.out.mono HB7.out.size)⟩, by simp [intOf]; omega⟩
                  intro j hj hjk
                  rcases Nat.lt_succ_iff_lt_or_eq.1 hjk with h | rfl
                  · exact HNO.out j hj h
                  · exact HZ.out
        · have he : k = c.lines.length := by omega
          subst he
          have HR : Hid (checkC c = (0, 0)) := checkC_ok (by have := HBIG.out; omega) HNE.out (fun j hj => HNO.out j hj hj)
          go_wp2_with fail
          go_ret2
          rw [HR.out]
          exact ⟨rfl, HBR.out⟩
    · have HR : Hid (checkC c = (arrsE c.arrs, 0)) := by show _ = _; unfold checkC; rw [if_neg hbig, if_pos hne]
      obtain ⟨z, hz⟩ : ∃ z, arrsE c.arrs = z := ⟨_, rfl⟩
      rw [HR.out]
      rw [hz] at HA hne ⊢
      have hne' : (z == 0) = false := by simpa using hne
      clear hz hbig
      go_enter Tryz.func15, Tryz.ntmps15
      go_wp2_with (go_at_call 23; refine (HA.out).mono ?_; rintro e w5 ⟨rfl, hb5⟩; have HB5 := Lib.hid hb5; clear hb5)
      go_ret2
      exact ⟨rfl, HB.out.trans (HB5.out.mono HB.out.size)⟩
end Go.Proofs.YtlkfmnabbmceeaaGreatDoor
