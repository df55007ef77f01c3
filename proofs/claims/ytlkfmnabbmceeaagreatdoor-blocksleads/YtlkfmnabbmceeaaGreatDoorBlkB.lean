/-
  The keys of a set, sorted; a row of numbers of one's own, sorted, made compact. No condition but that there are at most a million.
  begins: the places at which blocks begin. Condition: what an instruction leads to is a place, or none.
  A row of numbers of one's own: begun empty, appended to by many, sorted, made compact. Condition: it holds at most a million.
-/
import Derived.Test.YtlkfmnabbmceeaaGreatDoorScanSh
import Derived.Test.YtlkfmnabbmceeaaGreatDoorBlkA
import Derived.Test.YtlkfmnabbmceeaaGreatDoorAsmC
import Derived.Maps.AppendAt
set_option linter.unusedVariables false
set_option linter.unusedSimpArgs false
namespace Go.Proofs.YtlkfmnabbmceeaaGreatDoor
open Go.RowKit Go.Maps Go.Sort Go.Shelf
set_option maxHeartbeats 4000000
set_option maxRecDepth 100000

theorem int_flat : ∀ l : List Int, l.flatMap intCells = l.map encZ
  | [] => rfl
  | x :: l => by rw [List.flatMap_cons, int_flat l]; rfl
theorem mem_keys {w : World} {B n : Nat} {D : DataW Unit} (h : w.ownsMap Tryz.prog 3 unitElem B n D) : (intKeys D).Nodup ∧ ∀ x, x ∈ intKeys D ↔ Maps.has D (.int .i64 x) = true := by
  have ht := h.tidy zkeys
  obtain ⟨es, rfl, hp⟩ := ht
  have hk : ∀ p ∈ es, ∃ x, p.1 = .int .i64 x := by
    obtain ⟨es', clock, hb, F, hs, hD⟩ := h
    have e : es = (es'.toList.map (WideElems.rg Tryz.prog 3 unitElem)).foldr DataW.insert [] := by injection hD
    intro p hp
    rw [e] at hp
    have hm := (WideShapes.sorted_perm _).mem_iff.1 hp
    have := Maps.fit_keys F p hm
    obtain ⟨v, hv⟩ := this
    obtain ⟨x, _, hx, _⟩ := Maps.keyOf_i64 Tryz.underlying3 hv
    exact ⟨x, hx⟩
  have hnd : (intKeys (.map es : DataW Unit)).Nodup := by
    show (es.map fun p => _root_.Go.intOf p.1).Nodup
    refine List.pairwise_map.2 (hp.imp_of_mem fun {p q} hp' hq' hne e => hne ?_)
    obtain ⟨a, ha⟩ := hk p hp'
    obtain ⟨b, hb⟩ := hk q hq'
    rw [ha, hb] at e ⊢
    exact congrArg _ e
  refine ⟨hnd, fun x => ?_⟩
  rw [has_eq, List.any_eq_true]
  show x ∈ es.map (fun p => _root_.Go.intOf p.1) ↔ _
  rw [List.mem_map]
  constructor
  · rintro ⟨p, hp', rfl⟩
    obtain ⟨a, ha⟩ := hk p hp'
    exact ⟨p, hp', by rw [ha]; simp [Lit.sameKey, _root_.Go.intOf]⟩
  · rintro ⟨p, hp', hs⟩
    obtain ⟨a, ha⟩ := hk p hp'
    rw [ha] at hs
    exact ⟨p, hp', by rw [ha]; simpa [Lit.sameKey, _root_.Go.intOf] using hs⟩
theorem keys_call (B : Nat) (W : World) : Calls Tryz.prog 29 #[.map (some B)] W fun e w' => e = .returned (.func (.func 42) #[] #[.pointer (some ⟨W.heap.size, 0, none⟩)]) ∧ w' = W.alloc (.cells #[.map (some B)] 70) :=
  (callsIn_wide (n := 5)).1 (AnyZI.keys_in Tryz.keysA Fence.wide 5 trivial rfl (some B) W)
theorem sortsA (m : Nat) : AnyZI.SortsIn Tryz.prog Tryz.sortedA_ren Fence.wide m :=
  ⟨fun blk off cap ss W hH hblk hsz => callsIn_wide.2 (AnyM.slices_Sort_int Tryz.sortA blk off cap ss W hH hblk hsz),
   fun p cap W => callsIn_wide.2 (AnyM.slices_Sort_int_none Tryz.sortA p cap W)⟩
theorem sorted_call (M B n : Nat) (f : Int → Bool) (W : World) (hc : W.cell? ⟨M, 0, none⟩ = some (.map (some B))) (h : SMapIs W B n f) (hn : n ≤ 1000000) :
    Calls Tryz.prog 28 #[.func (.func 42) #[] #[.pointer (some ⟨M, 0, none⟩)]] W fun e w' => ∃ (v : Value) (ss : List Int), e = .returned v ∧ ss.Nodup ∧ (∀ x, x ∈ ss ↔ f x = true) ∧ NumsOwn w' W.heap.size (ss.mergeSort leI) v ∧ Below W.heap.size W w' := by
  obtain ⟨D, hown, hf⟩ := h
  obtain ⟨hnd, hmem⟩ := mem_keys hown
  have hsz := hown.size_le
  have hseq : SeqGives Fence.wide 2 Tryz.prog 42 #[.pointer (some ⟨M, 0, none⟩)] encZ (fun ss => ss.Perm (intKeys D)) (Maps.size D) W :=
    AnyZI.keys_gives (ρ := Tryz.keysA_ren) { Tryz.keysA with } Fence.wide _ trivial rfl (by omega) M B n D _ (World.block_lt_of_cell? _ _ hc) hc hown
  have cS := AnyZI.sorted_in Tryz.sortedA Fence.wide 5 trivial trivial trivial trivial rfl (by omega) (sortsA _) (enters_of Tryz.func18 (by kernel_rfl) rfl) 42 #[.pointer (some ⟨M, 0, none⟩)] trivial (enters_of Tryz.func42 (by kernel_rfl) rfl) _ _ (by unfold maxLen; omega) (by omega) _ hseq
  refine ((callsIn_wide (n := 5)).1 cS).mono ?_
  rintro e w' ⟨v, ss, rfl, hS, hrow, _, hb⟩
  refine ⟨v, ss, rfl, hS.nodup_iff.2 hnd, fun x => ?_, ?_, hb⟩
  · rw [hS.mem_iff, hmem, hf]
  · unfold NumsOwn RwOwn
    rw [int_flat, List.length_mergeSort]
    exact hrow
end Go.Proofs.YtlkfmnabbmceeaaGreatDoor

namespace Go.Proofs.YtlkfmnabbmceeaaGreatDoor
open Go.RowKit
set_option maxHeartbeats 4000000
set_option maxRecDepth 100000

theorem SMapIs.alloc {w : World} {B n : Nat} {f : Int → Bool} (h : SMapIs w B n f) (o : Obj) : SMapIs (w.alloc o) B n f := h.old ((Below.refl _ _).alloc (Nat.le_refl _) _)
theorem SMapIs.made1 (w : World) : SMapIs (w.alloc (.map #[] 0)) w.heap.size 1 (fun _ => false) := (SMapIs.made w).mono (Nat.zero_le _)
theorem below_map {m B : Nat} {a w w' : World} (h : Below m a w) (hg : w.grownBy w' (some B)) (hB : m ≤ B) (hm : m ≤ w.heap.size) : Below m a w' := zbelow_own h hg hB hm
theorem putB_of {f : Int → Bool} {t : Int} {x : Ins} {i : Nat} : plS f t x i = (if turnsB x = true then putB (if 0 ≤ t then putB f t else f) ((i : Int) + 1) else (if 0 ≤ t then putB f t else f)) := rfl
theorem begins_any (I : List Ins) (T : List Int) (v1 v2 : Value) (w : World) (h1 : InsAt w I v1) (h2 : NumsAt w T v2) (hl : T.length = I.length) (hn : I.length ≤ 40000) (hT : ∀ j, j < T.length → T.getD j 0 ≤ (I.length : Int) ∧ -1 ≤ T.getD j 0) :
    Calls Tryz.prog 17 #[v1, v2] w fun e w' => ∃ v, e = .returned v ∧ NumsOwn w' w.heap.size (begL I T) v ∧ Below w.heap.size w w' := by
  obtain ⟨a1, c1, rfl⟩ := RwAt.shape h1
  obtain ⟨a2, c2, hs2⟩ := RwAt.shape h2
  rw [hl] at hs2
  subst hs2
  have HI := Lib.hid h1; have HT := Lib.hid h2; have HTB := Lib.hid hT
  have HLL := Lib.hid hl
  have hnI : (I.length : Int) ≤ 40000 := by omega
  have HTU := Lib.hid (fun x w => turns_any x w)
  have HSB := Lib.hid (fun (ss : List Int) hnd hm => sort_beg (I := I) (T := T) hl (fun j hj => (hT j hj).1) (ss := ss) hnd hm)
  clear h1 h2 hT
  obtain ⟨N, hN⟩ : ∃ N, I.length = N := ⟨_, rfl⟩
  have HN := Lib.hid hN
  rw [hN] at hn hnI hl HSB ⊢
  have hp0 : Hid (plI I T 0 = pl0 N) := Lib.hid (by rw [← hN]; rfl)
  clear hN
  go_enter Tryz.func17, Tryz.ntmps17
  have hmm := @run_makeMap Tryz.prog
  have hb0 : -9223372036854775808 ≤ (0 : Int) ∧ (0 : Int) ≤ 9223372036854775807 := by omega
  by_cases h0 : 0 < N
  case' pos =>
    have h0I : (0 : Int) < (N : Int) := by omega
    go_upto_region 4 with (at_mapUpdate; refine wpList_sput _ rfl _ _ _ rfl rfl (SMapIs.made _) (by omega) _ rfl hb0 rfl ?_; intro w5 hm5 hg5; have HM := Lib.hid hm5; have HB := Lib.hid (below_map ((Below.refl w.heap.size w).alloc (Nat.le_refl _) _) hg5 (Nat.le_refl _) (by simp)); clear hm5 hg5)
    have HM0 : Hid (SMapIs w5 w.heap.size 1 (plI I T 0)) := Lib.hid (by rw [hp0.out]; unfold pl0; rw [if_pos h0]; exact HM.out)
    clear HM h0I h0
  case' neg =>
    have h0I : ¬ (0 : Int) < (N : Int) := by omega
    go_upto_region 4 with (fail)
    obtain ⟨w5, hw5⟩ : ∃ w5, w.alloc (.map #[] 0) = w5 := ⟨_, rfl⟩
    have HM0 : Hid (SMapIs w5 w.heap.size 1 (plI I T 0)) := Lib.hid (by rw [hp0.out, ← hw5]; unfold pl0; rw [if_neg h0]; exact SMapIs.made1 w)
    have HB : Hid (Below w.heap.size w w5) := Lib.hid (by rw [← hw5]; exact (Below.refl w.heap.size w).alloc (Nat.le_refl _) _)
    rw [hw5]
    clear hw5 h0I h0
  all_goals
    clear hmm hb0
    go_wp2_with fail
    go_loopw [16] (fun s16 wr => ∃ i : Nat, i ≤ N ∧ s16 = .int .i64 i ∧ Hid (SMapIs wr w.heap.size (2 * i + 1) (plI I T i)) ∧ Hid (Below w.heap.size w wr)) (fun s16 _ => N - (intOf s16).toNat)
    case atStart => exact ⟨0, Nat.zero_le _, rfl, HM0, HB⟩
    case round =>
      obtain ⟨i, hi, rfl, HMR, HBR⟩ := hrel
      have hml := HMR.out.lt
      by_cases hlt : i < N
      · have hlI : i < I.length := by rw [HN.out]; exact hlt
        have hlT : i < T.length := by rw [hl]; exact hlt
        obtain ⟨bi, oi, rfl, hbi, i0, i1, i2, i3, i4, i5⟩ := InsAt.at (HI.out.old (HBR.out.mono (Nat.le_refl _))) hlI
        obtain ⟨bt, ot, rfl, hbt, t0⟩ := NumsAt.at (HT.out.old HBR.out) hlT
        have hpl : plI I T (i + 1) = plS (plI I T i) (T.getD i 0) (I.getD i (zeroI 0)) i := rfl
        have htb := HTB.out i hlT
        rw [List.getD_eq_getElem?_getD, List.getElem?_eq_getElem hlT] at hpl htb
        rw [List.getD_eq_getElem?_getD, List.getElem?_eq_getElem hlI] at hpl
        dsimp only [Option.getD_some] at hpl htb
        obtain ⟨t, ht⟩ : ∃ t, T[i] = t := ⟨_, rfl⟩
        obtain ⟨x, hx⟩ : ∃ x, I[i] = x := ⟨_, rfl⟩
        rw [ht] at hpl htb t0
        rw [hx] at hpl i0 i1 i2 i3 i4 i5
        have HPL := Lib.hid hpl
        rw [HN.out] at htb
        have HTX := Lib.hid (fun w => HTU.out x w)
        obtain ⟨b, hb⟩ : ∃ b, turnsB x = b := ⟨_, rfl⟩
        have HTS := Lib.hid hb
        obtain ⟨o, d, aa, bb, n1, nm⟩ := x
        unfold insV at HTX
        dsimp only at i0 i1 i2 i3 i4 i5 HTX
        rw [hb] at HTX
        clear ht hx hpl hb
        have htr : -9223372036854775808 ≤ t ∧ t ≤ 9223372036854775807 := by omega
        have hir : -9223372036854775808 ≤ (i : Int) + 1 ∧ (i : Int) + 1 ≤ 9223372036854775807 := by omega
        have hbW := (HBR.out).alloc HBR.out.size (.cells #[.int .i64 o, .int .i64 d, .int .i64 aa, .int .i64 bb, .int .i64 n1, .string (strOf nm)] 36)
        have HX := Lib.hid (OwnAt.new wr (insCells ⟨o, d, aa, bb, n1, nm⟩) 36)
        have HMX := Lib.hid (HMR.out.alloc (.cells #[.int .i64 o, .int .i64 d, .int .i64 aa, .int .i64 bb, .int .i64 n1, .string (strOf nm)] 36))
        have HBX := Lib.hid hbW
        obtain ⟨WX, hWX⟩ : ∃ WX, wr.alloc (.cells #[.int .i64 o, .int .i64 d, .int .i64 aa, .int .i64 bb, .int .i64 n1, .string (strOf nm)] 36) = WX := ⟨_, rfl⟩
        have HWX := Lib.hid hWX
        have hBR := HBR.out.size
        clear hbW hWX
        by_cases h0t : 0 ≤ t
        · cases b with
          | true =>
            have hfin : plI I T (i + 1) = putB (putB (plI I T i) t) ((i : Int) + 1) := by
              rw [HPL.out]; unfold plS; rw [if_pos HTS.out, if_pos h0t]
            have HFI := Lib.hid hfin
            clear hfin
            go_wp2_with (first
              | (at_mapUpdate; refine wpList_sput _ rfl _ _ _ rfl rfl HMX.out (by omega) _ rfl htr rfl ?_; intro w5 hm5 hg5; have HM5 := Lib.hid hm5; have HB5 := Lib.hid (below_map HBX.out hg5 (Nat.le_refl _) HBX.out.size); have HX5 := Lib.hid (HX.out.grown hg5 (by omega)); have y0 := HX5.out.at 0 _ rfl; have y1 := HX5.out.at 1 _ rfl; have y2 := HX5.out.at 2 _ rfl; have y3 := HX5.out.at 3 _ rfl; have y4 := HX5.out.at 4 _ rfl; have y5 := HX5.out.at 5 _ rfl; clear hm5 hg5)
              | (go_at_call 27; refine (HTX.out _).mono ?_; rintro e w7 ⟨rfl, hb7⟩; have HM7 := Lib.hid (HM5.out.old hb7); have HB7 := Lib.hid (HB5.out.trans (hb7.mono HB5.out.size)); clear hb7)
              | (at_mapUpdate; refine wpList_sput _ rfl _ _ _ rfl rfl HM7.out (by omega) _ rfl hir rfl ?_; intro w9 hm9 hg9; have HM9 := Lib.hid hm9; have HB9 := Lib.hid (below_map HB7.out hg9 (Nat.le_refl _) HB7.out.size); clear hm9 hg9))
            exact ⟨⟨i + 1, hlt, by first | rfl | (simp; done) | go_num, Lib.hid (by rw [HFI.out]; exact HM9.out.mono (by omega)), HB9⟩, by simp [intOf]; omega⟩
          | false =>
            have hfin : plI I T (i + 1) = putB (plI I T i) t := by
              rw [HPL.out]; unfold plS; rw [if_neg (by rw [HTS.out]; simp), if_pos h0t]
            have HFI := Lib.hid hfin
            clear hfin
            go_wp2_with (first
              | (at_mapUpdate; refine wpList_sput _ rfl _ _ _ rfl rfl HMX.out (by omega) _ rfl htr rfl ?_; intro w5 hm5 hg5; have HM5 := Lib.hid hm5; have HB5 := Lib.hid (below_map HBX.out hg5 (Nat.le_refl _) HBX.out.size); have HX5 := Lib.hid (HX.out.grown hg5 (by omega)); have y0 := HX5.out.at 0 _ rfl; have y1 := HX5.out.at 1 _ rfl; have y2 := HX5.out.at 2 _ rfl; have y3 := HX5.out.at 3 _ rfl; have y4 := HX5.out.at 4 _ rfl; have y5 := HX5.out.at 5 _ rfl; clear hm5 hg5)
              | (go_at_call 27; refine (HTX.out _).mono ?_; rintro e w7 ⟨rfl, hb7⟩; have HM7 := Lib.hid (HM5.out.old hb7); have HB7 := Lib.hid (HB5.out.trans (hb7.mono HB5.out.size)); clear hb7))
            exact ⟨⟨i + 1, hlt, by first | rfl | (simp; done) | go_num, Lib.hid (by rw [HFI.out]; exact HM7.out.mono (by omega)), HB7⟩, by simp [intOf]; omega⟩
        · cases b with
          | true =>
            have hfin : plI I T (i + 1) = putB (plI I T i) ((i : Int) + 1) := by
              rw [HPL.out]; unfold plS; rw [if_pos HTS.out, if_neg h0t]
            have HFI := Lib.hid hfin
            clear hfin
            go_wp2_with (first
              | (go_at_call 27; refine (HTX.out _).mono ?_; rintro e w7 ⟨rfl, hb7⟩; have HM7 := Lib.hid (HMX.out.old hb7); have HB7 := Lib.hid (HBX.out.trans (hb7.mono HBX.out.size)); clear hb7)
              | (at_mapUpdate; refine wpList_sput _ rfl _ _ _ rfl rfl HM7.out (by omega) _ rfl hir rfl ?_; intro w9 hm9 hg9; have HM9 := Lib.hid hm9; have HB9 := Lib.hid (below_map HB7.out hg9 (Nat.le_refl _) HB7.out.size); clear hm9 hg9))
            exact ⟨⟨i + 1, hlt, by first | rfl | (simp; done) | go_num, Lib.hid (by rw [HFI.out]; exact HM9.out.mono (by omega)), HB9⟩, by simp [intOf]; omega⟩
          | false =>
            have hfin : plI I T (i + 1) = plI I T i := by
              rw [HPL.out]; unfold plS; rw [if_neg (by rw [HTS.out]; simp), if_neg h0t]
            have HFI := Lib.hid hfin
            clear hfin
            go_wp2_with (go_at_call 27; refine (HTX.out _).mono ?_; rintro e w7 ⟨rfl, hb7⟩; have HM7 := Lib.hid (HMX.out.old hb7); have HB7 := Lib.hid (HBX.out.trans (hb7.mono HBX.out.size)); clear hb7)
            exact ⟨⟨i + 1, hlt, by first | rfl | (simp; done) | go_num, Lib.hid (by rw [HFI.out]; exact HM7.out.mono (by omega)), HB7⟩, by simp [intOf]; omega⟩
      · have he : i = N := by omega
        subst he
        have hir : -9223372036854775808 ≤ (i : Int) ∧ (i : Int) ≤ 9223372036854775807 := by omega
        go_wp2_with (first
          | (at_delete; refine wpList_sdel _ rfl _ _ rfl rfl HMR.out _ rfl hir ?_; intro w6 hm6 hg6; have HM6 := Lib.hid hm6; have HB6 := Lib.hid (below_map HBR.out hg6 (Nat.le_refl _) HBR.out.size); clear hm6 hg6)
          | (go_at_call 29; refine (keys_call _ _).mono ?_; rintro e w7 ⟨rfl, rfl⟩)
          | (go_at_call 28; refine (sorted_call _ _ _ _ _ ((OwnAt.new w6 [.map (some w.heap.size)] 70).at 0 _ rfl) (HM6.out.alloc _) (by omega)).mono ?_; rintro e w8 ⟨v, ss, rfl, hnd, hm, how, hb⟩; have HW := Lib.hid (how.base (base' := w.heap.size) (by have := HB6.out.size; simp; omega)); have HS := Lib.hid (HSB.out ss hnd hm); have HB8 := Lib.hid ((HB6.out.alloc HB6.out.size _).trans (hb.mono (by have := HB6.out.size; simp; omega))); clear hnd hm how hb))
        go_ret
        refine ⟨_, rfl, ?_, HB8.out⟩
        have := HW.out
        rwa [HS.out] at this
end Go.Proofs.YtlkfmnabbmceeaaGreatDoor

namespace Go.Proofs.YtlkfmnabbmceeaaGreatDoor
open Go.RowKit Go.Maps Go.Sort Go.Shelf
set_option maxHeartbeats 4000000
set_option maxRecDepth 100000

theorem nums_fresh (w : World) : NumsOwn (w.alloc (.cells #[] 3)) w.heap.size [] (.slice (some ⟨w.heap.size, 0, none⟩) 0 0) :=
  ⟨rfl, .inr ⟨w.heap.size, 0, #[], rfl, Nat.le_refl _, Array.getElem?_push_size, Nat.le_refl _, Nat.zero_le _, rfl, rfl⟩⟩
theorem kflat_len (M : List Int) : (M.flatMap intCells).length = M.length := by rw [int_flat, List.length_map]
theorem wpList_nums (w : World) {ops : Array Oper} {rest : List Oper} {o : Oper} {a : Act} {Q : Exit → Act → World → Prop} (hgd : o.guard = none) (s x : Operand) (ho : o.op = .call { callee := .builtin .append, args := #[s, x], argTypes := #[29, 29] })
    (base : Nat) (L : List Int) (v : Value) (hs : a.eval s = v) (hown : NumsOwn w base L v) (M : List Int) (ad : Addr) (m c : Nat) (hx : a.eval x = .slice (some ad) m c) (hm : M.length = m) (hnews : ∀ j u, (M.flatMap intCells)[j]? = some u → w.cell? (ad.add j) = some u)
    (hlen : L.length + m ≤ 1000000) (hbase : base ≤ w.heap.size)
    (h : ∀ v' w', NumsOwn w' base (L ++ M) v' → w.grownBy w' v.ownBlock → wpList Tryz.prog ops Q rest (a.put o.dst v') w') : wpList Tryz.prog ops Q (o :: rest) a w := by
  refine wpList_plain hgd fun K hK => ?_
  obtain ⟨i0, hi, hz0, hz1, hz2⟩ := info_parts infoNum
  obtain ⟨v', w', hr, h2, h3, h4, h5⟩ := run_append_own_at (P := Tryz.prog) w base 29 o.type 3 i0 _ 1 8 Tryz.underlying29 hi hz0 hz1 hz2 rfl (by decide) v L.length (L.flatMap intCells) hown ad m c (M.flatMap intCells) (by rw [kflat_len, hm, Nat.mul_one]) hnews (fun u hu => by obtain ⟨y, _, hy⟩ := List.mem_flatMap.1 hu; exact intCells_one y u hy) (by unfold maxLen; omega) (by omega) hbase
  unfold Oper.wp execOp
  simp only [ho, resolve, invoke, builtin, Sem.run_bind, Sem.run_pure, Result.andThen_ok, List.map_toArray, List.map_cons, List.map_nil, hs, hx, hr]
  refine hK _ _ (h v' w' ?_ h3)
  unfold NumsOwn RwOwn
  rw [List.length_append, List.flatMap_append, hm]
  exact h2
theorem sort_own (L : List Int) (v : Value) (base : Nat) (w : World) (h : NumsOwn w base L v) (hl : L.length ≤ 1000000) (hb : base ≤ w.heap.size) :
    Calls Tryz.prog 18 #[v] w fun e w' => e = .returned (.tuple #[]) ∧ NumsOwn w' base (L.mergeSort leI) v ∧ Below base w w' := by
  rcases h.2 with ⟨rfl, hz⟩ | ⟨g, cap, cur, rfl, hg, r0, r1, r2, r3, r4⟩
  · refine (AnyM.slices_Sort_int_none Tryz.sortA none 0 w).mono ?_
    rintro e w' ⟨rfl, rfl⟩
    have : L = [] := List.eq_nil_of_length_eq_zero hz
    subst this
    exact ⟨rfl, by simpa using h, Below.refl _ _⟩
  · have hH : Holds encZ w g 0 L.toArray := holds_of_block_i r0 (by rw [← int_flat]; simpa using r4)
    refine (AnyM.slices_Sort_int Tryz.sortA g 0 cap L w hH (Array.getElem?_eq_some_iff.1 r0).1 (by omega)).mono ?_
    rintro e w' ⟨rfl, n, os, rfl⟩
    refine ⟨rfl, ?_, below_grow (Below.refl _ _) (grownBy_sorted_i _) (fun k e => by cases e; exact hg) hb⟩
    unfold NumsOwn RwOwn
    rw [int_flat, List.length_mergeSort]
    exact ownsRow_sorted_i (by simp) hg r0 r1 r2 r3
theorem compact_len (L : List Int) : (Lib.compact L).length ≤ L.length := by
  have key : ∀ (d : Array Int) m, (Lib.compactUpTo d m).length ≤ m := by
    intro d m
    induction m with
    | zero => simp [Lib.compactUpTo]
    | succ m ih =>
      rw [Lib.compactUpTo_succ, List.length_append]
      split
      · simp; omega
      · simp; omega
  unfold Lib.compact
  exact Nat.le_trans (key _ _) (by simp)
theorem compact_own (L : List Int) (v : Value) (base : Nat) (w : World) (h : NumsOwn w base L v) (hl : L.length ≤ 1000000) (hb : base ≤ w.heap.size) :
    Calls Tryz.prog 19 #[v] w fun e w' => ∃ v', e = .returned v' ∧ NumsAt w' (Lib.compact L) v' ∧ (v'.ownBlock = none ∨ v'.ownBlock = v.ownBlock) ∧ Below base w w' := by
  rcases h.2 with ⟨rfl, hz⟩ | ⟨g, cap, cur, rfl, hg, r0, r1, r2, r3, r4⟩
  · refine (Tryz.slices_Compact_int_empty none 0 w).mono ?_
    rintro e w' ⟨rfl, rfl⟩
    have : L = [] := List.eq_nil_of_length_eq_zero hz
    subst this
    exact ⟨_, rfl, RwAt.nil _ _ _, .inl rfl, Below.refl _ _⟩
  · have hH : Holds encZ w g 0 L.toArray := holds_of_block_i r0 (by rw [← int_flat]; simpa using r4)
    refine (Tryz.slices_Compact_int g 0 cap L w hH (by omega) r1).mono ?_
    rintro e w' ⟨rfl, q, rfl⟩
    have hcl := compact_len L
    obtain ⟨C, hC⟩ : ∃ C, Lib.compact L ++ List.replicate (L.length - (Lib.compact L).length) 0 = C := ⟨_, rfl⟩
    have hCl : C.length = L.length := by rw [← hC]; simp; omega
    have ho := ownsRow_sorted_i (os := #[]) (n := q) (e := 3) (ts := C) hCl hg r0 r1 r2 r3
    have hgr := grownBy_sorted_i (w := w) (g := g) (n := q) (os := #[]) C.toArray
    rw [grow_empty] at ho hgr
    rw [hC]
    refine ⟨_, rfl, ?_, .inr rfl, below_grow (Below.refl _ _) hgr (fun k e => by cases e; exact hg) hb⟩
    refine ⟨_, cap, g, 0, rfl, .inr rfl, by omega, fun i p hi j u hj => ?_⟩
    have hj0 : j = 0 := by have := (List.getElem?_eq_some_iff.1 hj).1; rw [intCells_len] at this; omega
    subst hj0
    have hu : u = encZ p := by simpa [intCells] using hj.symm
    subst hu
    have hci : C[i]? = some p := by
      rw [← hC, List.getElem?_append_left (List.getElem?_eq_some_iff.1 hi).1]; exact hi
    have := ho.cells (g := g) rfl i (encZ p) (by rw [List.getElem?_map, hci]; rfl)
    have h3 : (⟨g, 0, none⟩ : Addr).add i = ⟨g, i, none⟩ := by unfold Addr.add; split <;> simp_all
    rw [h3] at this
    simpa using this
end Go.Proofs.YtlkfmnabbmceeaaGreatDoor
