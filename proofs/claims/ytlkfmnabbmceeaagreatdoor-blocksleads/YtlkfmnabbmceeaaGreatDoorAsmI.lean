/-
  strings.Split at a line feed: a text's lines. Conditions: the text is no longer than a hundred thousand bytes; the library's variables lie in memory.
  Parse: the code of a text. Conditions: the text is no longer than a hundred thousand bytes; the library's variables lie in memory.
-/
import Derived.Test.YtlkfmnabbmceeaaGreatDoorAsmG
import Derived.Test.YtlkfmnabbmceeaaGreatDoorAsmA
import Derived.Test.YtlkfmnabbmceeaaGreatDoorAsmH
import Derived.Test.YtlkfmnabbmceeaaGreatDoorAsmD
set_option linter.unusedVariables false
set_option linter.unusedSimpArgs false
namespace Go.Proofs.YtlkfmnabbmceeaaGreatDoor
open Go.RowKit
set_option maxHeartbeats 4000000
set_option maxRecDepth 100000

theorem first_feed : ∀ s : Bs, (10 : UInt8) ∈ s → ∃ w r, s = w ++ 10 :: r ∧ (10 : UInt8) ∉ w
  | [], h => by cases h
  | c :: s, h => by
    by_cases hc : c = 10
    · exact ⟨[], s, by rw [hc]; rfl, by simp⟩
    · have h' : (10 : UInt8) ∈ s := by
        rcases List.mem_cons.1 h with e | e
        · exact absurd e.symm hc
        · exact e
      obtain ⟨w, r, e, hw⟩ := first_feed s h'
      exact ⟨c :: w, r, by rw [e]; rfl, by
        intro hm
        rcases List.mem_cons.1 hm with e' | e'
        · exact hc e'.symm
        · exact hw e'⟩
theorem lines_split : ∀ (n : Nat) (s : Bs), s.length ≤ n → Lib.splitK [10] 0 (Lib.count s [10]) s = linesG [] s := by
  intro n
  induction n with
  | zero =>
    intro s hn
    have : s = [] := List.eq_nil_of_length_eq_zero (by omega)
    subst this
    rfl
  | succ n ih =>
    intro s hn
    by_cases h : (10 : UInt8) ∈ s
    · obtain ⟨w, r, e, hw⟩ := first_feed s h
      subst e
      have hi := index_one 10 w r hw
      have hd : (w ++ 10 :: r).drop (w.length + ([10] : Bs).length) = r := by
        have : w.length + ([10] : Bs).length = (w ++ [10]).length := by simp
        rw [this, show w ++ 10 :: r = (w ++ [10]) ++ r by simp, List.drop_left]
      rw [Lib.count_hit (by simp) hi, hd, Nat.add_comm]
      unfold Lib.splitK
      have hm : ¬ (Lib.index (w ++ 10 :: r) [10] == -1) = true := by rw [hi]; simp
      rw [if_neg hm, hi]
      have e1 : ((w.length : Int)).toNat = w.length := by omega
      rw [e1, hd, ih r (by simp at hn; omega), lines_app _ _ _ hw, lines_feed]
      simp
    · have hi := index_no 10 s h
      rw [Lib.count_miss hi]
      have := lines_app s [] [] h
      rw [List.append_nil] at this
      rw [this]; rfl
theorem lines_len (s cur : Bs) : (linesG cur s).length ≤ s.length + 1 := by
  induction s generalizing cur with
  | nil => simp [linesG]
  | cons c s ih =>
    unfold linesG
    split
    · have := ih []; simp only [List.length_cons]; omega
    · have := ih (cur ++ [c]); simp only [List.length_cons]; omega
theorem lines_each (s cur : Bs) : ∀ t, t ∈ linesG cur s → t.length ≤ cur.length + s.length := by
  induction s generalizing cur with
  | nil => intro t ht; unfold linesG at ht; rw [List.mem_singleton.1 ht]; simp
  | cons c s ih =>
    intro t ht
    unfold linesG at ht
    split at ht
    · rcases List.mem_cons.1 ht with rfl | ht
      · simp
      · have := ih [] t ht; simp only [List.length_nil, List.length_cons] at this ⊢; omega
    · have := ih (cur ++ [c]) t ht
      simp only [List.length_append, List.length_cons, List.length_nil] at this ⊢; omega
def strVs (L : List Bs) : List Value := L.map fun l => .string (strOf l)
theorem strVs_at (L : List Bs) (i : Nat) (hi : i < L.length) : (strVs L)[i]? = some (.string (strOf L[i])) := by
  unfold strVs
  rw [List.getElem?_map, List.getElem?_eq_getElem hi]; rfl
theorem split_any (s : Bs) (hz : s.length ≤ 100000) (w : World) (hl : ILib w) :
    Calls Tryz.prog 20 #[.string (strOf s), .string (strOf [10])] w fun e w' => e = .returned (.slice (some ⟨w.heap.size, 0, none⟩) (linesG [] s).length (linesG [] s).length) ∧ OwnAt w' w.heap.size (strVs (linesG [] s)) 9 ∧ Below w.heap.size w w' := by
  obtain ⟨m, hm⟩ := hl.max
  have hd : (strOf s).data.toList = s := by simp [strOf]
  have hk := Lib.splitB_data (strOf [10]) 0 (Lib.countB (strOf s) (strOf [10])) (strOf s)
  have e1 : Lib.countB (strOf s) (strOf [10]) = Lib.count s [10] := rfl
  have hk2 : (Lib.splitB (strOf [10]) 0 (Lib.countB (strOf s) (strOf [10])) (strOf s)).map (·.data.toList) = linesG [] s := by
    rw [hk, e1]
    exact lines_split s.length s (Nat.le_refl _)
  have hlen := Lib.splitB_all (strOf [10]) (by decide) 0 _ (strOf s) rfl
  have hvs : (Lib.splitB (strOf [10]) 0 (Lib.countB (strOf s) (strOf [10])) (strOf s)).map Value.string = strVs (linesG [] s) := by
    rw [← hk2]
    unfold strVs
    rw [List.map_map]
    refine List.map_congr_left fun x _ => ?_
    simp [← strOf_data]
  have hll : (linesG [] s).length = Lib.countB (strOf s) (strOf [10]) + 1 := by
    rw [← hk2, List.length_map]; exact hlen
  refine (Tryz.strings_Split (strOf s) (strOf [10]) m w (by show s.toArray.size < _; simp; omega) hm (by decide)).mono ?_
  rintro e w' ⟨rfl, rfl⟩
  rw [hvs, ← hll]
  exact ⟨rfl, OwnAt.new w _ _, (Below.refl _ _).alloc (Nat.le_refl _) _⟩
end Go.Proofs.YtlkfmnabbmceeaaGreatDoor

namespace Go.Proofs.YtlkfmnabbmceeaaGreatDoor
open Go.RowKit
set_option maxHeartbeats 4000000
set_option maxRecDepth 100000

theorem takes_snoc : ∀ (ts : List Bs) (x : Src) (i : Int) (t : Bs), takesA x i (ts ++ [t]) = ((match takesA x i ts with | .inr n => Sum.inr n | .inl s => (match takeA s (bareA t) (i + ts.length + 1) with | none => Sum.inr (i + ts.length + 1) | some s' => Sum.inl s')) : Src ⊕ Int)
  | [], x, i, t => by
    show (match takeA x (bareA t) (i + 1) with | none => (Sum.inr (i + 1) : Src ⊕ Int) | some x' => Sum.inl x') = (match takeA x (bareA t) (i + ((0 : Nat) : Int) + 1) with | none => (Sum.inr (i + ((0 : Nat) : Int) + 1) : Src ⊕ Int) | some s' => Sum.inl s')
    rw [show i + ((0 : Nat) : Int) + 1 = i + 1 by omega]
  | u :: ts, x, i, t => by
    have e : ∀ us, takesA x i (u :: us) = (match takeA x (bareA u) (i + 1) with | none => (Sum.inr (i + 1) : Src ⊕ Int) | some x' => takesA x' (i + 1) us) := fun us => rfl
    rw [List.cons_append, e, e]
    cases takeA x (bareA u) (i + 1) with
    | none => rfl
    | some y =>
      dsimp only
      rw [takes_snoc ts y (i + 1) t]
      rw [show i + 1 + (ts.length : Int) + 1 = i + ((u :: ts).length : Int) + 1 by simp; omega]
theorem takes_bad : ∀ (ts us : List Bs) (x : Src) (i n : Int), takesA x i ts = .inr n → takesA x i (ts ++ us) = .inr n
  | [], us, x, i, n, h => by cases h
  | t :: ts, us, x, i, n, h => by
    have h : (match takeA x (bareA t) (i + 1) with | none => (.inr (i + 1) : Src ⊕ Int) | some x' => takesA x' (i + 1) ts) = .inr n := h
    show (match takeA x (bareA t) (i + 1) with | none => (.inr (i + 1) : Src ⊕ Int) | some x' => takesA x' (i + 1) (ts ++ us)) = .inr n
    cases hq : takeA x (bareA t) (i + 1) with
    | none => rw [hq] at h; exact h
    | some y => rw [hq] at h; exact takes_bad ts us y (i + 1) n h
theorem right_name {x : Ins} (h : rightI x = true) : x.name.length ≤ 40 := by
  obtain ⟨h1, _, h3⟩ := right_open h
  obtain ⟨_, g⟩ := (foldR_spec x _ _ _).1 h1
  by_cases hm : (76 : UInt8) ∈ (rowI x.op).2
  · exact (label_mem (h3.1 hm)).2.2
  · have := congrArg Ins.name g
    simp only [if_neg hm] at this
    rw [this]; simp [zeroI]
/-- What has been taken is short. -/
structure SrcOk (s : Src) (k : Nat) : Prop where
  arrs : s.arrs.length ≤ k
  lines : s.lines.length ≤ k
  wh : s.wh.length = s.lines.length
  an : ∀ a, a ∈ s.arrs → a.name.length ≤ 100000
  ln : ∀ x, x ∈ s.lines → x.label.length ≤ 100000 ∧ x.ins.name.length ≤ 40
theorem arrayA_len (t : Bs) (a : Ar) (h : arrayA t = some a) : a.name.length ≤ t.length := by
  unfold arrayA at h
  split at h
  · have hc := (cut_len (t.drop 7) [32]).1
    split at h
    · split at h
      · cases h
        show (Lib.cut (t.drop 7) [32]).1.length ≤ _
        rw [List.length_drop] at hc; omega
      · cases h
    · cases h
  · cases h
theorem lineA_len (t : Bs) : (lineA t).1.label.length ≤ t.length ∧ (lineA t).1.ins.name.length ≤ 40 := by
  unfold lineA
  split
  · refine ⟨?_, by simp [zeroI]⟩
    show (t.take (t.length - 1)).length ≤ _
    rw [List.length_take]; omega
  · cases hp : parseI t with
    | none => exact ⟨by simp, by simp [zeroI]⟩
    | some x => exact ⟨by simp, right_name (parseI_sound t x hp).1⟩
theorem SrcOk.step {s s' : Src} {k : Nat} (h : SrcOk s k) (t : Bs) (n : Int) (ht : t.length ≤ 100000) (hs : takeA s t n = some s') : SrcOk s' (k + 1) := by
  have h1 := h.arrs; have h2 := h.lines; have h3 := h.wh
  unfold takeA at hs
  split at hs
  · cases hs
    exact ⟨by omega, by omega, h.wh, h.an, h.ln⟩
  · split at hs
    · obtain ⟨a, ha, e⟩ := Option.map_eq_some_iff.1 hs
      subst e
      refine ⟨by simp; omega, by show s.lines.length ≤ _; omega, h.wh, ?_, h.ln⟩
      intro b hb
      rcases List.mem_append.1 hb with h' | h'
      · exact h.an b h'
      · rw [List.mem_singleton.1 h']
        have := arrayA_len t a ha; omega
    · split at hs
      · cases hs
        refine ⟨by show s.arrs.length ≤ _; omega, by simp; omega, by simp [h3], h.an, ?_⟩
        intro b hb
        rcases List.mem_append.1 hb with h' | h'
        · exact h.ln b h'
        · rw [List.mem_singleton.1 h']
          have := lineA_len t; exact ⟨by omega, this.2⟩
      · cases hs
theorem SrcOk.short {s : Src} {k : Nat} (h : SrcOk s k) : ShortC ⟨s.arrs, s.lines⟩ :=
  ⟨fun x hx => ⟨by have := (h.ln x hx).1; omega, by have := (h.ln x hx).2; omega⟩, fun a ha => by have := h.an a ha; omega⟩
theorem results_row_tmp2 {P : Program} {fn : Func} {p u v : Tmp} {ty : TypeId} (h : fn.results = #[.cell p ty, .tmp u, .tmp v]) (tmps : Array Value) (w : World) (g : Nat) (t : TypeId) (cs : List Value) (d : TypeDesc)
    (hp : tmps.getD p undef = .pointer (some ⟨g, 0, none⟩)) (hg : OwnAt w g cs t) (hu : P.underlying ty = some d) (hd : (match d with | .struct _ | .array _ _ => true | _ => false) = true) (hi : (P.info? ty).map (·.size) = some cs.length) :
    (results fn tmps).run P w = .ok (.tuple #[.agg cs.toArray, tmps.getD u undef, tmps.getD v undef]) w := by
  have hp' : tmps[p]?.getD undef = .pointer (some ⟨g, 0, none⟩) := by simpa using hp
  simp only [results, h]
  simp [Sem.run_bind, hp', asAddr, run_loadVar_row w g t ty cs.toArray (0, 0) d hg hu hd (by simpa using hi), Result.andThen]
theorem row_set {α : Type} {e : TypeId} {cf : α → List Value} {k : Nat} {w : World} {base : Nat} {L : List α} {v : Value} (h : RwOwn e cf k w base L v) {b : Nat} (hb : b < base) (i : Nat) (x : Value) : RwOwn e cf k (w.setCell ⟨b, i, none⟩ x) base L v :=
  RwOwn.set h (fun e => by have := (RwOwn.lt h b e).1; omega) i x
theorem code_nil {w : World} {X base R : Nat} {sr : Src} {va vl wv : Value} (h : SrcIn w X base sr va vl wv) (h1 : sr.arrs.length ≤ 140737488355328) (h2 : sr.lines.length ≤ 140737488355328) (hR : R < base) (x y : Value) : CodeAt ((w.setCell ⟨R, 0, none⟩ x).setCell ⟨R, 1, none⟩ y) ⟨sr.arrs, sr.lines⟩ va vl :=
  ⟨RwOwn.nilv (row_set (row_set h.ar hR 0 x) hR 1 y) h1 arCells_len, RwOwn.nilv (row_set (row_set h.ln hR 0 x) hR 1 y) h2 lnCells_len⟩
theorem checkL_pos (c : Cd) : ∀ (l : List Ln) (i : Nat), 0 ≤ (checkL c i l).2
  | [], i => Int.le_refl _
  | x :: l, i => by
    unfold checkL
    split
    · exact checkL_pos c l (i + 1)
    · exact Int.natCast_nonneg i
theorem check_pos (c : Cd) : 0 ≤ (checkC c).2 := by
  unfold checkC
  split
  · exact Int.le_refl _
  · split
    · exact Int.le_refl _
    · exact checkL_pos c _ _
theorem nilCode (w : World) : CodeAt w cd0 (.slice none 0 0) (.slice none 0 0) := ⟨RwAt.nil _ _ _, RwAt.nil _ _ _⟩
theorem cd0_short : ShortC cd0 := ⟨fun x h => (by cases h), fun x h => (by cases h)⟩
theorem codeParse_any (s : Bs) (hz : s.length ≤ 100000) (w : World) (hl : ILib w) :
    Calls Tryz.prog 12 #[.string (strOf s)] w fun e w' => ∃ va vl, e = .returned (.tuple #[.agg #[va, vl], .int .i64 (parseA s).2.1, .int .i64 (parseA s).2.2]) ∧ CodeAt w' (parseA s).1 va vl ∧ ShortC (parseA s).1 ∧ Below w.heap.size w w' := by
  have hzI : (s.length : Int) ≤ 100000 := by omega
  have hssI : ((strOf s).size : Int) ≤ 100000 := by show ((s.toArray.size : Nat) : Int) ≤ _; simp; omega
  have HB1 := Lib.hid (((Below.refl w.heap.size w).alloc (Nat.le_refl _) (.cells #[.slice none 0 0, .slice none 0 0] 26)).alloc (by simp) (.cells #[.slice none 0 0, .slice none 0 0, .slice none 0 0] 61))
  have HR1 := Lib.hid ((OwnAt.new w [.slice none 0 0, .slice none 0 0] 26).old ((Below.refl _ _).alloc (Nat.le_refl _) (.cells #[.slice none 0 0, .slice none 0 0, .slice none 0 0] 61)))
  have hx1 := OwnAt.new (w.alloc (.cells #[.slice none 0 0, .slice none 0 0] 26)) [.slice none 0 0, .slice none 0 0, .slice none 0 0] 61
  rw [show (w.alloc (.cells #[.slice none 0 0, .slice none 0 0] 26)).heap.size = w.heap.size + 1 by simp] at hx1
  have HX1 := Lib.hid hx1
  have HL1 := Lib.hid (hl.old HB1.out)
  have HSP := Lib.hid (fun w' h => split_any s hz w' h)
  have HPA : Hid (parseA s = (match takesA ⟨[], [], []⟩ 0 (linesG [] s) with | .inr n => (cd0, 60, n) | .inl x => endA x)) := by
    show _ = _
    unfold parseA
    rw [if_neg (by omega)]
    cases takesA ⟨[], [], []⟩ 0 (linesG [] s) <;> rfl
  have hLn := lines_len s []
  have hLe := lines_each s []
  have HL0 := Lib.hid hl
  clear hx1 hl
  generalize linesG [] s = L at *
  have HLE := Lib.hid hLe
  have hL63 : (L.length : Int) ≤ 100001 := by omega
  clear hLe
  go_enter Tryz.func12, Tryz.ntmps12
  go_wp2_with (go_at_call 20; refine (HSP.out _ HL1.out).mono ?_; rintro e w5 ⟨rfl, ho5, hb5⟩; have HO5 := Lib.hid ho5; have HR5 := Lib.hid (HR1.out.old hb5); have HX5 := Lib.hid (HX1.out.old hb5); have HL5 := Lib.hid (HL1.out.old hb5); have HB5 := Lib.hid (HB1.out.trans (hb5.mono HB1.out.size)); clear ho5 hb5)
  have hsz1 : ((w.alloc (.cells #[.slice none 0 0, .slice none 0 0] 26)).alloc (.cells #[.slice none 0 0, .slice none 0 0, .slice none 0 0] 61)).heap.size = w.heap.size + 1 + 1 := by simp
  rw [hsz1] at HO5
  obtain ⟨X, hX⟩ : ∃ X, w.heap.size + 1 = X := ⟨_, rfl⟩
  obtain ⟨R, hR⟩ : ∃ R, w.heap.size = R := ⟨_, rfl⟩
  have hRX : R + 1 = X := by omega
  rw [hX] at HO5 HX5 ⊢
  rw [hR] at HR5 HB5 ⊢
  have hOl := HO5.out.lt
  have HN5 := HO5.out
  clear hsz1 hX HR1 HX1 HB1 HL1 HSP
  go_loopw [19] (fun s19 wr => ∃ k : Nat, k ≤ L.length ∧ s19 = .int .i64 k ∧ ∃ (sr : Src) (va vl wv : Value), Hid (takesA ⟨[], [], []⟩ 0 (L.take k) = .inl sr) ∧ Hid (SrcOk sr k) ∧ Hid (SrcIn wr X (X + 1 + 1) sr va vl wv) ∧ Hid (KeepX X (X + 1 + 1) w5 wr)) (fun s19 _ => L.length - (intOf s19).toNat)
  case atStart => exact ⟨0, Nat.zero_le _, rfl, ⟨[], [], []⟩, _, _, _, Lib.hid rfl, Lib.hid ⟨Nat.le_refl _, Nat.le_refl _, rfl, fun a h => (by cases h), fun a h => (by cases h)⟩, Lib.hid ⟨HX5.out, RwOwn.zero _ _ _ _ _, RwOwn.zero _ _ _ _ _, RwOwn.zero _ _ _ _ _, by omega, by omega, fun g h => (by cases h), fun g h => (by cases h), fun g h => (by cases h)⟩, Lib.hid (KeepX.refl _ _ _)⟩
  case round =>
    obtain ⟨k, hk, rfl, sr, va, vl, wv, H1, H2, H3, H4⟩ := hrel
    have hk4 := H4.out
    have HOR : Hid (OwnAt wr (X + 1) (strVs L) 9) := (hk4.block (X + 1) (by omega) (by omega)).trans HO5.out
    have HRR : Hid (OwnAt wr R [.slice none 0 0, .slice none 0 0] 26) := (hk4.block R (by omega) (by omega)).trans HR5.out
    have HBR : Hid (Below R w wr) := HB5.out.trans ((hk4.below (by omega)).mono (by omega))
    have HLR : Hid (ILib wr) := HL0.out.old (by rw [hR]; exact HBR.out)
    clear hk4
    by_cases hlt : k < L.length
    · have c0 := HOR.out.at k _ (strVs_at L k hlt)
      have hol := HOR.out.lt
      have hlen := HLE.out _ (List.getElem_mem hlt)
      have htk : L.take (k + 1) = L.take k ++ [L[k]] := by rw [List.take_add_one, List.getElem?_eq_getElem hlt]; rfl
      have hsn := takes_snoc (L.take k) ⟨[], [], []⟩ 0 L[k]
      have htl : (L.take k).length = k := by rw [List.length_take]; omega
      rw [← htk, H1.out, htl] at hsn
      dsimp only at hsn
      rw [show (0 : Int) + (k : Int) + 1 = (k : Int) + 1 by omega] at hsn
      obtain ⟨tx, htx⟩ : ∃ tx, L[k] = tx := ⟨_, rfl⟩
      rw [htx] at c0 hlen hsn
      have HTX := Lib.hid htx
      simp only [List.length_nil, Nat.zero_add] at hlen
      have hlen2 : tx.length ≤ 100000 := Nat.le_trans hlen hz
      have HBA := Lib.hid (fun w' h => bare_any tx hlen2 w' h)
      have hbl := Nat.le_trans (bare_len tx) hlen2
      have HTA := Lib.hid (fun w' h hl => take_any X (X + 1 + 1) sr va vl wv (bareA tx) ((k : Int) + 1) w' h hbl ⟨by have := H2.out.arrs; omega, by have := H2.out.lines; omega, by have := H2.out.lines; have := H2.out.wh; omega⟩ hl)
      have HSN := Lib.hid hsn
      have HST := Lib.hid (fun s' h => H2.out.step (s' := s') (bareA tx) ((k : Int) + 1) hbl h)
      clear htk htl hsn htx hlen hlen2 hbl
      generalize bareA tx = bt at *
      cases hta : takeA sr bt ((k : Int) + 1) with
      | none =>
        rw [hta] at HTA HSN
        clear hta
        have HPE : Hid (parseA s = (cd0, 60, (k : Int) + 1)) := by
          show _ = _
          have h1 := takes_bad (L.take (k + 1)) (L.drop (k + 1)) _ _ _ HSN.out
          rw [List.take_append_drop] at h1
          rw [HPA.out, h1]
        go_wp2_with (first | (go_at_call 22; refine (HBA.out _ HLR.out).mono ?_; rintro e w7 ⟨rfl, hb7⟩; have HS7 := Lib.hid (H3.out.old hb7); have HL7 := Lib.hid (HLR.out.old hb7); have HK7 := Lib.hid (H4.out.trans (KeepX.of_below hb7 H3.out.le)); clear hb7) | (go_at_call 21; refine (HTA.out _ HS7.out HL7.out).mono ?_; rintro e w8 ⟨rfl, _, hk8⟩; have hk9 := HK7.out.trans hk8; have HR8 : Hid (OwnAt w8 R [.slice none 0 0, .slice none 0 0] 26) := (hk9.block R (by omega) (by omega)).trans HR5.out; have HB8 : Hid (Below R w w8) := HB5.out.trans ((hk9.below (by omega)).mono (by omega)); have r0 := HR8.out.at 0 _ rfl; have r1 := HR8.out.at 1 _ rfl; have f0 := HR8.out.fz 0; have f1 := HR8.out.fz 1; clear hk8 hk9))
        try simp only [Exit.inBlock, Exit.then]
        refine bodyPost_ret (results_row_tmp2 (P := Tryz.prog) (t := 26) rfl _ _ R [.slice none 0 0, .slice none 0 0] _ rfl ((HR8.out.set 0 (.slice none 0 0)).set 1 (.slice none 0 0)) Tryz.underlying26 rfl (by kernel_rfl)) rfl ?_
        rw [HPE.out]
        exact ⟨.slice none 0 0, .slice none 0 0, rfl, nilCode _, cd0_short, by (try rw [hR]); exact zbelow_set (zbelow_set HB8.out (Nat.le_refl _) 0 _) (Nat.le_refl _) 1 _⟩
      | some s2 =>
        have HOK := Lib.hid (HST.out s2 hta)
        rw [hta] at HTA HSN
        clear hta
        go_wp2_with (first | (go_at_call 22; refine (HBA.out _ HLR.out).mono ?_; rintro e w7 ⟨rfl, hb7⟩; have HS7 := Lib.hid (H3.out.old hb7); have HL7 := Lib.hid (HLR.out.old hb7); have HK7 := Lib.hid (H4.out.trans (KeepX.of_below hb7 H3.out.le)); clear hb7) | (go_at_call 21; refine (HTA.out _ HS7.out HL7.out).mono ?_; rintro e w8 ⟨rfl, hs8, hk8⟩; obtain ⟨va8, vl8, wv8, hsi8⟩ := hs8 s2 rfl; have HSI8 := Lib.hid hsi8; have HK8 := Lib.hid (HK7.out.trans hk8); clear hs8 hk8 hsi8))
        exact ⟨⟨k + 1, hlt, by first | rfl | (simp; done) | go_num, s2, va8, vl8, wv8, Lib.hid HSN.out, HOK, HSI8, HK8⟩, by simp [intOf]; omega⟩
    · have he : k = L.length := by omega
      subst he
      rw [List.take_length] at H1
      obtain ⟨qa, ca, hva⟩ := RwOwn.shape H3.out.ar
      obtain ⟨ql, cl, hvl⟩ := RwOwn.shape H3.out.ln
      subst hva
      subst hvl
      have HPE : Hid (parseA s = endA sr) := by show _ = _; rw [HPA.out, H1.out]
      have x0 := H3.out.x.at 0 _ rfl
      have x1 := H3.out.x.at 1 _ rfl
      have x2 := H3.out.x.at 2 _ rfl
      have hlnl := H2.out.lines
      have hwhl := H2.out.wh
      have HSH := Lib.hid H2.out.short
      have hcode : CodeAt wr ⟨sr.arrs, sr.lines⟩ (.slice qa sr.arrs.length ca) (.slice ql sr.lines.length cl) := ⟨RwOwn.nilv H3.out.ar (by show sr.arrs.length ≤ _; have := H2.out.arrs; omega) arCells_len, RwOwn.nilv H3.out.ln (by show sr.lines.length ≤ _; omega) lnCells_len⟩
      have HCD := Lib.hid hcode
      have HCH := Lib.hid (check_any ⟨sr.arrs, sr.lines⟩ (.slice qa sr.arrs.length ca) (.slice ql sr.lines.length cl) wr hcode H2.out.short)
      obtain ⟨e1, he1⟩ : ∃ e1, (checkC ⟨sr.arrs, sr.lines⟩).1 = e1 := ⟨_, rfl⟩
      obtain ⟨a1, ha1⟩ : ∃ a1, (checkC ⟨sr.arrs, sr.lines⟩).2 = a1 := ⟨_, rfl⟩
      have HE1 := Lib.hid he1
      have HA1 := Lib.hid ha1
      rw [he1, ha1] at HCH
      have hEnd : endA sr = (if e1 = 0 then (⟨sr.arrs, sr.lines⟩, 0, 0) else if arrsE sr.arrs ≠ 0 ∨ (sr.wh.length : Int) ≤ a1 ∨ e1 = 1 then (cd0, e1, 1) else (cd0, e1, sr.wh.getD a1.toNat 0)) := by
        unfold endA
        rw [he1, ha1]
      have HEND := Lib.hid hEnd
      clear hcode he1 ha1 hEnd
      by_cases hz0 : e1 = 0
      · subst hz0
        rw [if_pos rfl] at HEND
        go_wp2_with (go_at_call 15; refine (HCH.out).mono ?_; rintro e w6 ⟨rfl, hb6⟩; have HS6 := Lib.hid (H3.out.old hb6); have HC6 := Lib.hid (HCD.out.old hb6); have HR6 := Lib.hid (HRR.out.old hb6); have HB6 := Lib.hid (HBR.out.trans (hb6.mono (by have := HRR.out.lt; omega))); have y0 := HS6.out.x.at 0 _ rfl; have y1 := HS6.out.x.at 1 _ rfl; have y2 := HS6.out.x.at 2 _ rfl; have r0 := HR6.out.at 0 _ rfl; have r1 := HR6.out.at 1 _ rfl; have f0 := HR6.out.fz 0; have f1 := HR6.out.fz 1; clear hb6)
        try simp only [Exit.inBlock, Exit.then]
        refine bodyPost_ret (results_row_tmp2 (P := Tryz.prog) (t := 26) rfl _ _ R [.slice qa sr.arrs.length ca, .slice ql sr.lines.length cl] _ rfl ((HR6.out.set 0 (.slice qa sr.arrs.length ca)).set 1 (.slice ql sr.lines.length cl)) Tryz.underlying26 rfl (by kernel_rfl)) rfl ?_
        rw [HPE.out, HEND.out]
        exact ⟨.slice qa sr.arrs.length ca, .slice ql sr.lines.length cl, rfl, code_nil HS6.out (by show sr.arrs.length ≤ _; have := H2.out.arrs; omega) (by show sr.lines.length ≤ _; omega) (by omega) _ _, HSH.out, by (try rw [hR]); exact zbelow_set (zbelow_set HB6.out (Nat.le_refl _) 0 _) (Nat.le_refl _) 1 _⟩
      · have hz0' : (e1 == 0) = false := by simpa using hz0
        rw [if_neg hz0] at HEND
        obtain ⟨q3, c3, hwv⟩ := RwOwn.shape H3.out.nm
        obtain ⟨ae, hae⟩ : ∃ ae, arrsE sr.arrs = ae := ⟨_, rfl⟩
        have HAE := Lib.hid hae
        rw [hae] at HEND
        clear hae
        subst hwv
        by_cases hA : ae = 0
        · subst hA
          by_cases hW : (sr.wh.length : Int) ≤ a1
          · rw [if_pos (.inr (.inl hW))] at HEND
            go_wp2_with (first | (go_at_call 15; refine (HCH.out).mono ?_; rintro e w6 ⟨rfl, hb6⟩; have HS6 := Lib.hid (H3.out.old hb6); have HC6 := Lib.hid (HCD.out.old hb6); have HR6 := Lib.hid (HRR.out.old hb6); have HB6 := Lib.hid (HBR.out.trans (hb6.mono (by have := HRR.out.lt; omega))); have y0 := HS6.out.x.at 0 _ rfl; have y1 := HS6.out.x.at 1 _ rfl; have y2 := HS6.out.x.at 2 _ rfl; have r0 := HR6.out.at 0 _ rfl; have r1 := HR6.out.at 1 _ rfl; have f0 := HR6.out.fz 0; have f1 := HR6.out.fz 1; clear hb6) | (go_at_call 23; refine (arrays_any sr.arrs (.slice qa sr.arrs.length ca) w6 HC6.out.1 (fun x hx => by have := HSH.out.arrs x hx; omega)).mono ?_; rw [HAE.out]; rintro e w7 ⟨rfl, hb7⟩; have HS7 := Lib.hid (HS6.out.old hb7); have HR7 := Lib.hid (HR6.out.old hb7); have HB7 := Lib.hid (HB6.out.trans (hb7.mono (by have := HR6.out.lt; omega))); have z0 := HS7.out.x.at 0 _ rfl; have z1 := HS7.out.x.at 1 _ rfl; have z2 := HS7.out.x.at 2 _ rfl; have s0 := HR7.out.at 0 _ rfl; have s1 := HR7.out.at 1 _ rfl; have g0 := HR7.out.fz 0; have g1 := HR7.out.fz 1; clear hb7))
            try simp only [Exit.inBlock, Exit.then]
            refine bodyPost_ret (results_row_tmp2 (P := Tryz.prog) (t := 26) rfl _ _ R [.slice none 0 0, .slice none 0 0] _ rfl ((HR7.out.set 0 (.slice none 0 0)).set 1 (.slice none 0 0)) Tryz.underlying26 rfl (by kernel_rfl)) rfl ?_
            rw [HPE.out, HEND.out]
            exact ⟨.slice none 0 0, .slice none 0 0, rfl, nilCode _, cd0_short, by (try rw [hR]); exact zbelow_set (zbelow_set HB7.out (Nat.le_refl _) 0 _) (Nat.le_refl _) 1 _⟩
          · by_cases h1 : e1 = 1
            · rw [if_pos (.inr (.inr h1))] at HEND
              subst h1
              go_wp2_with (first | (go_at_call 15; refine (HCH.out).mono ?_; rintro e w6 ⟨rfl, hb6⟩; have HS6 := Lib.hid (H3.out.old hb6); have HC6 := Lib.hid (HCD.out.old hb6); have HR6 := Lib.hid (HRR.out.old hb6); have HB6 := Lib.hid (HBR.out.trans (hb6.mono (by have := HRR.out.lt; omega))); have y0 := HS6.out.x.at 0 _ rfl; have y1 := HS6.out.x.at 1 _ rfl; have y2 := HS6.out.x.at 2 _ rfl; have r0 := HR6.out.at 0 _ rfl; have r1 := HR6.out.at 1 _ rfl; have f0 := HR6.out.fz 0; have f1 := HR6.out.fz 1; clear hb6) | (go_at_call 23; refine (arrays_any sr.arrs (.slice qa sr.arrs.length ca) w6 HC6.out.1 (fun x hx => by have := HSH.out.arrs x hx; omega)).mono ?_; rw [HAE.out]; rintro e w7 ⟨rfl, hb7⟩; have HS7 := Lib.hid (HS6.out.old hb7); have HR7 := Lib.hid (HR6.out.old hb7); have HB7 := Lib.hid (HB6.out.trans (hb7.mono (by have := HR6.out.lt; omega))); have z0 := HS7.out.x.at 0 _ rfl; have z1 := HS7.out.x.at 1 _ rfl; have z2 := HS7.out.x.at 2 _ rfl; have s0 := HR7.out.at 0 _ rfl; have s1 := HR7.out.at 1 _ rfl; have g0 := HR7.out.fz 0; have g1 := HR7.out.fz 1; clear hb7))
              try simp only [Exit.inBlock, Exit.then]
              refine bodyPost_ret (results_row_tmp2 (P := Tryz.prog) (t := 26) rfl _ _ R [.slice none 0 0, .slice none 0 0] _ rfl ((HR7.out.set 0 (.slice none 0 0)).set 1 (.slice none 0 0)) Tryz.underlying26 rfl (by kernel_rfl)) rfl ?_
              rw [HPE.out, HEND.out]
              exact ⟨.slice none 0 0, .slice none 0 0, rfl, nilCode _, cd0_short, by (try rw [hR]); exact zbelow_set (zbelow_set HB7.out (Nat.le_refl _) 0 _) (Nat.le_refl _) 1 _⟩
            · have h1' : (e1 == 1) = false := by simpa using h1
              rw [if_neg (by simp [h1]; omega)] at HEND
              have hW' : a1 < (sr.wh.length : Int) := by omega
              go_upto_region 15 with (first | (go_at_call 15; refine (HCH.out).mono ?_; rintro e w6 ⟨rfl, hb6⟩; have HS6 := Lib.hid (H3.out.old hb6); have HC6 := Lib.hid (HCD.out.old hb6); have HR6 := Lib.hid (HRR.out.old hb6); have HB6 := Lib.hid (HBR.out.trans (hb6.mono (by have := HRR.out.lt; omega))); have y0 := HS6.out.x.at 0 _ rfl; have y1 := HS6.out.x.at 1 _ rfl; have y2 := HS6.out.x.at 2 _ rfl; have r0 := HR6.out.at 0 _ rfl; have r1 := HR6.out.at 1 _ rfl; have f0 := HR6.out.fz 0; have f1 := HR6.out.fz 1; clear hb6) | (go_at_call 23; refine (arrays_any sr.arrs (.slice qa sr.arrs.length ca) w6 HC6.out.1 (fun x hx => by have := HSH.out.arrs x hx; omega)).mono ?_; rw [HAE.out]; rintro e w7 ⟨rfl, hb7⟩; have HS7 := Lib.hid (HS6.out.old hb7); have HR7 := Lib.hid (HR6.out.old hb7); have HB7 := Lib.hid (HB6.out.trans (hb7.mono (by have := HR6.out.lt; omega))); have z0 := HS7.out.x.at 0 _ rfl; have z1 := HS7.out.x.at 1 _ rfl; have z2 := HS7.out.x.at 2 _ rfl; have s0 := HR7.out.at 0 _ rfl; have s1 := HR7.out.at 1 _ rfl; have g0 := HR7.out.fz 0; have g1 := HR7.out.fz 1; clear hb7))
              have hnn : 0 ≤ a1 := by rw [← HA1.out]; exact check_pos _
              obtain ⟨jn, hjn⟩ : ∃ jn : Nat, a1 = jn := ⟨a1.toNat, by omega⟩
              have hjl : jn < sr.wh.length := by omega
              obtain ⟨bb, oo, hq3, hbb, hcell⟩ := NumsAt.at (RwOwn.nilv HS7.out.nm (by omega) intCells_len) hjl
              subst hq3
              subst hjn
              have hbR : R < bb := by have := (RwOwn.lt HS7.out.nm bb rfl).1; omega
              have hbR1 : bb ≠ R := by omega
              have hbR2 : R ≠ bb := by omega
              go_region
              go_wp2_with fail
              try simp only [Exit.inBlock, Exit.then]
              refine bodyPost_ret (results_row_tmp2 (P := Tryz.prog) (t := 26) rfl _ _ R [.slice none 0 0, .slice none 0 0] _ rfl (((HR7.out.set 0 (.slice none 0 0)).set 1 (.slice none 0 0)).old (Below.refl _ _).drew) Tryz.underlying26 rfl (by kernel_rfl)) rfl ?_
              rw [HPE.out, HEND.out]
              have hgd : sr.wh.getD ((jn : Int)).toNat 0 = sr.wh[jn] := by rw [Int.toNat_natCast, List.getD_eq_getElem?_getD, List.getElem?_eq_getElem hjl]; rfl
              refine ⟨.slice none 0 0, .slice none 0 0, ?_, nilCode _, cd0_short, ?_⟩
              · show _ = Ending.returned (.tuple #[_, .int .i64 e1, .int .i64 (sr.wh.getD ((jn : Int)).toNat 0)])
                rw [hgd]; rfl
              · (try rw [hR])
                exact (zbelow_set (zbelow_set HB7.out (Nat.le_refl _) 0 _) (Nat.le_refl _) 1 _).drew
        · have hA' : (ae == 0) = false := by simpa using hA
          rw [if_pos (.inl hA)] at HEND
          go_wp2_with (first | (go_at_call 15; refine (HCH.out).mono ?_; rintro e w6 ⟨rfl, hb6⟩; have HS6 := Lib.hid (H3.out.old hb6); have HC6 := Lib.hid (HCD.out.old hb6); have HR6 := Lib.hid (HRR.out.old hb6); have HB6 := Lib.hid (HBR.out.trans (hb6.mono (by have := HRR.out.lt; omega))); have y0 := HS6.out.x.at 0 _ rfl; have y1 := HS6.out.x.at 1 _ rfl; have y2 := HS6.out.x.at 2 _ rfl; have r0 := HR6.out.at 0 _ rfl; have r1 := HR6.out.at 1 _ rfl; have f0 := HR6.out.fz 0; have f1 := HR6.out.fz 1; clear hb6) | (go_at_call 23; refine (arrays_any sr.arrs (.slice qa sr.arrs.length ca) w6 HC6.out.1 (fun x hx => by have := HSH.out.arrs x hx; omega)).mono ?_; rw [HAE.out]; rintro e w7 ⟨rfl, hb7⟩; have HS7 := Lib.hid (HS6.out.old hb7); have HR7 := Lib.hid (HR6.out.old hb7); have HB7 := Lib.hid (HB6.out.trans (hb7.mono (by have := HR6.out.lt; omega))); have z0 := HS7.out.x.at 0 _ rfl; have z1 := HS7.out.x.at 1 _ rfl; have z2 := HS7.out.x.at 2 _ rfl; have s0 := HR7.out.at 0 _ rfl; have s1 := HR7.out.at 1 _ rfl; have g0 := HR7.out.fz 0; have g1 := HR7.out.fz 1; clear hb7))
          try simp only [Exit.inBlock, Exit.then]
          refine bodyPost_ret (results_row_tmp2 (P := Tryz.prog) (t := 26) rfl _ _ R [.slice none 0 0, .slice none 0 0] _ rfl ((HR7.out.set 0 (.slice none 0 0)).set 1 (.slice none 0 0)) Tryz.underlying26 rfl (by kernel_rfl)) rfl ?_
          rw [HPE.out, HEND.out]
          exact ⟨.slice none 0 0, .slice none 0 0, rfl, nilCode _, cd0_short, by (try rw [hR]); exact zbelow_set (zbelow_set HB7.out (Nat.le_refl _) 0 _) (Nat.le_refl _) 1 _⟩
end Go.Proofs.YtlkfmnabbmceeaaGreatDoor
