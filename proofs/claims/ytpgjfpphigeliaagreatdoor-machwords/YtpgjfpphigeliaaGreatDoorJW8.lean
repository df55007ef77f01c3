/-
  MachWords: an array behind the others, in whatever order. Conditions: the code lies in memory.
-/
import Derived.Test.YtpgjfpphigeliaaGreatDoorMachF
import Derived.Test.YtpgjfpphigeliaaGreatDoorAsmH
import Derived.Test.YtpgjfpphigeliaaGreatDoorAsmJ
set_option linter.unusedVariables false
set_option linter.unusedSimpArgs false
namespace Go.Proofs.YtpgjfpphigeliaaGreatDoor
open Go.RowKit
set_option maxHeartbeats 8000000
set_option maxRecDepth 100000

structure VW8 (X : Nat) (va vl : Value) (ls : List Ar) (k : Nat) (nm : List UInt8) (sz : Int) (base : Nat) (W : World) (L : Nat → Bool) (ts : Nat) (nb : Nat) (gn : Nat) (cn : Nat) (z29 z30 z31 z32 z33 z34 z35 z36 z37 z38 z39 : Value) (wx : World) : Prop where
  ord : L 11 = true → ∀ j, j < 11 → L j = true
  p4_2 : L 4 = true → L 2 = true
  p5_2 : L 5 = true → L 2 = true
  p7_2 : L 7 = true → L 2 = true
  p7_5 : L 7 = true → L 5 = true
  p8_2 : L 8 = true → L 2 = true
  p8_5 : L 8 = true → L 5 = true
  p9_2 : L 9 = true → L 2 = true
  p9_5 : L 9 = true → L 5 = true
  p9_8 : L 9 = true → L 8 = true
  p11_9 : L 11 = true → L 9 = true
  c0 : L 0 = true → z29 = .pointer (some ⟨X, 0, none⟩)
  c1 : L 1 = true → z30 = va
  c2 : L 2 = true → z31 = .slice (some ⟨ts, 0, none⟩) 6 6
  c3 : L 3 = true → z32 = .int .i64 k
  c4 : L 4 = true → z33 = .pointer (some ⟨ts, k, none⟩)
  c5 : L 5 = true → z34 = .string (strOf nm)
  c6 : L 6 = true → z35 = .int .i64 sz
  c7 : L 7 = true → z36 = .agg #[.string (strOf nm), .int .i64 sz]
  c8 : L 8 = true → z37 = .slice (some ⟨nb, 0, none⟩) 1 1
  c9 : L 9 = true → z38 = .slice (some ⟨gn, 0, none⟩) (ls.length + 1) cn
  c10 : L 10 = true → z39 = .pointer (some ⟨X, 0, none⟩)
  fr : Fr3 X va vl W wx
  x : L 11 = false → OwnAt wx X [va, vl] 27
  x3 : L 11 = true → OwnAt wx X [.slice (some ⟨gn, 0, none⟩) (ls.length + 1) cn, vl] 27
  lo : L 9 = false → ArwOwn wx base ls va
  bs : L 2 = true → L 9 = false → OwnAt wx ts [.string ⟨#[97]⟩, .string ⟨#[98]⟩, .string ⟨#[99]⟩, .string ⟨#[100]⟩, .string ⟨#[101]⟩, .string ⟨#[102]⟩] 9 ∧ W.heap.size ≤ ts
  r8 : L 8 = true → L 9 = false → OwnAt wx nb [.string (strOf nm), .int .i64 sz] 37 ∧ W.heap.size ≤ nb
  r9 : L 9 = true → ArwOwn wx base (ls ++ [⟨nm, sz⟩]) (.slice (some ⟨gn, 0, none⟩) (ls.length + 1) cn) ∧ (va.ownBlock = some gn ∨ W.heap.size ≤ gn)
def IW8 (X : Nat) (va vl : Value) (ls : List Ar) (k : Nat) (nm : List UInt8) (sz : Int) (base : Nat) (W : World) (q0 q1 q2 q3 q4 q5 q7 q10 q11 q12 q13 q14 q15 q16 q17 q18 q19 q20 q21 q22 q23 q24 q25 q26 q27 q28 q40 q41 q42 q43 q44 q45 q46 q47 q48 q49 q50 q51 q52 q53 q54 q55 q56 q57 q58 q59 q60 q61 q62 q63 q64 q65 q66 q67 q68 q69 q70 q71 q72 q73 q74 q75 q76 q77 q78 q79 q80 q81 q82 q83 q84 q85 q86 q87 q88 q89 q90 q91 q92 q93 q94 q95 q96 q97 q98 q99 q100 q101 q102 q103 q104 q105 q106 q107 q108 q109 q110 q111 q112 q113 q114 q115 q116 q117 q118 q119 q120 q121 q122 q123 q124 q125 q126 : Value) (L : Nat → Bool) (a' : Act) (w' : World) : Prop :=
  ∃ ts : Nat, ∃ nb : Nat, ∃ gn : Nat, ∃ cn : Nat, ∃ z29 z30 z31 z32 z33 z34 z35 z36 z37 z38 z39 : Value, VW8 X va vl ls k nm sz base W L ts nb gn cn z29 z30 z31 z32 z33 z34 z35 z36 z37 z38 z39 w' ∧ a' = ⟨[q0, q1, q2, q3, q4, q5, .pointer (some ⟨X, 0, none⟩), q7, .int .i64 k, .int .i64 sz, q10, q11, q12, q13, q14, q15, q16, q17, q18, q19, q20, q21, q22, q23, q24, q25, q26, q27, q28, z29, z30, z31, z32, z33, z34, z35, z36, z37, z38, z39, q40, q41, q42, q43, q44, q45, q46, q47, q48, q49, q50, q51, q52, q53, q54, q55, q56, q57, q58, q59, q60, q61, q62, q63, q64, q65, q66, q67, q68, q69, q70, q71, q72, q73, q74, q75, q76, q77, q78, q79, q80, q81, q82, q83, q84, q85, q86, q87, q88, q89, q90, q91, q92, q93, q94, q95, q96, q97, q98, q99, q100, q101, q102, q103, q104, q105, q106, q107, q108, q109, q110, q111, q112, q113, q114, q115, q116, q117, q118, q119, q120, q121, q122, q123, q124, q125, q126].toArray, []⟩
def RW8 (X : Nat) (va vl : Value) (ls : List Ar) (k : Nat) (nm : List UInt8) (sz : Int) (base : Nat) (W : World) (q0 q1 q2 q3 q4 q5 q7 q10 q11 q12 q13 q14 q15 q16 q17 q18 q19 q20 q21 q22 q23 q24 q25 q26 q27 q28 q40 q41 q42 q43 q44 q45 q46 q47 q48 q49 q50 q51 q52 q53 q54 q55 q56 q57 q58 q59 q60 q61 q62 q63 q64 q65 q66 q67 q68 q69 q70 q71 q72 q73 q74 q75 q76 q77 q78 q79 q80 q81 q82 q83 q84 q85 q86 q87 q88 q89 q90 q91 q92 q93 q94 q95 q96 q97 q98 q99 q100 q101 q102 q103 q104 q105 q106 q107 q108 q109 q110 q111 q112 q113 q114 q115 q116 q117 q118 q119 q120 q121 q122 q123 q124 q125 q126 : Value) (a' : Act) (w' : World) : Prop :=
  ∃ ts : Nat, ∃ nb : Nat, ∃ gn : Nat, ∃ cn : Nat, ((Fr3 X va vl W w') ∧ (OwnAt w' X [.slice (some ⟨gn, 0, none⟩) (ls.length + 1) cn, vl] 27) ∧ (ArwOwn w' base (ls ++ [⟨nm, sz⟩]) (.slice (some ⟨gn, 0, none⟩) (ls.length + 1) cn) ∧ (va.ownBlock = some gn ∨ W.heap.size ≤ gn))) ∧ a' = ⟨[q0, q1, q2, q3, q4, q5, .pointer (some ⟨X, 0, none⟩), q7, .int .i64 k, .int .i64 sz, q10, q11, q12, q13, q14, q15, q16, q17, q18, q19, q20, q21, q22, q23, q24, q25, q26, q27, q28, .pointer (some ⟨X, 0, none⟩), va, .slice (some ⟨ts, 0, none⟩) 6 6, .int .i64 k, .pointer (some ⟨ts, k, none⟩), .string (strOf nm), .int .i64 sz, .agg #[.string (strOf nm), .int .i64 sz], .slice (some ⟨nb, 0, none⟩) 1 1, .slice (some ⟨gn, 0, none⟩) (ls.length + 1) cn, .pointer (some ⟨X, 0, none⟩), q40, q41, q42, q43, q44, q45, q46, q47, q48, q49, q50, q51, q52, q53, q54, q55, q56, q57, q58, q59, q60, q61, q62, q63, q64, q65, q66, q67, q68, q69, q70, q71, q72, q73, q74, q75, q76, q77, q78, q79, q80, q81, q82, q83, q84, q85, q86, q87, q88, q89, q90, q91, q92, q93, q94, q95, q96, q97, q98, q99, q100, q101, q102, q103, q104, q105, q106, q107, q108, q109, q110, q111, q112, q113, q114, q115, q116, q117, q118, q119, q120, q121, q122, q123, q124, q125, q126].toArray, []⟩
theorem reg_W8 (X : Nat) (va vl : Value) (ls : List Ar) (k : Nat) (nm : List UInt8) (sz : Int) (base : Nat) (W : World) (hx0 : OwnAt W X [va, vl] 27) (hlo : ArwOwn W base ls va) (hvX : va.ownBlock ≠ some X) (hll : ls.length ≤ 1000000) (hbase : base ≤ W.heap.size) (hk : k < 6) (hnm : ([.string ⟨#[97]⟩, .string ⟨#[98]⟩, .string ⟨#[99]⟩, .string ⟨#[100]⟩, .string ⟨#[101]⟩, .string ⟨#[102]⟩] : List Value)[k]? = some (.string (strOf nm))) (q0 q1 q2 q3 q4 q5 q7 q10 q11 q12 q13 q14 q15 q16 q17 q18 q19 q20 q21 q22 q23 q24 q25 q26 q27 q28 q29 q30 q31 q32 q33 q34 q35 q36 q37 q38 q39 q40 q41 q42 q43 q44 q45 q46 q47 q48 q49 q50 q51 q52 q53 q54 q55 q56 q57 q58 q59 q60 q61 q62 q63 q64 q65 q66 q67 q68 q69 q70 q71 q72 q73 q74 q75 q76 q77 q78 q79 q80 q81 q82 q83 q84 q85 q86 q87 q88 q89 q90 q91 q92 q93 q94 q95 q96 q97 q98 q99 q100 q101 q102 q103 q104 q105 q106 q107 q108 q109 q110 q111 q112 q113 q114 q115 q116 q117 q118 q119 q120 q121 q122 q123 q124 q125 q126 : Value) (J K' : Act → World → Prop) (hJ : ∀ a' w', RW8 X va vl ls k nm sz base W q0 q1 q2 q3 q4 q5 q7 q10 q11 q12 q13 q14 q15 q16 q17 q18 q19 q20 q21 q22 q23 q24 q25 q26 q27 q28 q40 q41 q42 q43 q44 q45 q46 q47 q48 q49 q50 q51 q52 q53 q54 q55 q56 q57 q58 q59 q60 q61 q62 q63 q64 q65 q66 q67 q68 q69 q70 q71 q72 q73 q74 q75 q76 q77 q78 q79 q80 q81 q82 q83 q84 q85 q86 q87 q88 q89 q90 q91 q92 q93 q94 q95 q96 q97 q98 q99 q100 q101 q102 q103 q104 q105 q106 q107 q108 q109 q110 q111 q112 q113 q114 q115 q116 q117 q118 q119 q120 q121 q122 q123 q124 q125 q126 a' w' → J a' w') (hM : ∀ a' w', Met J a' w' → K' a' w') :
    Code.wp Tryz.prog ((Tryz.f7.body.bind (regOf 8)).getD .skip) (Exit.then K' (fun _ _ _ => False)) ⟨[q0, q1, q2, q3, q4, q5, .pointer (some ⟨X, 0, none⟩), q7, .int .i64 k, .int .i64 sz, q10, q11, q12, q13, q14, q15, q16, q17, q18, q19, q20, q21, q22, q23, q24, q25, q26, q27, q28, q29, q30, q31, q32, q33, q34, q35, q36, q37, q38, q39, q40, q41, q42, q43, q44, q45, q46, q47, q48, q49, q50, q51, q52, q53, q54, q55, q56, q57, q58, q59, q60, q61, q62, q63, q64, q65, q66, q67, q68, q69, q70, q71, q72, q73, q74, q75, q76, q77, q78, q79, q80, q81, q82, q83, q84, q85, q86, q87, q88, q89, q90, q91, q92, q93, q94, q95, q96, q97, q98, q99, q100, q101, q102, q103, q104, q105, q106, q107, q108, q109, q110, q111, q112, q113, q114, q115, q116, q117, q118, q119, q120, q121, q122, q123, q124, q125, q126].toArray, []⟩ W := by
  have hXl : X < W.heap.size := hx0.lt
  have hvl : ∀ g, va.ownBlock = some g → g < W.heap.size := fun g h => (RwOwn.lt hlo g h).2
  have HX0 := Lib.hid hx0; have HLO := Lib.hid hlo
  have HVX := Lib.hid hvX; have HVLT := Lib.hid hvl; have HNM := Lib.hid hnm
  have hkI : (k : Int) < 6 := by omega
  clear hx0 hlo hvX hvl hnm
  conv => arg 2; whnf
  dsimp only
  refine region_by (by kernel_rfl) (by kernel_rfl) (IW8 X va vl ls k nm sz base W q0 q1 q2 q3 q4 q5 q7 q10 q11 q12 q13 q14 q15 q16 q17 q18 q19 q20 q21 q22 q23 q24 q25 q26 q27 q28 q40 q41 q42 q43 q44 q45 q46 q47 q48 q49 q50 q51 q52 q53 q54 q55 q56 q57 q58 q59 q60 q61 q62 q63 q64 q65 q66 q67 q68 q69 q70 q71 q72 q73 q74 q75 q76 q77 q78 q79 q80 q81 q82 q83 q84 q85 q86 q87 q88 q89 q90 q91 q92 q93 q94 q95 q96 q97 q98 q99 q100 q101 q102 q103 q104 q105 q106 q107 q108 q109 q110 q111 q112 q113 q114 q115 q116 q117 q118 q119 q120 q121 q122 q123 q124 q125 q126) ?_ ?_ ?_
  · exact ⟨0, 0, 0, 0, q29, q30, q31, q32, q33, q34, q35, q36, q37, q38, q39, ⟨(fun h => by cases h), (fun h => by cases h), (fun h => by cases h), (fun h => by cases h), (fun h => by cases h), (fun h => by cases h), (fun h => by cases h), (fun h => by cases h), (fun h => by cases h), (fun h => by cases h), (fun h => by cases h), (fun h => by cases h), (fun h => by cases h), (fun h => by cases h), (fun h => by cases h), (fun h => by cases h), (fun h => by cases h), (fun h => by cases h), (fun h => by cases h), (fun h => by cases h), (fun h => by cases h), (fun h => by cases h), (Fr3.old (Fr3.refl _ _ _ _) (Below.refl _ _).drew), (fun _ => HX0.out.old (Below.refl _ _).drew), (fun h => by cases h), (fun _ => RwOwn.old HLO.out (Below.refl _ _).drew), (fun h => fun _ => by cases h), (fun h => fun _ => by cases h), (fun h => by cases h)⟩, rfl⟩
  · intro L act wx k hI hk hl hd
    obtain ⟨ts, nb, gn, cn, z29, z30, z31, z32, z33, z34, z35, z36, z37, z38, z39, hV, rfl⟩ := hI
    have hk : k = 0 ∨ k = 1 ∨ k = 2 ∨ k = 3 ∨ k = 4 ∨ k = 5 ∨ k = 6 ∨ k = 7 ∨ k = 8 ∨ k = 9 ∨ k = 10 ∨ k = 11 := by
      have : k < 12 := hk
      omega
    rcases hk with rfl | rfl | rfl | rfl | rfl | rfl | rfl | rfl | rfl | rfl | rfl | rfl
    · have nl := kf hV.ord hl
      refine op_at _ rfl rfl (fun K' hK => ?_)
      conv => arg 2; whnf
      go_wp2_with fail
      exact ⟨ts, nb, gn, cn, .pointer (some ⟨X, 0, none⟩), z30, z31, z32, z33, z34, z35, z36, z37, z38, z39, ⟨(kl nl), (kq hV.p4_2), (kq hV.p5_2), (kq hV.p7_2), (kq hV.p7_5), (kq hV.p8_2), (kq hV.p8_5), (kq hV.p9_2), (kq hV.p9_5), (kq hV.p9_8), (kq hV.p11_9), (fun _ => rfl), (kc hV.c1), (kc hV.c2), (kc hV.c3), (kc hV.c4), (kc hV.c5), (kc hV.c6), (kc hV.c7), (kc hV.c8), (kc hV.c9), (kc hV.c10), hV.fr, (fun h0 => hV.x (kb h0)), (kl nl), (fun h0 => hV.lo (kb h0)), (fun h0 => fun h1 => hV.bs (kb h0) (kb h1)), (fun h0 => fun h1 => hV.r8 (kb h0) (kb h1)), (kc hV.r9)⟩, rfl⟩
    · have nl := kf hV.ord hl
      have d0 : L 0 = true := hd _ rfl ⟨0, .data⟩ (by simp) rfl
      obtain rfl := (hV.c0 d0).symm
      have ho := hV.x nl
      have x0 := ho.at 0 _ rfl
      refine op_at _ rfl rfl (fun K' hK => ?_)
      conv => arg 2; whnf
      go_wp2_with fail
      exact ⟨ts, nb, gn, cn, .pointer (some ⟨X, 0, none⟩), va, z31, z32, z33, z34, z35, z36, z37, z38, z39, ⟨(kl nl), (kq hV.p4_2), (kq hV.p5_2), (kq hV.p7_2), (kq hV.p7_5), (kq hV.p8_2), (kq hV.p8_5), (kq hV.p9_2), (kq hV.p9_5), (kq hV.p9_8), (kq hV.p11_9), (kc hV.c0), (fun _ => rfl), (kc hV.c2), (kc hV.c3), (kc hV.c4), (kc hV.c5), (kc hV.c6), (kc hV.c7), (kc hV.c8), (kc hV.c9), (kc hV.c10), hV.fr, (fun h0 => hV.x (kb h0)), (kl nl), (fun h0 => hV.lo (kb h0)), (fun h0 => fun h1 => hV.bs (kb h0) (kb h1)), (fun h0 => fun h1 => hV.r8 (kb h0) (kb h1)), (kc hV.r9)⟩, rfl⟩
    · have nl := kf hV.ord hl
      have hal : Below wx.heap.size wx (wx.alloc (.cells #[.string ⟨#[97]⟩, .string ⟨#[98]⟩, .string ⟨#[99]⟩, .string ⟨#[100]⟩, .string ⟨#[101]⟩, .string ⟨#[102]⟩] 9)) := (Below.refl _ _).alloc (Nat.le_refl _) _
      have hfs := hV.fr.size
      refine op_at _ rfl rfl (fun K' hK => ?_)
      conv => arg 2; whnf
      go_wp2_with fail
      exact ⟨wx.heap.size, nb, gn, cn, z29, z30, .slice (some ⟨(wx.heap.size), 0, none⟩) 6 6, z32, z33, z34, z35, z36, z37, z38, z39, ⟨(kl nl), (fun _ => upd_same L 2), (fun _ => upd_same L 2), (fun _ => upd_same L 2), (kq hV.p7_5), (fun _ => upd_same L 2), (kq hV.p8_5), (fun _ => upd_same L 2), (kq hV.p9_5), (kq hV.p9_8), (kq hV.p11_9), (kc hV.c0), (kc hV.c1), (fun _ => rfl), (kc hV.c3), (kn hV.p4_2 hl), (kc hV.c5), (kc hV.c6), (kc hV.c7), (kc hV.c8), (kc hV.c9), (kc hV.c10), (Fr3.old (hV.fr) hal), (fun h0 => OwnAt.old (hV.x (kb h0)) hal), (kl nl), (fun h0 => RwOwn.old (hV.lo (kb h0)) hal), (fun _ _ => ⟨OwnAt.new wx [.string ⟨#[97]⟩, .string ⟨#[98]⟩, .string ⟨#[99]⟩, .string ⟨#[100]⟩, .string ⟨#[101]⟩, .string ⟨#[102]⟩] 9, hfs⟩), (kn hV.p8_2 hl), (kn hV.p9_2 hl)⟩, rfl⟩
    · have nl := kf hV.ord hl
      refine op_at _ rfl rfl (fun K' hK => ?_)
      conv => arg 2; whnf
      go_wp2_with fail
      exact ⟨ts, nb, gn, cn, z29, z30, z31, .int .i64 k, z33, z34, z35, z36, z37, z38, z39, ⟨(kl nl), (kq hV.p4_2), (kq hV.p5_2), (kq hV.p7_2), (kq hV.p7_5), (kq hV.p8_2), (kq hV.p8_5), (kq hV.p9_2), (kq hV.p9_5), (kq hV.p9_8), (kq hV.p11_9), (kc hV.c0), (kc hV.c1), (kc hV.c2), (fun _ => rfl), (kc hV.c4), (kc hV.c5), (kc hV.c6), (kc hV.c7), (kc hV.c8), (kc hV.c9), (kc hV.c10), hV.fr, (fun h0 => hV.x (kb h0)), (kl nl), (fun h0 => hV.lo (kb h0)), (fun h0 => fun h1 => hV.bs (kb h0) (kb h1)), (fun h0 => fun h1 => hV.r8 (kb h0) (kb h1)), (kc hV.r9)⟩, rfl⟩
    · have nl := kf hV.ord hl
      have d2 : L 2 = true := hd _ rfl ⟨2, .data⟩ (by simp) rfl
      obtain rfl := (hV.c2 d2).symm
      have d3 : L 3 = true := hd _ rfl ⟨3, .data⟩ (by simp) rfl
      obtain rfl := (hV.c3 d3).symm
      refine op_at _ rfl rfl (fun K' hK => ?_)
      conv => arg 2; whnf
      go_wp2_with fail
      exact ⟨ts, nb, gn, cn, z29, z30, .slice (some ⟨ts, 0, none⟩) 6 6, .int .i64 k, .pointer (some ⟨ts, k, none⟩), z34, z35, z36, z37, z38, z39, ⟨(kl nl), (kd (d2)), (kq hV.p5_2), (kq hV.p7_2), (kq hV.p7_5), (kq hV.p8_2), (kq hV.p8_5), (kq hV.p9_2), (kq hV.p9_5), (kq hV.p9_8), (kq hV.p11_9), (kc hV.c0), (kc hV.c1), (kc hV.c2), (kc hV.c3), (fun _ => rfl), (kc hV.c5), (kc hV.c6), (kc hV.c7), (kc hV.c8), (kc hV.c9), (kc hV.c10), hV.fr, (fun h0 => hV.x (kb h0)), (kl nl), (fun h0 => hV.lo (kb h0)), (fun h0 => fun h1 => hV.bs (kb h0) (kb h1)), (fun h0 => fun h1 => hV.r8 (kb h0) (kb h1)), (kc hV.r9)⟩, rfl⟩
    · have nl := kf hV.ord hl
      have d4 : L 4 = true := hd _ rfl ⟨4, .data⟩ (by simp) rfl
      obtain rfl := (hV.c4 d4).symm
      have n9 : L 9 = false := by
        cases h9 : L 9 with
        | false => rfl
        | true => exact absurd (hV.p9_5 h9) (by rw [hl]; decide)
      have hs := hV.bs (hV.p4_2 d4) n9
      have x0 := hs.1.at k _ HNM.out
      have hsl := hs.1.lt
      refine op_at _ rfl rfl (fun K' hK => ?_)
      conv => arg 2; whnf
      go_wp2_with fail
      exact ⟨ts, nb, gn, cn, z29, z30, z31, z32, .pointer (some ⟨ts, k, none⟩), .string (strOf nm), z35, z36, z37, z38, z39, ⟨(kl nl), (kq hV.p4_2), (kd (hV.p4_2 d4)), (kq hV.p7_2), (fun _ => upd_same L 5), (kq hV.p8_2), (fun _ => upd_same L 5), (kq hV.p9_2), (fun _ => upd_same L 5), (kq hV.p9_8), (kq hV.p11_9), (kc hV.c0), (kc hV.c1), (kc hV.c2), (kc hV.c3), (kc hV.c4), (fun _ => rfl), (kc hV.c6), (kc hV.c7), (kc hV.c8), (kc hV.c9), (kc hV.c10), hV.fr, (fun h0 => hV.x (kb h0)), (kl nl), (fun h0 => hV.lo (kb h0)), (fun h0 => fun h1 => hV.bs (kb h0) (kb h1)), (fun h0 => fun h1 => hV.r8 (kb h0) (kb h1)), (kc hV.r9)⟩, rfl⟩
    · have nl := kf hV.ord hl
      refine op_at _ rfl rfl (fun K' hK => ?_)
      conv => arg 2; whnf
      go_wp2_with fail
      exact ⟨ts, nb, gn, cn, z29, z30, z31, z32, z33, z34, .int .i64 sz, z36, z37, z38, z39, ⟨(kl nl), (kq hV.p4_2), (kq hV.p5_2), (kq hV.p7_2), (kq hV.p7_5), (kq hV.p8_2), (kq hV.p8_5), (kq hV.p9_2), (kq hV.p9_5), (kq hV.p9_8), (kq hV.p11_9), (kc hV.c0), (kc hV.c1), (kc hV.c2), (kc hV.c3), (kc hV.c4), (kc hV.c5), (fun _ => rfl), (kc hV.c7), (kc hV.c8), (kc hV.c9), (kc hV.c10), hV.fr, (fun h0 => hV.x (kb h0)), (kl nl), (fun h0 => hV.lo (kb h0)), (fun h0 => fun h1 => hV.bs (kb h0) (kb h1)), (fun h0 => fun h1 => hV.r8 (kb h0) (kb h1)), (kc hV.r9)⟩, rfl⟩
    · have nl := kf hV.ord hl
      have d5 : L 5 = true := hd _ rfl ⟨5, .data⟩ (by simp) rfl
      obtain rfl := (hV.c5 d5).symm
      have d6 : L 6 = true := hd _ rfl ⟨6, .data⟩ (by simp) rfl
      obtain rfl := (hV.c6 d6).symm
      refine op_at _ rfl rfl (fun K' hK => ?_)
      conv => arg 2; whnf
      go_wp2_with fail
      exact ⟨ts, nb, gn, cn, z29, z30, z31, z32, z33, .string (strOf nm), .int .i64 sz, .agg #[.string (strOf nm), .int .i64 sz], z37, z38, z39, ⟨(kl nl), (kq hV.p4_2), (kq hV.p5_2), (kd (hV.p5_2 d5)), (kd (d5)), (kq hV.p8_2), (kq hV.p8_5), (kq hV.p9_2), (kq hV.p9_5), (kq hV.p9_8), (kq hV.p11_9), (kc hV.c0), (kc hV.c1), (kc hV.c2), (kc hV.c3), (kc hV.c4), (kc hV.c5), (kc hV.c6), (fun _ => rfl), (kc hV.c8), (kc hV.c9), (kc hV.c10), hV.fr, (fun h0 => hV.x (kb h0)), (kl nl), (fun h0 => hV.lo (kb h0)), (fun h0 => fun h1 => hV.bs (kb h0) (kb h1)), (fun h0 => fun h1 => hV.r8 (kb h0) (kb h1)), (kc hV.r9)⟩, rfl⟩
    · have nl := kf hV.ord hl
      have d7 : L 7 = true := hd _ rfl ⟨7, .data⟩ (by simp) rfl
      obtain rfl := (hV.c7 d7).symm
      have hal : Below wx.heap.size wx (wx.alloc (.cells #[.string (strOf nm), .int .i64 sz] 37)) := (Below.refl _ _).alloc (Nat.le_refl _) _
      have hfs := hV.fr.size
      refine op_at _ rfl rfl (fun K' hK => ?_)
      conv => arg 2; whnf
      go_wp2_with fail
      exact ⟨ts, wx.heap.size, gn, cn, z29, z30, z31, z32, z33, z34, z35, .agg #[.string (strOf nm), .int .i64 sz], .slice (some ⟨(wx.heap.size), 0, none⟩) 1 1, z38, z39, ⟨(kl nl), (kq hV.p4_2), (kq hV.p5_2), (kq hV.p7_2), (kq hV.p7_5), (kd (hV.p7_2 d7)), (kd (hV.p7_5 d7)), (kq hV.p9_2), (kq hV.p9_5), (fun _ => upd_same L 8), (kq hV.p11_9), (kc hV.c0), (kc hV.c1), (kc hV.c2), (kc hV.c3), (kc hV.c4), (kc hV.c5), (kc hV.c6), (kc hV.c7), (fun _ => rfl), (kc hV.c9), (kc hV.c10), (Fr3.old (hV.fr) hal), (fun h0 => OwnAt.old (hV.x (kb h0)) hal), (kl nl), (fun h0 => RwOwn.old (hV.lo (kb h0)) hal), (fun h0 => fun h1 => ⟨OwnAt.old (And.left (hV.bs (kb h0) (kb h1))) hal, And.right (hV.bs (kb h0) (kb h1))⟩), (fun _ _ => ⟨OwnAt.new wx [.string (strOf nm), .int .i64 sz] 37, hfs⟩), (kn hV.p9_8 hl)⟩, rfl⟩
    · have nl := kf hV.ord hl
      have d1 : L 1 = true := hd _ rfl ⟨1, .data⟩ (by simp) rfl
      obtain rfl := (hV.c1 d1).symm
      have d8 : L 8 = true := hd _ rfl ⟨8, .data⟩ (by simp) rfl
      obtain rfl := (hV.c8 d8).symm
      have hr8 := hV.r8 d8 hl
      have hlo := hV.lo hl
      have hfs := hV.fr.size
      refine op_at _ rfl rfl (fun K' hK => ?_)
      conv => arg 2; whnf
      refine wp_arSnoc wx _ _ rfl base ls va rfl hlo ⟨nm, sz⟩ nb 1 rfl hr8.1 hll (Nat.le_trans hbase hfs) ?_
      intro g2 cap2 w2 hr2 hg2 ha2 hl2
      go_wp2_with fail
      exact ⟨ts, nb, g2, cap2, z29, va, z31, z32, z33, z34, z35, z36, .slice (some ⟨nb, 0, none⟩) 1 1, .slice (some ⟨(g2), 0, none⟩) (ls.length + 1) (cap2), z39, ⟨(kl nl), (kq hV.p4_2), (kq hV.p5_2), (kq hV.p7_2), (kq hV.p7_5), (kq hV.p8_2), (kq hV.p8_5), (kd (hV.p8_2 d8)), (kd (hV.p8_5 d8)), (kd (d8)), (fun _ => upd_same L 9), (kc hV.c0), (kc hV.c1), (kc hV.c2), (kc hV.c3), (kc hV.c4), (kc hV.c5), (kc hV.c6), (kc hV.c7), (kc hV.c8), (fun _ => rfl), (kc hV.c10), (hV.fr.grown hg2 (.inl rfl)), (fun _ => (hV.x nl).grow hg2 HVX.out), (kl nl), (ks), (fun _ => ks), (fun _ => ks), (fun _ => ⟨hr2, by rcases ha2 with h | h; exact .inl h; exact .inr (by rw [h]; exact hfs)⟩)⟩, rfl⟩
    · have nl := kf hV.ord hl
      refine op_at _ rfl rfl (fun K' hK => ?_)
      conv => arg 2; whnf
      go_wp2_with fail
      exact ⟨ts, nb, gn, cn, z29, z30, z31, z32, z33, z34, z35, z36, z37, z38, .pointer (some ⟨X, 0, none⟩), ⟨(kl nl), (kq hV.p4_2), (kq hV.p5_2), (kq hV.p7_2), (kq hV.p7_5), (kq hV.p8_2), (kq hV.p8_5), (kq hV.p9_2), (kq hV.p9_5), (kq hV.p9_8), (kq hV.p11_9), (kc hV.c0), (kc hV.c1), (kc hV.c2), (kc hV.c3), (kc hV.c4), (kc hV.c5), (kc hV.c6), (kc hV.c7), (kc hV.c8), (kc hV.c9), (fun _ => rfl), hV.fr, (fun h0 => hV.x (kb h0)), (kl nl), (fun h0 => hV.lo (kb h0)), (fun h0 => fun h1 => hV.bs (kb h0) (kb h1)), (fun h0 => fun h1 => hV.r8 (kb h0) (kb h1)), (kc hV.r9)⟩, rfl⟩
    · have before : ∀ j, j < 11 → L j = true := fun j hj => by
        have hj : j = 0 ∨ j = 1 ∨ j = 2 ∨ j = 3 ∨ j = 4 ∨ j = 5 ∨ j = 6 ∨ j = 7 ∨ j = 8 ∨ j = 9 ∨ j = 10 := by omega
        rcases hj with rfl | rfl | rfl | rfl | rfl | rfl | rfl | rfl | rfl | rfl | rfl
        · exact hd _ rfl ⟨0, .phase⟩ (by simp) rfl
        · exact hd _ rfl ⟨1, .phase⟩ (by simp) rfl
        · exact hd _ rfl ⟨2, .phase⟩ (by simp) rfl
        · exact hd _ rfl ⟨3, .phase⟩ (by simp) rfl
        · exact hd _ rfl ⟨4, .phase⟩ (by simp) rfl
        · exact hd _ rfl ⟨5, .phase⟩ (by simp) rfl
        · exact hd _ rfl ⟨6, .phase⟩ (by simp) rfl
        · exact hd _ rfl ⟨7, .phase⟩ (by simp) rfl
        · exact hd _ rfl ⟨8, .phase⟩ (by simp) rfl
        · exact hd _ rfl ⟨9, .data⟩ (by simp) rfl
        · exact hd _ rfl ⟨10, .data⟩ (by simp) rfl
      have d9 : L 9 = true := hd _ rfl ⟨9, .data⟩ (by simp) rfl
      obtain rfl := (hV.c9 d9).symm
      have d10 : L 10 = true := hd _ rfl ⟨10, .data⟩ (by simp) rfl
      obtain rfl := (hV.c10 d10).symm
      have hx := hV.x hl
      have x0 := hx.at 0 _ rfl
      have fx := hx.fz 0
      have hxl := hx.lt
      have hr9 := hV.r9 (before 9 (by decide))
      refine op_at _ rfl rfl (fun K' hK => ?_)
      conv => arg 2; whnf
      go_wp2_with fail
      exact ⟨ts, nb, gn, cn, z29, z30, z31, z32, z33, z34, z35, z36, z37, .slice (some ⟨gn, 0, none⟩) (ls.length + 1) cn, .pointer (some ⟨X, 0, none⟩), ⟨(fun _ j hj => by rw [upd_ne L (show j ≠ 11 by omega)]; exact before j hj), (kq hV.p4_2), (kq hV.p5_2), (kq hV.p7_2), (kq hV.p7_5), (kq hV.p8_2), (kq hV.p8_5), (kq hV.p9_2), (kq hV.p9_5), (kq hV.p9_8), (kd (before 9 (by decide))), (kc hV.c0), (kc hV.c1), (kc hV.c2), (kc hV.c3), (kc hV.c4), (kc hV.c5), (kc hV.c6), (kc hV.c7), (kc hV.c8), (kc hV.c9), (kc hV.c10), (hV.fr.set hXl 0 (.slice (some ⟨gn, 0, none⟩) (ls.length + 1) cn)), (ks), (fun _ => hx.set 0 (.slice (some ⟨gn, 0, none⟩) (ls.length + 1) cn)), (fun h => by rw [upd_ne L (show 9 ≠ 11 by decide), before 9 (by decide)] at h; cases h), (fun _ h => by rw [upd_ne L (show 9 ≠ 11 by decide), before 9 (by decide)] at h; cases h), (fun _ h => by rw [upd_ne L (show 9 ≠ 11 by decide), before 9 (by decide)] at h; cases h), (fun _ => ⟨RwOwn.set hr9.1 (fun e => by have e : gn = X := (by injection e); rcases hr9.2 with h | h; exact HVX.out (by rw [h, e]); omega) 0 (.slice (some ⟨gn, 0, none⟩) (ls.length + 1) cn), hr9.2⟩)⟩, rfl⟩
  · intro L act wx hI hall
    obtain ⟨ts, nb, gn, cn, z29, z30, z31, z32, z33, z34, z35, z36, z37, z38, z39, hV, rfl⟩ := hI
    obtain rfl := (hV.c0 (hall 0 (by decide))).symm
    obtain rfl := (hV.c1 (hall 1 (by decide))).symm
    obtain rfl := (hV.c2 (hall 2 (by decide))).symm
    obtain rfl := (hV.c3 (hall 3 (by decide))).symm
    obtain rfl := (hV.c4 (hall 4 (by decide))).symm
    obtain rfl := (hV.c5 (hall 5 (by decide))).symm
    obtain rfl := (hV.c6 (hall 6 (by decide))).symm
    obtain rfl := (hV.c7 (hall 7 (by decide))).symm
    obtain rfl := (hV.c8 (hall 8 (by decide))).symm
    obtain rfl := (hV.c9 (hall 9 (by decide))).symm
    obtain rfl := (hV.c10 (hall 10 (by decide))).symm
    exact hM _ _ (Met.intro (hJ _ _ ⟨ts, nb, gn, cn, ⟨hV.fr, hV.x3 (hall 11 (by decide)), hV.r9 (hall 9 (by decide))⟩, rfl⟩))
end Go.Proofs.YtpgjfpphigeliaaGreatDoor
