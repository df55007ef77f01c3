/-
  Statements appended to a slice that holds none; a cell of a row of functions that is stored; parts of lists. No condition.
-/
import Derived.Test.YtfhbinbjkpfedaaGreatDoorTT15
import Derived.Test.YtfhbinbjkpfedaaGreatDoorTT07
import Derived.Laws.OwnMore
set_option linter.unusedVariables false
set_option linter.unusedSimpArgs false
namespace Go.Proofs.YtfhbinbjkpfedaaGreatDoor
open Go.RowKit Go.Proofs.Tryz
set_option maxHeartbeats 20000000
set_option maxRecDepth 100000
open Go.Lib renaming hid→Za
open Go.Proofs.Tryz renaming prog→Zb
open Al renaming new→Zc
open Go.RowKit.Below renaming refl→Zd,heap_setCell→Zj
open Bp renaming zero→Ze
open Bx renaming new→Zf
open Nat renaming zero_le→Zg,lt_of_lt_of_le→Zh
open List renaming not_mem_nil→Zi,length_eq_zero_iff→Zk,getElem?_eq_getElem→Zl
theorem awake_E(w:World)(X:Nat)(hX:X=w.heap.size):Aj (· <X+1+1+1+1+1) (((((w.alloc (.cells #[.int .i64 1,.int .i64 0,.int .i64 1,.string ⟨#[]⟩,.slice none 0 0,.int .i64 2,.int .i64 0,.int .i64 0,.string ⟨#[120]⟩,.slice none 0 0] 31)).alloc (.cells #[.int .i64 4,.int .i64 1,.int .i64 0,.string ⟨#[]⟩,.slice (some ⟨X,0,none⟩) 2 2] 31)).alloc (.cells #[.int .i64 1,.int .i64 0,.int .i64 2,.string ⟨#[]⟩,.slice none 0 0] 31)).alloc (.cells #[.int .i64 4,.int .i64 1,.int .i64 0,.string ⟨#[]⟩,.slice (some ⟨X,0,none⟩) 2 2,.int .i64 3,.int .i64 17,.int .i64 0,.string ⟨#[]⟩,.slice (some ⟨X+1+1,0,none⟩) 1 1] 31)).alloc (.cells #[.int .i64 4,.int .i64 3,.int .i64 0,.string ⟨#[]⟩,.slice (some ⟨X+1+1+1,0,none⟩) 2 2] 31)) exE.args (.slice (some ⟨X+1+1+1,0,none⟩) 2 2)∧
  (((((w.alloc (.cells #[.int .i64 1,.int .i64 0,.int .i64 1,.string ⟨#[]⟩,.slice none 0 0,.int .i64 2,.int .i64 0,.int .i64 0,.string ⟨#[120]⟩,.slice none 0 0] 31)).alloc (.cells #[.int .i64 4,.int .i64 1,.int .i64 0,.string ⟨#[]⟩,.slice (some ⟨X,0,none⟩) 2 2] 31)).alloc (.cells #[.int .i64 1,.int .i64 0,.int .i64 2,.string ⟨#[]⟩,.slice none 0 0] 31)).alloc (.cells #[.int .i64 4,.int .i64 1,.int .i64 0,.string ⟨#[]⟩,.slice (some ⟨X,0,none⟩) 2 2,.int .i64 3,.int .i64 17,.int .i64 0,.string ⟨#[]⟩,.slice (some ⟨X+1+1,0,none⟩) 1 1] 31)).alloc (.cells #[.int .i64 4,.int .i64 3,.int .i64 0,.string ⟨#[]⟩,.slice (some ⟨X+1+1+1,0,none⟩) 2 2] 31)).heap.size=X+1+1+1+1+1∧Bx (((((w.alloc (.cells #[.int .i64 1,.int .i64 0,.int .i64 1,.string ⟨#[]⟩,.slice none 0 0,.int .i64 2,.int .i64 0,.int .i64 0,.string ⟨#[120]⟩,.slice none 0 0] 31)).alloc (.cells #[.int .i64 4,.int .i64 1,.int .i64 0,.string ⟨#[]⟩,.slice (some ⟨X,0,none⟩) 2 2] 31)).alloc (.cells #[.int .i64 1,.int .i64 0,.int .i64 2,.string ⟨#[]⟩,.slice none 0 0] 31)).alloc (.cells #[.int .i64 4,.int .i64 1,.int .i64 0,.string ⟨#[]⟩,.slice (some ⟨X,0,none⟩) 2 2,.int .i64 3,.int .i64 17,.int .i64 0,.string ⟨#[]⟩,.slice (some ⟨X+1+1,0,none⟩) 1 1] 31)).alloc (.cells #[.int .i64 4,.int .i64 3,.int .i64 0,.string ⟨#[]⟩,.slice (some ⟨X+1+1+1,0,none⟩) 2 2] 31)) (X+1+1+1+1) 0 (Aq exE (.slice (some ⟨X+1+1+1,0,none⟩) 2 2))∧Below X w (((((w.alloc (.cells #[.int .i64 1,.int .i64 0,.int .i64 1,.string ⟨#[]⟩,.slice none 0 0,.int .i64 2,.int .i64 0,.int .i64 0,.string ⟨#[120]⟩,.slice none 0 0] 31)).alloc (.cells #[.int .i64 4,.int .i64 1,.int .i64 0,.string ⟨#[]⟩,.slice (some ⟨X,0,none⟩) 2 2] 31)).alloc (.cells #[.int .i64 1,.int .i64 0,.int .i64 2,.string ⟨#[]⟩,.slice none 0 0] 31)).alloc (.cells #[.int .i64 4,.int .i64 1,.int .i64 0,.string ⟨#[]⟩,.slice (some ⟨X,0,none⟩) 2 2,.int .i64 3,.int .i64 17,.int .i64 0,.string ⟨#[]⟩,.slice (some ⟨X+1+1,0,none⟩) 1 1] 31)).alloc (.cells #[.int .i64 4,.int .i64 3,.int .i64 0,.string ⟨#[]⟩,.slice (some ⟨X+1+1+1,0,none⟩) 2 2] 31)):=by
 have r0:Bx (w.alloc (.cells #[.int .i64 1,.int .i64 0,.int .i64 1,.string ⟨#[]⟩,.slice none 0 0,.int .i64 2,.int .i64 0,.int .i64 0,.string ⟨#[120]⟩,.slice none 0 0] 31)) X 0 (Aq (.mk 1 0 1 [] []) (.slice none 0 0)++Aq (.mk 2 0 0 [120] []) (.slice none 0 0)):=by rw[hX];exact Zf w _ _
 have s1:(w.alloc (.cells #[.int .i64 1,.int .i64 0,.int .i64 1,.string ⟨#[]⟩,.slice none 0 0,.int .i64 2,.int .i64 0,.int .i64 0,.string ⟨#[120]⟩,.slice none 0 0] 31)).heap.size=X+1:=by simp [hX]
 have b1:Below X w (w.alloc (.cells #[.int .i64 1,.int .i64 0,.int .i64 1,.string ⟨#[]⟩,.slice none 0 0,.int .i64 2,.int .i64 0,.int .i64 0,.string ⟨#[120]⟩,.slice none 0 0] 31)):=(Zd _ _).alloc (by omega) _;generalize (w.alloc (.cells #[.int .i64 1,.int .i64 0,.int .i64 1,.string ⟨#[]⟩,.slice none 0 0,.int .i64 2,.int .i64 0,.int .i64 0,.string ⟨#[120]⟩,.slice none 0 0] 31))=W1 at*;have r0:=r0.alloc (.cells #[.int .i64 4,.int .i64 1,.int .i64 0,.string ⟨#[]⟩,.slice (some ⟨X,0,none⟩) 2 2] 31);have b1:=b1.alloc (o:=(.cells #[.int .i64 4,.int .i64 1,.int .i64 0,.string ⟨#[]⟩,.slice (some ⟨X,0,none⟩) 2 2] 31)) (by omega);have s2:(W1.alloc (.cells #[.int .i64 4,.int .i64 1,.int .i64 0,.string ⟨#[]⟩,.slice (some ⟨X,0,none⟩) 2 2] 31)).heap.size=X+1+1:=by simp [s1]
 generalize (W1.alloc (.cells #[.int .i64 4,.int .i64 1,.int .i64 0,.string ⟨#[]⟩,.slice (some ⟨X,0,none⟩) 2 2] 31))=W2 at*;have r0:=r0.alloc (.cells #[.int .i64 1,.int .i64 0,.int .i64 2,.string ⟨#[]⟩,.slice none 0 0] 31);have r2:=Zf W2 (Aq (.mk 1 0 2 [] []) (.slice none 0 0)) 31;rw[s2]at r2;have r2:Bx (W2.alloc (.cells #[.int .i64 1,.int .i64 0,.int .i64 2,.string ⟨#[]⟩,.slice none 0 0] 31)) (X+1+1) 0 (Aq (.mk 1 0 2 [] []) (.slice none 0 0)):=r2;have b1:=b1.alloc (o:=(.cells #[.int .i64 1,.int .i64 0,.int .i64 2,.string ⟨#[]⟩,.slice none 0 0] 31)) (by omega);have s3:(W2.alloc (.cells #[.int .i64 1,.int .i64 0,.int .i64 2,.string ⟨#[]⟩,.slice none 0 0] 31)).heap.size=X+1+1+1:=by simp [s2]
 generalize (W2.alloc (.cells #[.int .i64 1,.int .i64 0,.int .i64 2,.string ⟨#[]⟩,.slice none 0 0] 31))=W3 at*;have r0:=r0.alloc (.cells #[.int .i64 4,.int .i64 1,.int .i64 0,.string ⟨#[]⟩,.slice (some ⟨X,0,none⟩) 2 2,.int .i64 3,.int .i64 17,.int .i64 0,.string ⟨#[]⟩,.slice (some ⟨X+1+1,0,none⟩) 1 1] 31);have r2:=r2.alloc (.cells #[.int .i64 4,.int .i64 1,.int .i64 0,.string ⟨#[]⟩,.slice (some ⟨X,0,none⟩) 2 2,.int .i64 3,.int .i64 17,.int .i64 0,.string ⟨#[]⟩,.slice (some ⟨X+1+1,0,none⟩) 1 1] 31);have r3:=Zf W3 (Aq (.mk 4 1 0 [] [.mk 1 0 1 [] [],.mk 2 0 0 [120] []]) (.slice (some ⟨X,0,none⟩) 2 2)++Aq (.mk 3 17 0 [] [.mk 1 0 2 [] []]) (.slice (some ⟨X+1+1,0,none⟩) 1 1)) 31;rw[s3]at r3;have r3:Bx (W3.alloc (.cells #[.int .i64 4,.int .i64 1,.int .i64 0,.string ⟨#[]⟩,.slice (some ⟨X,0,none⟩) 2 2,.int .i64 3,.int .i64 17,.int .i64 0,.string ⟨#[]⟩,.slice (some ⟨X+1+1,0,none⟩) 1 1] 31)) (X+1+1+1) 0 (Aq (.mk 4 1 0 [] [.mk 1 0 1 [] [],.mk 2 0 0 [120] []]) (.slice (some ⟨X,0,none⟩) 2 2)++Aq (.mk 3 17 0 [] [.mk 1 0 2 [] []]) (.slice (some ⟨X+1+1,0,none⟩) 1 1)):=r3;have b1:=b1.alloc (o:=(.cells #[.int .i64 4,.int .i64 1,.int .i64 0,.string ⟨#[]⟩,.slice (some ⟨X,0,none⟩) 2 2,.int .i64 3,.int .i64 17,.int .i64 0,.string ⟨#[]⟩,.slice (some ⟨X+1+1,0,none⟩) 1 1] 31)) (by omega);have s4:(W3.alloc (.cells #[.int .i64 4,.int .i64 1,.int .i64 0,.string ⟨#[]⟩,.slice (some ⟨X,0,none⟩) 2 2,.int .i64 3,.int .i64 17,.int .i64 0,.string ⟨#[]⟩,.slice (some ⟨X+1+1,0,none⟩) 1 1] 31)).heap.size=X+1+1+1+1:=by simp [s3]
 generalize (W3.alloc (.cells #[.int .i64 4,.int .i64 1,.int .i64 0,.string ⟨#[]⟩,.slice (some ⟨X,0,none⟩) 2 2,.int .i64 3,.int .i64 17,.int .i64 0,.string ⟨#[]⟩,.slice (some ⟨X+1+1,0,none⟩) 1 1] 31))=W4 at*;have r0:=r0.alloc (.cells #[.int .i64 4,.int .i64 3,.int .i64 0,.string ⟨#[]⟩,.slice (some ⟨X+1+1+1,0,none⟩) 2 2] 31);have r2:=r2.alloc (.cells #[.int .i64 4,.int .i64 3,.int .i64 0,.string ⟨#[]⟩,.slice (some ⟨X+1+1+1,0,none⟩) 2 2] 31);have r3:=r3.alloc (.cells #[.int .i64 4,.int .i64 3,.int .i64 0,.string ⟨#[]⟩,.slice (some ⟨X+1+1+1,0,none⟩) 2 2] 31);have r4:=Zf W4 (Aq exE (.slice (some ⟨X+1+1+1,0,none⟩) 2 2)) 31;rw[s4]at r4;have r4:Bx (W4.alloc (.cells #[.int .i64 4,.int .i64 3,.int .i64 0,.string ⟨#[]⟩,.slice (some ⟨X+1+1+1,0,none⟩) 2 2] 31)) (X+1+1+1+1) 0 (Aq exE (.slice (some ⟨X+1+1+1,0,none⟩) 2 2)):=r4;have b1:=b1.alloc (o:=(.cells #[.int .i64 4,.int .i64 3,.int .i64 0,.string ⟨#[]⟩,.slice (some ⟨X+1+1+1,0,none⟩) 2 2] 31)) (by omega);have s5:(W4.alloc (.cells #[.int .i64 4,.int .i64 3,.int .i64 0,.string ⟨#[]⟩,.slice (some ⟨X+1+1+1,0,none⟩) 2 2] 31)).heap.size=X+1+1+1+1+1:=by simp [s4]
 generalize (W4.alloc (.cells #[.int .i64 4,.int .i64 3,.int .i64 0,.string ⟨#[]⟩,.slice (some ⟨X+1+1+1,0,none⟩) 2 2] 31))=W5 at*;refine⟨?_,s5,r4,b1⟩;have e0:Aj (· <X+1+1+1+1+1) W5 [.mk 1 0 1 [] [],.mk 2 0 0 [120] []] (.slice (some ⟨X,0,none⟩) 2 2):=.two _ _ _ _ (by omega) r0 .zero (Dw ⟨by decide,by decide⟩) .zero (Dw ⟨by decide,by decide⟩);have e2:Aj (· <X+1+1+1+1+1) W5 [.mk 1 0 2 [] []] (.slice (some ⟨X+1+1,0,none⟩) 1 1):=.one _ _ (by omega) r2 .zero (Dw ⟨by decide,by decide⟩);exact .two _ _ _ _ (by omega) r3 e0 (Dw ⟨by decide,by decide⟩) e2 (Dw ⟨by decide,by decide⟩)
theorem awake_P(w:World)(Y:Nat)(hY:Y=w.heap.size)(s:Value)(he:Aj (· <Y) w exE.args s):Bk (· <Y+1+1+1+1) ((((w.alloc (.cells #[.int .i64 4,.int .i64 3,.int .i64 0,.string ⟨#[]⟩,s] 31)).alloc (.cells #[.int .i64 8,.string ⟨#[]⟩,.slice (some ⟨Y,0,none⟩) 1 1,.slice none 0 0,.slice none 0 0] 56)).alloc (.cells #[.string ⟨#[109,97,105,110]⟩,.slice none 0 0,.slice none 0 0,.slice (some ⟨Y+1,0,none⟩) 1 1] 47)).alloc (.cells #[.slice none 0 0,.slice (some ⟨Y+1+1,0,none⟩) 1 1] 27)) exP.funcs (.slice (some ⟨Y+1+1,0,none⟩) 1 1)∧
  ((((w.alloc (.cells #[.int .i64 4,.int .i64 3,.int .i64 0,.string ⟨#[]⟩,s] 31)).alloc (.cells #[.int .i64 8,.string ⟨#[]⟩,.slice (some ⟨Y,0,none⟩) 1 1,.slice none 0 0,.slice none 0 0] 56)).alloc (.cells #[.string ⟨#[109,97,105,110]⟩,.slice none 0 0,.slice none 0 0,.slice (some ⟨Y+1,0,none⟩) 1 1] 47)).alloc (.cells #[.slice none 0 0,.slice (some ⟨Y+1+1,0,none⟩) 1 1] 27)).heap.size=Y+1+1+1+1∧Bx ((((w.alloc (.cells #[.int .i64 4,.int .i64 3,.int .i64 0,.string ⟨#[]⟩,s] 31)).alloc (.cells #[.int .i64 8,.string ⟨#[]⟩,.slice (some ⟨Y,0,none⟩) 1 1,.slice none 0 0,.slice none 0 0] 56)).alloc (.cells #[.string ⟨#[109,97,105,110]⟩,.slice none 0 0,.slice none 0 0,.slice (some ⟨Y+1,0,none⟩) 1 1] 47)).alloc (.cells #[.slice none 0 0,.slice (some ⟨Y+1+1,0,none⟩) 1 1] 27)) (Y+1+1+1) 0 [.slice none 0 0,.slice (some ⟨Y+1+1,0,none⟩) 1 1]∧Below Y w ((((w.alloc (.cells #[.int .i64 4,.int .i64 3,.int .i64 0,.string ⟨#[]⟩,s] 31)).alloc (.cells #[.int .i64 8,.string ⟨#[]⟩,.slice (some ⟨Y,0,none⟩) 1 1,.slice none 0 0,.slice none 0 0] 56)).alloc (.cells #[.string ⟨#[109,97,105,110]⟩,.slice none 0 0,.slice none 0 0,.slice (some ⟨Y+1,0,none⟩) 1 1] 47)).alloc (.cells #[.slice none 0 0,.slice (some ⟨Y+1+1,0,none⟩) 1 1] 27)):=by
 have r0:Bx (w.alloc (.cells #[.int .i64 4,.int .i64 3,.int .i64 0,.string ⟨#[]⟩,s] 31)) Y 0 (Aq exE s):=by rw[hY];exact Zf w _ _
 have s1:(w.alloc (.cells #[.int .i64 4,.int .i64 3,.int .i64 0,.string ⟨#[]⟩,s] 31)).heap.size=Y+1:=by simp [hY]
 have b1:Below Y w (w.alloc (.cells #[.int .i64 4,.int .i64 3,.int .i64 0,.string ⟨#[]⟩,s] 31)):=(Zd _ _).alloc (by omega) _;generalize (w.alloc (.cells #[.int .i64 4,.int .i64 3,.int .i64 0,.string ⟨#[]⟩,s] 31))=W1 at*;have r0:=r0.alloc (.cells #[.int .i64 8,.string ⟨#[]⟩,.slice (some ⟨Y,0,none⟩) 1 1,.slice none 0 0,.slice none 0 0] 56);have b1:=b1.alloc (o:=(.cells #[.int .i64 8,.string ⟨#[]⟩,.slice (some ⟨Y,0,none⟩) 1 1,.slice none 0 0,.slice none 0 0] 56)) (by omega);have r1:=Zf W1 (Bl (.mk 8 [] [exE] [] []) (.slice (some ⟨Y,0,none⟩) 1 1) (.slice none 0 0) (.slice none 0 0)) 56;rw[s1]at r1;have r1:Bx (W1.alloc (.cells #[.int .i64 8,.string ⟨#[]⟩,.slice (some ⟨Y,0,none⟩) 1 1,.slice none 0 0,.slice none 0 0] 56)) (Y+1) 0 (Bl (.mk 8 [] [exE] [] []) (.slice (some ⟨Y,0,none⟩) 1 1) (.slice none 0 0) (.slice none 0 0)):=r1;have s2:(W1.alloc (.cells #[.int .i64 8,.string ⟨#[]⟩,.slice (some ⟨Y,0,none⟩) 1 1,.slice none 0 0,.slice none 0 0] 56)).heap.size=Y+1+1:=by simp [s1]
 generalize (W1.alloc (.cells #[.int .i64 8,.string ⟨#[]⟩,.slice (some ⟨Y,0,none⟩) 1 1,.slice none 0 0,.slice none 0 0] 56))=W2 at*;have r0:=r0.alloc (.cells #[.string ⟨#[109,97,105,110]⟩,.slice none 0 0,.slice none 0 0,.slice (some ⟨Y+1,0,none⟩) 1 1] 47);have r1:=r1.alloc (.cells #[.string ⟨#[109,97,105,110]⟩,.slice none 0 0,.slice none 0 0,.slice (some ⟨Y+1,0,none⟩) 1 1] 47);have b1:=b1.alloc (o:=(.cells #[.string ⟨#[109,97,105,110]⟩,.slice none 0 0,.slice none 0 0,.slice (some ⟨Y+1,0,none⟩) 1 1] 47)) (by omega);have r2:=Zf W2 (Vh ⟨[109,97,105,110],[],[],[.mk 8 [] [exE] [] []]⟩ (.slice none 0 0) (.slice none 0 0) (.slice (some ⟨Y+1,0,none⟩) 1 1)) 47;rw[s2]at r2;have r2:Bx (W2.alloc (.cells #[.string ⟨#[109,97,105,110]⟩,.slice none 0 0,.slice none 0 0,.slice (some ⟨Y+1,0,none⟩) 1 1] 47)) (Y+1+1) 0 (Vh ⟨[109,97,105,110],[],[],[.mk 8 [] [exE] [] []]⟩ (.slice none 0 0) (.slice none 0 0) (.slice (some ⟨Y+1,0,none⟩) 1 1)):=r2;have s3:(W2.alloc (.cells #[.string ⟨#[109,97,105,110]⟩,.slice none 0 0,.slice none 0 0,.slice (some ⟨Y+1,0,none⟩) 1 1] 47)).heap.size=Y+1+1+1:=by simp [s2]
 generalize (W2.alloc (.cells #[.string ⟨#[109,97,105,110]⟩,.slice none 0 0,.slice none 0 0,.slice (some ⟨Y+1,0,none⟩) 1 1] 47))=W3 at*;have r0:=r0.alloc (.cells #[.slice none 0 0,.slice (some ⟨Y+1+1,0,none⟩) 1 1] 27);have r1:=r1.alloc (.cells #[.slice none 0 0,.slice (some ⟨Y+1+1,0,none⟩) 1 1] 27);have r2:=r2.alloc (.cells #[.slice none 0 0,.slice (some ⟨Y+1+1,0,none⟩) 1 1] 27);have b1:=b1.alloc (o:=(.cells #[.slice none 0 0,.slice (some ⟨Y+1+1,0,none⟩) 1 1] 27)) (by omega);have r3:=Zf W3 [.slice none 0 0,.slice (some ⟨Y+1+1,0,none⟩) 1 1] 27;rw[s3]at r3;have r3:Bx (W3.alloc (.cells #[.slice none 0 0,.slice (some ⟨Y+1+1,0,none⟩) 1 1] 27)) (Y+1+1+1) 0 [.slice none 0 0,.slice (some ⟨Y+1+1,0,none⟩) 1 1]:=r3;have s4:(W3.alloc (.cells #[.slice none 0 0,.slice (some ⟨Y+1+1,0,none⟩) 1 1] 27)).heap.size=Y+1+1+1+1:=by simp [s3]
 generalize (W3.alloc (.cells #[.slice none 0 0,.slice (some ⟨Y+1+1,0,none⟩) 1 1] 27))=W4 at*;refine⟨?_,s4,r3,b1⟩;have e0:Aj (· <Y+1+1+1+1) W4 [exE] (.slice (some ⟨Y,0,none⟩) 1 1):=.one _ _ (by omega) r0 ((he.old (by rw[←hY];exact b1)).mono (fun b h=>by omega)) (Dw ⟨by decide,by decide⟩);have e1:Ap (· <Y+1+1+1+1) W4 [.mk 8 [] [exE] [] []] (.slice (some ⟨Y+1,0,none⟩) 1 1):=.one _ _ _ _ (by omega) r1 e0 .zero .zero;exact .one _ _ _ _ (by omega) r2 .zero .zero e1
theorem fU(w:World)(hg:3<w.heap.size)(ht:Da w):
  Calls Zb 5 #[] w fun e w'=>e=.returned (.bool true)∧Below w.heap.size w w':=by
 have HG:=Za hg;have HT:=Za ht;have HE:=Za (awake_E w _ rfl);clear hg ht;go_enter func5,ntmps5
 go_wp2_with fail
 generalize (((((w.alloc (.cells #[.int .i64 1,.int .i64 0,.int .i64 1,.string ⟨#[]⟩,.slice none 0 0,.int .i64 2,.int .i64 0,.int .i64 0,.string ⟨#[120]⟩,.slice none 0 0] 31)).alloc (.cells #[.int .i64 4,.int .i64 1,.int .i64 0,.string ⟨#[]⟩,.slice (some ⟨w.heap.size,0,none⟩) 2 2] 31)).alloc (.cells #[.int .i64 1,.int .i64 0,.int .i64 2,.string ⟨#[]⟩,.slice none 0 0] 31)).alloc (.cells #[.int .i64 4,.int .i64 1,.int .i64 0,.string ⟨#[]⟩,.slice (some ⟨w.heap.size,0,none⟩) 2 2,.int .i64 3,.int .i64 17,.int .i64 0,.string ⟨#[]⟩,.slice (some ⟨w.heap.size+1+1,0,none⟩) 1 1] 31)).alloc (.cells #[.int .i64 4,.int .i64 3,.int .i64 0,.string ⟨#[]⟩,.slice (some ⟨w.heap.size+1+1+1,0,none⟩) 2 2] 31))=W at*;have HX:Hid (w.heap.size+1+1+1+1+1=W.heap.size):=HE.o.2.1.symm;have HB:=Za HE.o.2.2.2;have HEA:Hid (Aj (· <W.heap.size) W exE.args (.slice (some ⟨w.heap.size+1+1+1,0,none⟩) 2 2)):=by show Aj _ _ _ _;rw[←HX.o];exact HE.o.1
 have HR:=Za HE.o.2.2.1;have HT1:Hid (Da W):=HT.o.keep (HB.o.block _ HG.o);have HGW:Hid (3<W.heap.size):=Zh HG.o HB.o.size;clear HE HT;refine(Lf exE _ W HGW.o HT1.o HEA.o (Dw ⟨by decide,by decide⟩) Vo (by rw[Rp];show _≤_;decide)).mono ?_;rw[Rp];rintro r w1 ⟨rfl,hb1⟩;have HB1:=Za hb1;have hsz:=hb1.size;have HR1:=Za (HR.o.below (hb1.mono (Nat.le_refl _)));have c0:=HR1.o.at 0 _ rfl;have c1:=HR1.o.at 1 _ rfl;have c2:=HR1.o.at 2 _ rfl;have c3:=HR1.o.at 3 _ rfl;have c4:=HR1.o.at 4 _ rfl;simp only[exE,Ex.kind,Ex.op,Ex.n]at c0 c1 c2;replace c3:w1.cell? ⟨w.heap.size+1+1+1+1,3,none⟩=some (.string ⟨#[]⟩):=c3;have HE1:Hid (Aj (· <w1.heap.size) w1 exE.args (.slice (some ⟨w.heap.size+1+1+1,0,none⟩) 2 2)):=(HEA.o.old hb1).mono (fun b h=>Zh h hsz);have HP:=Za (awake_P w1 _ rfl _ HE1.o);clear hb1 HR;go_wp2_with fail
 generalize ((((w1.alloc (.cells #[.int .i64 4,.int .i64 3,.int .i64 0,.string ⟨#[]⟩,.slice (some ⟨w.heap.size+1+1+1,0,none⟩) 2 2] 31)).alloc (.cells #[.int .i64 8,.string ⟨#[]⟩,.slice (some ⟨w1.heap.size,0,none⟩) 1 1,.slice none 0 0,.slice none 0 0] 56)).alloc (.cells #[.string ⟨#[109,97,105,110]⟩,.slice none 0 0,.slice none 0 0,.slice (some ⟨w1.heap.size+1,0,none⟩) 1 1] 47)).alloc (.cells #[.slice none 0 0,.slice (some ⟨w1.heap.size+1+1,0,none⟩) 1 1] 27))=V at*;have HX':Hid (w1.heap.size+1+1+1+1=V.heap.size):=HP.o.2.1.symm;have HBV:=Za (HB1.o.trans (HP.o.2.2.2.mono hsz));have HFU:Hid (Bk (· <V.heap.size) V exP.funcs (.slice (some ⟨w1.heap.size+1+1,0,none⟩) 1 1)):=by show Bk _ _ _ _;rw[←HX'.o];exact HP.o.1
 have HRP:=Za HP.o.2.2.1;have HT2:Hid (Da V):=HT1.o.keep (HBV.o.block _ HGW.o);have HGV:Hid (3<V.heap.size):=Zh HGW.o HBV.o.size;have HEV:Hid (Aj (· <W.heap.size) V exE.args (.slice (some ⟨w.heap.size+1+1+1,0,none⟩) 2 2)):=HEA.o.old HBV.o;have HRV:=Za (HR1.o.below (HP.o.2.2.2.mono (Nat.le_refl _)));clear HP c0 c1 c2 c3 c4;refine(Yd exP _ _ V HGV.o HT2.o Ze HFU.o cQ (by rw[Rf];simp) (by rw[Rf];show _≤_;decide)).mono ?_;rw[Rf];rintro r w2 ⟨rfl,hb2⟩;have HB2:=Za hb2;have HRP2:=Za (HRP.o.below hb2);have HRE2:=Za (HRV.o.below hb2);have HFU2:=Za (Bk.old hb2 HFU.o);have HEV2:=Za (HEV.o.old hb2);have hs2:=hb2.size;clear hb2;go_wp2_with fail
 refine(Mg (.mk 0 0 0 [] []) (· <V.heap.size) _ _ Aj.zero fK).mono ?_;rintro r w3 ⟨rfl,hb3⟩;have HB3:=Za hb3;have HRP3:=Za (HRP2.o.below hb3);have HRE3:=Za (HRE2.o.below hb3);have HFU3:=Za (Bk.old hb3 HFU2.o);have HEV3:=Za (HEV2.o.old hb3);have hs3:=hb3.size;clear hb3;have p0:=HRP3.o.at 0 _ rfl;have p1:=HRP3.o.at 1 _ rfl;go_wp2_with fail
 refine(Ra exP (· <V.heap.size) _ _ _ Ze HFU3.o (by rw[dF];show _≤_;omega)).mono ?_;rw[dF];rintro r w4 ⟨rfl,hb4⟩;have HB4:=Za hb4;have HRP4:=Za (HRP3.o.below hb4);have HRE4:=Za (HRE3.o.below hb4);have HFU4:=Za (Bk.old hb4 HFU3.o);have HEV4:=Za (HEV3.o.old hb4);have hs4:=hb4.size;clear hb4 p0 p1;have p0:=HRP4.o.at 0 _ rfl;have p1:=HRP4.o.at 1 _ rfl;go_wp2_with fail
 refine(Jo exP (· <V.heap.size) _ _ _ Ze HFU4.o).mono ?_;rw[cQ];rintro r w5 ⟨rfl,hb5⟩;have HB5:=Za hb5;have HRP5:=Za (HRP4.o.below hb5);have HRE5:=Za (HRE4.o.below hb5);have HFU5:=Za (Bk.old hb5 HFU4.o);have HEV5:=Za (HEV4.o.old hb5);have hs5:=hb5.size;clear hb5 p0 p1;have c0:=HRE5.o.at 0 _ rfl;have c1:=HRE5.o.at 1 _ rfl;have c2:=HRE5.o.at 2 _ rfl;have c3:=HRE5.o.at 3 _ rfl;have c4:=HRE5.o.at 4 _ rfl;simp only[exE,Ex.kind,Ex.op,Ex.n]at c0 c1 c2;replace c3:w5.cell? ⟨w.heap.size+1+1+1+1,3,none⟩=some (.string ⟨#[]⟩):=c3;go_wp2_with fail
 refine(Fz exE (· <W.heap.size) _ _ HEV5.o).mono ?_;rw[Vo];rintro r w6 ⟨rfl,hb6⟩;have HB6:=Za hb6;have HRP6:=Za (HRP5.o.below hb6);have HFU6:=Za (Bk.old hb6 HFU5.o);have hs6:=hb6.size;clear hb6 c0 c1 c2 c3 c4;have p0:=HRP6.o.at 0 _ rfl;have p1:=HRP6.o.at 1 _ rfl;go_wp2_with fail
 refine(Ne exP ⟨[],[]⟩ (· <V.heap.size) _ _ _ _ _ Ze HFU6.o Ze Bk.zero).mono ?_;rw[same_P0];rintro r w7 ⟨rfl,hb7⟩;have HB7:=Za hb7;have HRP7:=Za (HRP6.o.below hb7);have HFU7:=Za (Bk.old hb7 HFU6.o);have hs7:=hb7.size;clear hb7 p0 p1;have p0:=HRP7.o.at 0 _ rfl;have p1:=HRP7.o.at 1 _ rfl;go_wp2_with fail
 refine(Ne exP exP (· <V.heap.size) _ _ _ _ _ Ze HFU7.o Ze HFU7.o).mono ?_;rw[same_PP];rintro r w8 ⟨rfl,hb8⟩;have HB8:=Za hb8;clear hb8 p0 p1;go_wp2_with fail
 go_ret
 refine⟨rfl,?_⟩;have l0:=HB.o.size;have l1:=HBV.o.size;exact HB.o.trans (((((((((HBV.o.trans (HB2.o.mono l1)).trans (HB3.o.mono (by omega))).trans (HB4.o.mono (by omega))).trans (HB5.o.mono (by omega))).trans (HB6.o.mono (by omega))).trans (HB7.o.mono (by omega))).trans (HB8.o.mono (by omega))).mono l0))
theorem Tp {w w':World}(h:Da w)(hg:3<w.heap.size)(hb:Below w.heap.size w w'):Da w':=h.keep (hb.block _ hg)
theorem prog_in {w:World}{raw:List Int}{free:Bool}{r:Ending}{w':World}(h:cR w (Gg raw free) r w'):∃va vf,r=.returned (.agg #[va,vf])∧Below w.heap.size w w'∧Qc w' (Gg raw free) va vf:=by
 obtain⟨va,vf,ds,h1,h2,h3,h4,h5,h6⟩:=h;have hO:=Wi.of h3 h4 h5 h6;have hl:=fH raw free;have hpf:=iL;have hc:Fv (Gg raw free)≤(Dv (Gg raw free)).length:=Xl (Ic raw free);exact⟨va,vf,h1,h2,hO.ars,hO.fus,by omega,fun _=>by omega⟩
theorem Xw {w:World}{raw:List Int}{r:Ending}{w':World}(h:Xu w (Ih raw) r w'):∃v,r=.returned (exV (Ih raw) v)∧Below w.heap.size w w'∧Sm w' (Ih raw) v:=by
 obtain⟨v,h1,h2,h3,h4⟩:=h;refine⟨v,h1,h2,h3.strong.mono (fun b hb=>hb.2),h4,fun _=>?_⟩;exact Nat.le_trans (Ip ⟨fun _ hx=>(Zi hx).elim,fun _ hx=>(Zi hx).elim,fun _ hx=>(Zi hx).elim⟩ _ 6 0) (by decide)
theorem odd_in {w:World}{r:Ending}{w':World}(h:Wq w r w'):∃e v,r=.returned (exV e v)∧Below w.heap.size w w'∧Sm w' e v:=by
 obtain⟨e,v,h1,h2,h3,h4,h5⟩:=h;refine⟨e,v,h1,h2,h3.strong.mono (fun b hb=>hb.2),h4,fun hr=>?_⟩;have hn:N64 e:=by
  have:=h3.n64;obtain⟨k,o,n,nm,args⟩:=e;exact .mk k o n nm args h4 this
 have hw:Bb e=true:=by unfold Be at hr;rw[Bool.and_eq_true]at hr;exact hr.2
 have:=bQ e hw hn;omega
def EMid(w wr:World)(e:Ex)(e1:Option Addr)(e2:Nat)(g:Ex)(s:Value)(wx:World):Prop:= ∃(b:Nat) (g1:Option Addr) (g2:Nat),s=.slice (some ⟨b,0,none⟩) 2 2∧
 Al wx b [.int .i64 e.kind,.int .i64 e.op,.int .i64 e.n,.string (Aa e.name),.slice e1 e.args.length e2,.int .i64 g.kind,.int .i64 g.op,.int .i64 g.n,.string (Aa g.name),.slice g1 g.args.length g2] 31∧
 Below w.heap.size w wx∧Below wr.heap.size wr wx∧Sm wx g (.slice g1 g.args.length g2)
theorem aQ(HWILD:∀(raw:List Int) (rv:Value) (w:World),Fj (· <w.heap.size) w raw rv→Calls Zb 6 #[rv] w (WildP w))
  (one two raw:List Int) (free:Bool) (v0 v1 v2:Value) (w:World) (h0:Fj (· <w.heap.size) w one v0) (h1:Fj (· <w.heap.size) w two v1) (h2:Fj (· <w.heap.size) w raw v2) (hg:3<w.heap.size) (ht:Da w):
  Calls Zb 3 #[v0,v1,v2,.bool free] w fun e w'=>e=.returned (.bool true)∧Below w.heap.size w w':=by
 obtain⟨s0,s1,rfl⟩:=h0.shape;obtain⟨t0,t1,rfl⟩:=h1.shape;obtain⟨u0,u1,rfl⟩:=h2.shape;have XR:Hid (Cd (Gg raw free)=true):=Ic raw free;have ER:Hid (Be (Ih raw)=true):=Sb raw;have HG:=Za hg;have HT:=Za ht;have H0:=Za h0;have H1:=Za h1;have H2:=Za h2;have HW1:=Za (fun w1 h=>HWILD one (.slice s0 one.length s1) w1 h);have HW2:=Za (fun w1 h=>HWILD two (.slice t0 two.length t1) w1 h);have HO:=Za (fun w1 h=>jV one (.slice s0 one.length s1) w1 h);have HX:=Za (fun w1 h=>iZ raw free (.slice u0 raw.length u1) w1 h);have HE:=Za (fun w1 h=>dP raw (.slice u0 raw.length u1) w1 h);clear hg ht h0 h1 h2 HWILD;go_enter func3,ntmps3
 go_wp2_with fail
 refine(fU w HG.o HT.o).mono ?_;rintro r w1 ⟨rfl,hb1⟩;have B1:=Za hb1;clear hb1;go_wp2_with fail
 refine(HW1.o w1 (H0.o.old B1.out)).mono ?_;rintro r w2 ⟨p,pa,pf,rfl,hb2,hp2⟩;obtain⟨p1,p2,rfl⟩:=hp2.a.shape;obtain⟨p3,p4,rfl⟩:=hp2.f.shape;have hal:Below w2.heap.size w2 (w2.alloc (.cells #[.slice p1 p.arrays.length p2,.slice p3 p.funcs.length p4] 27)):=bA;have B3:=Za ((B1.out.trans (hb2.mono B1.out.size)).trans (hal.mono (Nat.le_trans B1.out.size hb2.size)));have P3:=Za (hp2.old hal);have OP3:=Za (Zc w2 [.slice p1 p.arrays.length p2,.slice p3 p.funcs.length p4] 27);clear hb2 hp2 hal B1 HW1;go_upto_region 3 with(fail)
 generalize w2.alloc (.cells #[.slice p1 p.arrays.length p2,.slice p3 p.funcs.length p4] 27)=w3 at*;generalize w2.heap.size=pb at*;go_wp2_with fail
 refine(HW2.o w3 (H1.o.old B3.out)).mono ?_;rintro r w4 ⟨q,qa,qf,rfl,hb4,hq4⟩;obtain⟨q1,q2,rfl⟩:=hq4.a.shape;obtain⟨q3,q4,rfl⟩:=hq4.f.shape;have hal:Below w4.heap.size w4 (w4.alloc (.cells #[.slice q1 q.arrays.length q2,.slice q3 q.funcs.length q4] 27)):=bA;have hbb:=hb4.trans (hal.mono hb4.size);have B5:=Za (B3.out.trans (hbb.mono B3.out.size));have P5:=Za (P3.out.old hbb);have OP5:=Za (OP3.out.old hbb);have Q5:=Za (hq4.old hal);have OQ5:=Za (Zc w4 [.slice q1 q.arrays.length q2,.slice q3 q.funcs.length q4] 27);clear hb4 hq4 hal hbb B3 P3 OP3 HW2;go_upto_region 4 with(fail)
 generalize w4.alloc (.cells #[.slice q1 q.arrays.length q2,.slice q3 q.funcs.length q4] 27)=w5 at*;generalize w4.heap.size=qb at*;go_wp2_with fail
 refine(HO.o w5 (H0.o.old B5.out)).mono ?_;rintro r w6 hr;obtain⟨e,ea,rfl,hb6,he6⟩:=odd_in hr;obtain⟨e1,e2,rfl⟩:=he6.a.shape;have hal:Below w6.heap.size w6 (w6.alloc (.cells #[.int .i64 e.kind,.int .i64 e.op,.int .i64 e.n,.string (Aa e.name),.slice e1 e.args.length e2] 31)):=bA;have hbb:=hb6.trans (hal.mono hb6.size);have B7:=Za (B5.out.trans (hbb.mono B5.out.size));have P7:=Za (P5.out.old hbb);have OP7:=Za (OP5.out.old hbb);have Q7:=Za (Q5.out.old hbb);have OQ7:=Za (OQ5.out.old hbb);have E7:=Za (he6.old hal);have OE7:=Za (Zc w6 [.int .i64 e.kind,.int .i64 e.op,.int .i64 e.n,.string (Aa e.name),.slice e1 e.args.length e2] 31);clear hr hb6 he6 hal hbb B5 P5 OP5 Q5 OQ5 HO;go_upto_region 5 with(fail)
 generalize w6.alloc (.cells #[.int .i64 e.kind,.int .i64 e.op,.int .i64 e.n,.string (Aa e.name),.slice e1 e.args.length e2] 31)=w7 at*;generalize w6.heap.size=eb at*;go_wp2_with fail
 refine(HX.o w7 (H2.o.old B7.out)).mono ?_;rintro r w8 hr;obtain⟨xa,xf,rfl,hb8,hx8⟩:=prog_in hr;generalize Gg raw free=x at*;obtain⟨x1,x2,rfl⟩:=hx8.a.shape;obtain⟨x3,x4,rfl⟩:=hx8.f.shape;have hal:Below w8.heap.size w8 (w8.alloc (.cells #[.slice x1 x.arrays.length x2,.slice x3 x.funcs.length x4] 27)):=bA;have hbb:=hb8.trans (hal.mono hb8.size);have B9:=Za (B7.out.trans (hbb.mono B7.out.size));have P9:=Za (P7.out.old hbb);have OP9:=Za (OP7.out.old hbb);have Q9:=Za (Q7.out.old hbb);have OQ9:=Za (OQ7.out.old hbb);have E9:=Za (E7.out.old hbb);have OE9:=Za (OE7.out.old hbb);have X9:=Za (hx8.old hal);have OX9:=Za (Zc w8 [.slice x1 x.arrays.length x2,.slice x3 x.funcs.length x4] 27);clear hr hb8 hx8 hal hbb B7 P7 OP7 Q7 OQ7 E7 OE7 HX;go_upto_region 6 with(fail)
 generalize w8.alloc (.cells #[.slice x1 x.arrays.length x2,.slice x3 x.funcs.length x4] 27)=w9 at*;generalize w8.heap.size=xb at*;have y0:=OP9.out.at 0 _ rfl;have y1:=OP9.out.at 1 _ rfl;have z0:=OX9.out.at 0 _ rfl;have z1:=OX9.out.at 1 _ rfl;have hal:Below w9.heap.size w9 (w9.alloc (.cells #[.slice p1 p.arrays.length p2,.slice p3 p.funcs.length p4,.slice x1 x.arrays.length x2,.slice x3 x.funcs.length x4] 27)):=bA;have BA:=Za (B9.out.trans (hal.mono B9.out.size));have PA:=Za (P9.out.old hal);have QA:=Za (Q9.out.old hal);have OQA:=Za (OQ9.out.old hal);have EA:=Za (E9.out.old hal);have OEA:=Za (OE9.out.old hal);have XA:=Za (X9.out.old hal);have OXA:=Za (OX9.out.old hal);have OYA:=Za (Zc w9 [.slice p1 p.arrays.length p2,.slice p3 p.funcs.length p4,.slice x1 x.arrays.length x2,.slice x3 x.funcs.length x4] 27);clear hal P9 OP9 Q9 OQ9 E9 OE9 X9 OX9 B9
 go_upto_block 0 with(fail)
 clear y0 y1 z0 z1;generalize w9.alloc (.cells #[.slice p1 p.arrays.length p2,.slice p3 p.funcs.length p4,.slice x1 x.arrays.length x2,.slice x3 x.funcs.length x4] 27)=wA at*;generalize w9.heap.size=yb at*;go_wp2_with fail
 go_loopw [40] (fun s40 wr=> ∃k:Nat,k≤2∧s40=.int .i64 k∧Hid (Below w.heap.size w wr)∧Hid (Below wA.heap.size wA wr)) (fun s40 _=>2-(intOf s40).toNat)
 case atStart=>exact⟨0,by omega,rfl,BA,Zd _ _⟩
 case round=>
  obtain⟨k,hk,rfl,GB,GW⟩:=hrel;have OY:=Za (OYA.out.old GW.out)
  by_cases hlt:k<2
  ·have hkI:(k:Int)<2:=by omega
   obtain⟨y,y1,y2,y3,y4,hy,c0,c1⟩:∃(y:Pr) (y1:Option Addr) (y2:Nat) (y3:Option Addr) (y4:Nat),Qc wA y (.slice y1 y.arrays.length y2) (.slice y3 y.funcs.length y4)∧wr.cell? ⟨yb,k*2,none⟩=some (.slice y1 y.arrays.length y2)∧wr.cell? ⟨yb,k*2+1,none⟩=some (.slice y3 y.funcs.length y4):=by
    rcases(by omega:k=0∨k=1)with rfl|rfl
    ·exact⟨p,_,_,_,_,PA.out,OY.out.at 0 _ rfl,OY.out.at 1 _ rfl⟩
    ·exact⟨x,_,_,_,_,XA.out,OY.out.at 2 _ rfl,OY.out.at 3 _ rfl⟩
   have hal:Below wr.heap.size wr (wr.alloc (.cells #[.slice y1 y.arrays.length y2,.slice y3 y.funcs.length y4] 27)):=bA;have B2:=Za (GB.out.trans (hal.mono GB.out.size));have W2:=Za (GW.out.trans (hal.mono GW.out.size));have OY2:=Za (Zc wr [.slice y1 y.arrays.length y2,.slice y3 y.funcs.length y4] 27);have HY:=Za hy;clear hal hy OY;go_upto_region 9 with(fail)
   clear c0 c1;generalize wr.alloc (.cells #[.slice y1 y.arrays.length y2,.slice y3 y.funcs.length y4] 27)=wB at*;generalize wr.heap.size=yc at*;have d0:=OY2.out.at 0 _ rfl;have d1:=OY2.out.at 1 _ rfl;have HC:=Za (aK (HY.o.old W2.out) (Zh HG.o B2.out.size) (Tp HT.o HG.o B2.out));go_wp2_with fail
   refine HC.o.mono ?_;rintro r wC ⟨rfl,hbC⟩;have B3:=Za (B2.out.trans (hbC.mono B2.out.size));have W3:=Za (W2.out.trans (hbC.mono W2.out.size));have OY3:=Za (OY2.out.old hbC);clear hbC d0 d1 HC B2 W2 OY2;have d0:=OY3.out.at 0 _ rfl;have d1:=OY3.out.at 1 _ rfl;have HC:=Za (aY (HY.o.old W3.out));go_wp2_with fail
   refine HC.o.mono ?_;rintro r wD ⟨rfl,hbD⟩;have B4:=Za (B3.out.trans (hbD.mono B3.out.size));have W4:=Za (W3.out.trans (hbD.mono W3.out.size));have OY4:=Za (OY3.out.old hbD);clear hbD d0 d1 HC B3 W3 OY3;obtain⟨Ix,hIx,F,HFB,HFI⟩:=Kl wD;have HYF:Hid (∀n,Qc (F n) y (.slice y1 y.arrays.length y2) (.slice y3 y.funcs.length y4)):=fun n=>(HY.o.old W4.out).old (HFB.o n)
   have HQF:Hid (∀n,Qc (F n) q (.slice q1 q.arrays.length q2) (.slice q3 q.funcs.length q4)):=fun n=>(QA.out.old W4.out).old (HFB.o n)
   have K1:Hid (∀n,Calls Zb 11 #[.agg #[.slice y1 y.arrays.length y2,.slice y3 y.funcs.length y4]] (F n) fun r w'=>r=.returned (.bool (Cd y))∧∃m,w'=F m):=fun n=>by
    refine(Jo y _ _ _ (F n) (HYF.o n).a (HYF.o n).f).mono ?_;rintro r w' ⟨he,hb⟩;exact⟨he,HFI.o w' ((HFB.o n).trans (hb.mono (HFB.o n).size))⟩
   have K2:Hid (∀n,Calls Zb 12 #[.agg #[.slice y1 y.arrays.length y2,.slice y3 y.funcs.length y4]] (F n) fun r w'=>r=.returned (.bool (Cd y))∧∃m,w'=F m):=fun n=>by
    refine(Ou y _ _ _ (F n) (HYF.o n).a (HYF.o n).f).mono ?_;rintro r w' ⟨he,hb⟩;exact⟨he,HFI.o w' ((HFB.o n).trans (hb.mono (HFB.o n).size))⟩
   have K3:Hid (∀n,Calls Zb 13 #[.agg #[.slice y1 y.arrays.length y2,.slice y3 y.funcs.length y4]] (F n) fun r w'=>r=.returned (.int .i64 (Fv y))∧∃m,w'=F m):=fun n=>by
    refine(Ra y _ _ _ (F n) (HYF.o n).a (HYF.o n).f (HYF.o n).c).mono ?_;rintro r w' ⟨he,hb⟩;exact⟨he,HFI.o w' ((HFB.o n).trans (hb.mono (HFB.o n).size))⟩
   have K4:Hid (∀n,Calls Zb 14 #[.agg #[.slice y1 y.arrays.length y2,.slice y3 y.funcs.length y4]] (F n) fun r w'=>r=.returned (.int .i64 (Fv y))∧∃m,w'=F m):=fun n=>by
    refine(dY y _ _ _ (F n) (HYF.o n).a (HYF.o n).f (HYF.o n).c).mono ?_;rintro r w' ⟨he,hb⟩;exact⟨he,HFI.o w' ((HFB.o n).trans (hb.mono (HFB.o n).size))⟩
   have K5:Hid (∀n,Calls Zb 15 #[.agg #[.slice y1 y.arrays.length y2,.slice y3 y.funcs.length y4],.agg #[.slice q1 q.arrays.length q2,.slice q3 q.funcs.length q4]] (F n) fun r w'=>r=.returned (.bool (Fh y q))∧∃m,w'=F m):=fun n=>by
    refine(Ne y q _ _ _ _ _ (F n) (HYF.o n).a (HYF.o n).f (HQF.o n).a (HQF.o n).f).mono ?_;rintro r w' ⟨he,hb⟩;exact⟨he,HFI.o w' ((HFB.o n).trans (hb.mono (HFB.o n).size))⟩
   have K6:Hid (∀n,Calls Zb 16 #[.agg #[.slice y1 y.arrays.length y2,.slice y3 y.funcs.length y4],.agg #[.slice q1 q.arrays.length q2,.slice q3 q.funcs.length q4]] (F n) fun r w'=>r=.returned (.bool (Fh y q))∧∃m,w'=F m):=fun n=>by
    refine(eT y q _ _ _ _ _ (F n) (HYF.o n).a (HYF.o n).f (HQF.o n).a (HQF.o n).f).mono ?_;rintro r w' ⟨he,hb⟩;exact⟨he,HFI.o w' ((HFB.o n).trans (hb.mono (HFB.o n).size))⟩
   have K7:Hid (∀n,Calls Zb 15 #[.agg #[.slice y1 y.arrays.length y2,.slice y3 y.funcs.length y4],.agg #[.slice y1 y.arrays.length y2,.slice y3 y.funcs.length y4]] (F n) fun r w'=>r=.returned (.bool true)∧∃m,w'=F m):=fun n=>by
    refine(Ts y _ _ _ (F n) (HYF.o n).a (HYF.o n).f).mono ?_;rintro r w' ⟨he,hb⟩;exact⟨he,HFI.o w' ((HFB.o n).trans (hb.mono (HFB.o n).size))⟩
   have K8:Hid (∀n,Calls Zb 15 #[.agg #[.slice q1 q.arrays.length q2,.slice q3 q.funcs.length q4],.agg #[.slice q1 q.arrays.length q2,.slice q3 q.funcs.length q4]] (F n) fun r w'=>r=.returned (.bool true)∧∃m,w'=F m):=fun n=>by
    refine(Ts q _ _ _ (F n) (HQF.o n).a (HQF.o n).f).mono ?_;rintro r w' ⟨he,hb⟩;exact⟨he,HFI.o w' ((HFB.o n).trans (hb.mono (HFB.o n).size))⟩
   have d0:=OY4.out.at 0 _ rfl;have d1:=OY4.out.at 1 _ rfl;have OQ4:=Za (OQA.out.old W4.out);have g0:∀n,(F n).cell? ⟨yc,0,none⟩=some (.slice y1 y.arrays.length y2):=fun n=>Ac (HFB.o n) d0
   have g1:∀n,(F n).cell? ⟨yc,1,none⟩=some (.slice y3 y.funcs.length y4):=fun n=>Ac (HFB.o n) d1
   have g2:∀n,(F n).cell? ⟨qb,0,none⟩=some (.slice q1 q.arrays.length q2):=fun n=>Ac (HFB.o n) (OQ4.out.at 0 _ rfl)
   have g3:∀n,(F n).cell? ⟨qb,1,none⟩=some (.slice q3 q.funcs.length q4):=fun n=>Ac (HFB.o n) (OQ4.out.at 1 _ rfl)
   have HST:Hid (∃n,wD.drew=F n):=HFI.o _ (Zd _ _).drew;clear d0 d1 HYF HQF HY;generalize Cd y=rb at*;generalize Fv y=cn at*;generalize Fh y q=sb at*;generalize prS y=PS at*;generalize prC y=PC at*;generalize y.arrays.length=yal at*;generalize y.funcs.length=yfl at*;go_upto_region 11 with(fail)
   go_wp2_with fail
   refine Hv F (by kernel_rfl) (by kernel_rfl) HST.o ?_
   repeat(go_big_quiet_step (first
    |(go_at_call 11;with_reducible exact K1.out _)
    |(go_at_call 12;with_reducible exact K2.out _)
    |(go_at_call 13;with_reducible exact K3.out _)
    |(go_at_call 14;with_reducible exact K4.out _)
    |(go_at_call 16;with_reducible exact K6.out _)
    |(go_at_call 15;first|(with_reducible exact K5.out _)|(with_reducible exact K7.out _)|(with_reducible exact K8.out _))))
   refine wpQuiet_nil ?_;intro _ hw';obtain⟨nq,hw''⟩:=hw';subst hw'';have B5:=Za (B4.out.trans ((HFB.o nq).mono B4.out.size));have W5:=Za (W4.out.trans ((HFB.o nq).mono W4.out.size));clear K1 K2 K3 K4 K5 K6 K7 K8 g0 g1 g2 g3;go_wp2_with fail
   go_roundw
   case rel=>exact⟨k+1,by omega,by go_num,B5,W5⟩
   case measure=>simp [intOf];omega
  ·have hk2:¬((k:Int)<2):=by omega
   have X1:=Za (XA.out.old GW.out);have OX1:=Za (OXA.out.old GW.out);have E1:=Za (EA.out.old GW.out);have OE1:=Za (OEA.out.old GW.out);clear OY PA QA OQA EA OEA XA OXA OYA BA;have HEC:=Za ((HE.o wr.drew (H2.o.old (GB.out.trans ((Zd wr.heap.size wr).drew.mono GB.out.size)))).mono (fun _ _ h=>Xw h));have HEW:=Za (fun w1 h=>(HE.o w1 h).mono (fun _ _ h=>Xw h));have x0:=OE1.out.at 0 _ rfl;have x1':=OE1.out.at 1 _ rfl;have x2':=OE1.out.at 2 _ rfl;have x3':=OE1.out.at 3 _ rfl;have x4':=OE1.out.at 4 _ rfl;have hebl:=OE1.out.lt;have OEd:=Za (OE1.out.old (Zd wr.heap.size wr).drew);have Bd:=Za (GB.out.trans ((Zd wr.heap.size wr).drew.mono GB.out.size));have Wd:Hid (Below wr.heap.size wr wr.drew):=(Zd _ _).drew;generalize Ih raw=g at*;go_upto_region 14 with(fail)
   go_cut [101,102,103] (fun s101 s102 s103 wx=>s102=.int .i64 2∧s103=.int .i64 0∧EMid w wr e e1 e2 g s101 wx)
   case first=>
    go_region_law (first
     |((try go_simp);go_at_call 17;refine HEC.o.mono ?_;rintro r w6 ⟨ga,he,hb6,hg6⟩;obtain⟨g1,g2,hgv⟩:=hg6.a.shape;subst hgv;subst he;have OE6:=Za (OEd.out.old hb6);have u0:=OE6.out.at 0 _ rfl;have u1:=OE6.out.at 1 _ rfl;have u2:=OE6.out.at 2 _ rfl;have u3:=OE6.out.at 3 _ rfl;have u4:=OE6.out.at 4 _ rfl;have hal:Below w6.heap.size w6 (w6.alloc (.cells #[.int .i64 e.kind,.int .i64 e.op,.int .i64 e.n,.string (Aa e.name),.slice e1 e.args.length e2,.int .i64 g.kind,.int .i64 g.op,.int .i64 g.n,.string (Aa g.name),.slice g1 g.args.length g2] 31)):=bA;have hbb:=hb6.trans (hal.mono hb6.size);have HM:Hid (EMid w wr e e1 e2 g (.slice (some ⟨w6.heap.size,0,none⟩) 2 2) (w6.alloc (.cells #[.int .i64 e.kind,.int .i64 e.op,.int .i64 e.n,.string (Aa e.name),.slice e1 e.args.length e2,.int .i64 g.kind,.int .i64 g.op,.int .i64 g.n,.string (Aa g.name),.slice g1 g.args.length g2] 31))):=⟨w6.heap.size,g1,g2,rfl,Zc w6 [.int .i64 e.kind,.int .i64 e.op,.int .i64 e.n,.string (Aa e.name),.slice e1 e.args.length e2,.int .i64 g.kind,.int .i64 g.op,.int .i64 g.n,.string (Aa g.name),.slice g1 g.args.length g2] 31,Bd.out.trans (hbb.mono Bd.out.size),Wd.out.trans (hbb.mono Wd.out.size),hg6.old hal⟩;clear hb6 hg6 hal hbb))
    all_goals
     go_wp2_with fail
     go_meet;exact⟨rfl,rfl,HM.o⟩
   case rest=>
   obtain⟨rfl,rfl,lb,g1,g2,rfl,hO,hB,hW,hg⟩:=hcut;have OL:=Za hO;have LB:=Za hB;have LW:=Za hW;have LG:=Za hg;have LE:=Za (E1.out.old hW);have LX:=Za (X1.out.old hW);have LOX:=Za (OX1.out.old hW);clear hO hB hW hg x0 x1' x2' x3' x4' hebl OEd Bd Wd HEC E1 X1 OX1 OE1 GW;go_wp2_with fail
   go_loopw [103] (fun s103 wr'=> ∃k:Nat,k≤2∧s103=.int .i64 k∧Hid (Below w.heap.size w wr')∧Hid (Below wc.heap.size wc wr')) (fun s103 _=>2-(intOf s103).toNat)
   case atStart=>exact⟨0,by omega,rfl,LB,Zd _ _⟩
   case round=>
    clear GB;obtain⟨k,hk,rfl,GB,GW⟩:=hrel;have OY:=Za (OL.out.old GW.out)
    by_cases hlt:k<2
    ·have hkI:(k:Int)<2:=by omega
     obtain⟨y,y1,y2,hy,c0,c1,c2,c3,c4⟩:∃(y:Ex) (y1:Option Addr) (y2:Nat),Sm wc y (.slice y1 y.args.length y2)∧wr.cell? ⟨lb,k*5,none⟩=some (.int .i64 y.kind)∧wr.cell? ⟨lb,k*5+1,none⟩=some (.int .i64 y.op)∧wr.cell? ⟨lb,k*5+2,none⟩=some (.int .i64 y.n)∧wr.cell? ⟨lb,k*5+3,none⟩=some (.string (Aa y.name))∧wr.cell? ⟨lb,k*5+4,none⟩=some (.slice y1 y.args.length y2):=by
      rcases(by omega:k=0∨k=1)with rfl|rfl
      ·exact⟨e,_,_,LE.out,OY.out.at 0 _ rfl,OY.out.at 1 _ rfl,OY.out.at 2 _ rfl,OY.out.at 3 _ rfl,OY.out.at 4 _ rfl⟩
      ·exact⟨g,_,_,LG.out,OY.out.at 5 _ rfl,OY.out.at 6 _ rfl,OY.out.at 7 _ rfl,OY.out.at 8 _ rfl,OY.out.at 9 _ rfl⟩
     have hal:Below wr.heap.size wr (wr.alloc (.cells #[.int .i64 y.kind,.int .i64 y.op,.int .i64 y.n,.string (Aa y.name),.slice y1 y.args.length y2] 31)):=bA;have B2:=Za (GB.out.trans (hal.mono GB.out.size));have W2:=Za (GW.out.trans (hal.mono GW.out.size));have OY2:=Za (Zc wr [.int .i64 y.kind,.int .i64 y.op,.int .i64 y.n,.string (Aa y.name),.slice y1 y.args.length y2] 31);have HY:=Za hy;clear hal hy OY;go_upto_region 17 with(fail)
     clear c0 c1 c2 c3 c4;generalize wr.alloc (.cells #[.int .i64 y.kind,.int .i64 y.op,.int .i64 y.n,.string (Aa y.name),.slice y1 y.args.length y2] 31)=wB at*;generalize wr.heap.size=yc at*;have d0:=OY2.out.at 0 _ rfl;have d1:=OY2.out.at 1 _ rfl;have d2:=OY2.out.at 2 _ rfl;have d3:=OY2.out.at 3 _ rfl;have d4:=OY2.out.at 4 _ rfl;have HC:=Za (Wr (HY.o.old W2.out) (Zh HG.o B2.out.size) (Tp HT.o HG.o B2.out));go_wp2_with fail
     refine HC.o.mono ?_;rintro r wC ⟨rfl,hbC⟩;have B3:=Za (B2.out.trans (hbC.mono B2.out.size));have W3:=Za (W2.out.trans (hbC.mono W2.out.size));have OY3:=Za (OY2.out.old hbC);clear hbC d0 d1 d2 d3 d4 HC B2 W2 OY2;have d0:=OY3.out.at 0 _ rfl;have d1:=OY3.out.at 1 _ rfl;have d2:=OY3.out.at 2 _ rfl;have d3:=OY3.out.at 3 _ rfl;have d4:=OY3.out.at 4 _ rfl;have HC:=Za (Vp (HY.o.old W3.out));go_wp2_with fail
     refine HC.o.mono ?_;rintro r wD ⟨rfl,hbD⟩;have B4:=Za (B3.out.trans (hbD.mono B3.out.size));have W4:=Za (W3.out.trans (hbD.mono W3.out.size));have OY4:=Za (OY3.out.old hbD);clear hbD d0 d1 d2 d3 d4 HC B3 W3 OY3;obtain⟨Ix,hIx,F,HFB,HFI⟩:=Kl wD;have HYF:Hid (∀n,Sm (F n) y (.slice y1 y.args.length y2)):=fun n=>(HY.o.old W4.out).old (HFB.o n)
     have K1:Hid (∀n,Calls Zb 20 #[.agg #[.int .i64 y.kind,.int .i64 y.op,.int .i64 y.n,.string (Aa y.name),.slice y1 y.args.length y2]] (F n) fun r w'=>r=.returned (.bool (Be y))∧∃m,w'=F m):=fun n=>by
      refine(Fz y _ _ (F n) (HYF.o n).a).mono ?_;rintro r w' ⟨he,hb⟩;exact⟨he,HFI.o w' ((HFB.o n).trans (hb.mono (HFB.o n).size))⟩
     have K2:Hid (∀n,Calls Zb 21 #[.agg #[.int .i64 y.kind,.int .i64 y.op,.int .i64 y.n,.string (Aa y.name),.slice y1 y.args.length y2]] (F n) fun r w'=>r=.returned (.bool (Be y))∧∃m,w'=F m):=fun n=>by
      refine(Hj y _ _ (F n) (HYF.o n).a).mono ?_;rintro r w' ⟨he,hb⟩;exact⟨he,HFI.o w' ((HFB.o n).trans (hb.mono (HFB.o n).size))⟩
     have d0:=OY4.out.at 0 _ rfl;have d1:=OY4.out.at 1 _ rfl;have d2:=OY4.out.at 2 _ rfl;have d3:=OY4.out.at 3 _ rfl;have d4:=OY4.out.at 4 _ rfl;have g0:∀n,(F n).cell? ⟨yc,0,none⟩=some (.int .i64 y.kind):=fun n=>Ac (HFB.o n) d0
     have g1':∀n,(F n).cell? ⟨yc,1,none⟩=some (.int .i64 y.op):=fun n=>Ac (HFB.o n) d1
     have g2':∀n,(F n).cell? ⟨yc,2,none⟩=some (.int .i64 y.n):=fun n=>Ac (HFB.o n) d2
     have g3:∀n,(F n).cell? ⟨yc,3,none⟩=some (.string (Aa y.name)):=fun n=>Ac (HFB.o n) d3
     have g4:∀n,(F n).cell? ⟨yc,4,none⟩=some (.slice y1 y.args.length y2):=fun n=>Ac (HFB.o n) d4
     have HST:Hid (∃n,wD.drew=F n):=HFI.o _ (Zd _ _).drew;clear d0 d1 d2 d3 d4 HYF HY;generalize Be y=rb at*;generalize exS y=PS at*;generalize exC y=PC at*;go_upto_region 19 with(fail)
     go_wp2_with fail
     refine Hv F (by kernel_rfl) (by kernel_rfl) HST.o ?_
     repeat(go_big_quiet_step (first
      |(go_at_call 20;with_reducible exact K1.out _)
      |(go_at_call 21;with_reducible exact K2.out _)))
     refine wpQuiet_nil ?_;intro _ hw';obtain⟨nq,hw''⟩:=hw';subst hw'';have B5:=Za (B4.out.trans ((HFB.o nq).mono B4.out.size));have W5:=Za (W4.out.trans ((HFB.o nq).mono W4.out.size));clear K1 K2 g0 g1' g2' g3 g4;go_wp2_with fail
     go_roundw
     case rel=>exact⟨k+1,by omega,by go_num,B5,W5⟩
     case measure=>simp [intOf];omega
    ·have hk2:¬((k:Int)<2):=by omega
     have OXE:=Za (LOX.out.old GW.out);have XE:=Za (LX.out.old GW.out);have m0:=OXE.out.at 0 _ rfl;have m1:=OXE.out.at 1 _ rfl;have HC:=Za (Jo x _ _ _ wr XE.out.a XE.out.f);rw[XR.out]at HC;clear OY LE LX LG OL LOX LW LB;go_wp2_with fail
     refine HC.o.mono ?_;rintro r wE ⟨rfl,hbE⟩;have BE:=Za (GB.out.trans (hbE.mono GB.out.size));have HCE:=Za (HEW.o wE (H2.o.old BE.out));clear hbE HC m0 m1 GB GW OXE XE;go_wp2_with fail
     refine HCE.o.mono ?_;rintro r wF ⟨ga,rfl,hbF,hgF⟩;obtain⟨ga1,ga2,rfl⟩:=hgF.a.shape;have BF:=Za (BE.out.trans (hbF.mono BE.out.size));have HC:=Za (Fz g _ _ wF hgF.a);rw[ER.out]at HC;clear hbF hgF HCE BE;go_wp2_with fail
     refine HC.o.mono ?_;rintro r wG ⟨rfl,hbG⟩;have BG:=Za (BF.out.trans (hbG.mono BF.out.size));clear hbG HC;go_wp2_with fail
     go_ret
     exact⟨rfl,BG.out⟩
theorem iB:fuB=3728698360:=by decide+kernel
theorem fuN_gen(raw:List Int)(free:Bool):∀f,f∈(Gg raw free).funcs→fuN f≤12+fuB:=by
 intro f hf;have hr:=Ic raw free;unfold Cd at hr;simp only[Bool.and_eq_true,List.all_eq_true]at hr;have hok:=Pb (hr.2 f hf);have h:=Ji (raw.take 400) (Fr (raw.take 400) free) (fun f=>f.params.length≤6∧f.locals.length≤5) (fun g hg a=>by
  have hh:=Ev (raw.take 400) free g hg;refine⟨hh.2.1,?_⟩;show(Cy.take _).length≤5
  rw[List.length_take];exact Nat.min_le_right _ _) (Fr (raw.take 400) free).funcs (fun f hf=>hf) _ f hf
 have h1:=Pd hok;have h2:=Pm raw free f hf;unfold fuN;have:=h.1;have:=h.2;omega
theorem eW(raw:List Int)(free:Bool):∀f,f∈(Gg raw free).funcs→f.params.length≤900∧f.locals.length≤900:=by
 intro f hf;have h:=Ji (raw.take 400) (Fr (raw.take 400) free) (fun f=>f.params.length≤6∧f.locals.length≤5) (fun g hg a=>by
  have hh:=Ev (raw.take 400) free g hg;refine⟨hh.2.1,?_⟩;show(Cy.take _).length≤5
  rw[List.length_take];exact Nat.min_le_right _ _) (Fr (raw.take 400) free).funcs (fun f hf=>hf) _ f hf
 exact⟨by have:=h.1;omega,by have:=h.2;omega⟩
def Far(R PC F X gf:Nat)(b:Nat):Prop:=b≠R∧b≠R+1∧b≠PC∧b≠F∧b≠X∧b≠gf
def Jl(R PC F X gf:Nat)(va:Value)(b:Nat):Prop:=Far R PC F X gf b∧va.ownBlock≠some b
theorem gV {D:Nat→Prop}{w:World}{base:Nat}{l:List Ar}{v:Value}(h:w.ownsRow base 66 2 v l.length (l.flatMap Cs))(hD:∀k,v.ownBlock=some k→D k)(hf:Ci l.length):Bp D w l v:=by
 have h0:=h;rcases h.2 with⟨rfl,hz⟩|⟨g,cap,cur,rfl,hb,hg,hc,hm,hs,ht⟩
 ·have:l=[]:=Zk.1 hz
  subst this;exact Ze
 ·refine⟨_,cap,g,0,rfl,hc,hf,.inr ⟨rfl,hD g rfl⟩,fun i hi=>?_⟩
  have hp:l[i]? =some (Dj l i):=by simp [Dj,Zl hi]
  have f0:=Ia Cs 2 (fun _=>rfl) l i 0 _ hp (by decide);have f1:=Ia Cs 2 (fun _=>rfl) l i 1 _ hp (by decide);have c0:=Es h0 (i*2+0) _ f0;have c1:=Es h0 (i*2+1) _ f1;rw[show 0+(i*2+0)=0+i*2 by omega]at c0;rw[show 0+(i*2+1)=0+i*2+1 by omega]at c1;exact⟨c0,c1⟩
def Ma(vb:Nat)(free:Bool):List Value:=[.slice (some ⟨vb,0,none⟩) 2 2,.slice none 0 0,.slice none 0 0,.bool free,.bool false]
def Fo:List Bs:=[[120],[112]]
structure WSt (w:World)(SC vb PC F X gf cf M0:Nat)(free:Bool)(raw:List Int)(va:Value)(la:List Ar)(ds:List FuV)(f:FuV)(x:St)(xa xt xe:Value)(a:Nat)(wx:World):Prop where
 bel:Below w.heap.size w wx
 src:As wx (w.heap.size+1) raw a
 res:Al wx w.heap.size [.slice none 0 0,.slice none 0 0] 27
 scp:Al wx SC (Ma vb free) 62
 svs:Ay (Jl w.heap.size PC F X gf va) wx Fo (.slice (some ⟨vb,0,none⟩) 2 2)
 prg:Al wx PC [va,.slice (some ⟨gf,0,none⟩) ds.length cf] 27
 fun_:Al wx F (Bq f) 47
 stm:Al wx X (Bl x xa xt xe) 56
 ars:wx.ownsRow 0 66 2 va la.length (la.flatMap Cs)
 row:wx.ownsRow 0 47 4 (.slice (some ⟨gf,0,none⟩) ds.length cf) ds.length (ds.flatMap Bq)
 prt:∀q,q∈ds→Ct (Jl w.heap.size PC F X gf va) wx q
 fpt:Ct (Jl w.heap.size PC F X gf va) wx f
 exs:Aj (Jl w.heap.size PC F X gf va) wx x.args xa
 thn:Ap (Jl w.heap.size PC F X gf va) wx x.thn xt
 els:Ap (Jl w.heap.size PC F X gf va) wx x.els xe
 lo:∀k,va.ownBlock=some k→SC<k∧k<M0
 lt:w.heap.size+1<SC∧SC<M0∧M0≤gf∧gf<PC∧PC<F∧F<X
theorem WSt.scAt {w:World}{SC vb PC F X gf cf M0:Nat}{free:Bool}{raw:List Int}{va:Value}{la:List Ar}{ds:List FuV}{f:FuV}{x:St}{xa xt xe:Value}{a:Nat}{wx:World}(h:WSt w SC vb PC F X gf cf M0 free raw va la ds f x xa xt xe a wx):
  Ec (w.heap.size+1) wx ⟨Fo,[],[],free,false⟩ (.slice (some ⟨vb,0,none⟩) 2 2) (.slice none 0 0) (.slice none 0 0):=
 ⟨h.svs.mono (fun b hb=>hb.1.2.1),Ze,Bk.zero,(show Fo.length≤1000000 by decide),Zg _,Zg _,fun f hf=>by cases hf⟩
theorem WSt.sfr {w:World}{SC vb PC F X gf cf M0:Nat}{free:Bool}{raw:List Int}{va:Value}{la:List Ar}{ds:List FuV}{f:FuV}{x:St}{xa xt xe:Value}{a a':Nat}{wx w':World}(h:WSt w SC vb PC F X gf cf M0 free raw va la ds f x xa xt xe a wx)(hs:As w' (w.heap.size+1) raw a')(hf:SFr (w.heap.size+1) wx w'):
  WSt w SC vb PC F X gf cf M0 free raw va la ds f x xa xt xe a' w':=by
 obtain⟨l1,l2,l3,l4,l5,l6⟩:=h.lt;have hl:=h.lo;have kd:Ax (Jl w.heap.size PC F X gf va) wx w':=Ax.sfr hf (fun b hb=>hb.1.2.1);have kn:Ax (· ≠w.heap.size+1) wx w':=Ax.sfr hf (fun b hb=>hb);exact⟨h.bel.trans ((hf.below (Nat.le_of_lt h.src.lt)).mono (Nat.le_succ _)),hs,h.res.sfr hf (by omega),h.scp.sfr hf (by omega),h.svs.keep kd.keeps,h.prg.sfr hf (by omega),h.fun_.sfr hf (by omega),h.stm.sfr hf (by omega),
  Bz h.ars (fun k e=>by have:=hl k e;show k≠_;omega) kn,Bz h.row (fun k e=>by cases e;show gf≠_;omega) kn,fun q hq=>(h.prt q hq).keep kd hf.size,h.fpt.keep kd hf.size,
  h.exs.keep kd.keeps,h.thn.keep kd.keeps,h.els.keep kd.keeps,h.lo,h.lt⟩
theorem WSt.below {w:World}{SC vb PC F X gf cf M0:Nat}{free:Bool}{raw:List Int}{va:Value}{la:List Ar}{ds:List FuV}{f:FuV}{x:St}{xa xt xe:Value}{a:Nat}{wx w':World}(h:WSt w SC vb PC F X gf cf M0 free raw va la ds f x xa xt xe a wx)(hb:Below wx.heap.size wx w'):
  WSt w SC vb PC F X gf cf M0 free raw va la ds f x xa xt xe a w':=h.sfr (h.src.old hb) (SFr.of_below hb)
theorem WSt.setF {w:World}{SC vb PC F X gf cf M0:Nat}{free:Bool}{raw:List Int}{va:Value}{la:List Ar}{ds:List FuV}{f:FuV}{x:St}{xa xt xe:Value}{a:Nat}{wx:World}(h:WSt w SC vb PC F X gf cf M0 free raw va la ds f x xa xt xe a wx)(f':FuV)(i:Nat)(v:Value)(hc:(Bq f).set i v=Bq f')(hp:Ct (Jl w.heap.size PC F X gf va) wx f'):
  WSt w SC vb PC F X gf cf M0 free raw va la ds f' x xa xt xe a (wx.setCell ⟨F,i,none⟩ v):=by
 obtain⟨l1,l2,l3,l4,l5,l6⟩:=h.lt;have hl:=h.lo;have kd:Ax (Jl w.heap.size PC F X gf va) wx (wx.setCell ⟨F,i,none⟩ v):=Ax.set wx (fun hb=>hb.1.2.2.2.1 rfl) i v;have kn:Ax (· ≠F) wx (wx.setCell ⟨F,i,none⟩ v):=Ax.set wx (fun hb=>hb rfl) i v;have hz:wx.heap.size≤(wx.setCell ⟨F,i,none⟩ v).heap.size:=by simp [World.setCell]
 exact⟨h.bel.setCell (by show w.heap.size≤F;omega) v,h.src.other (by omega) i v,h.res.other (by omega) i v,h.scp.other (by omega) i v,h.svs.keep kd.keeps,h.prg.other (by omega) i v,by have:=h.fun_.set i v;rwa[hc]at this,h.stm.other (by omega) i v,
  Bz h.ars (fun k e=>by have:=hl k e;show k≠_;omega) kn,Bz h.row (fun k e=>by cases e;show gf≠_;omega) kn,fun q hq=>(h.prt q hq).keep kd hz,hp.keep kd hz,
  h.exs.keep kd.keeps,h.thn.keep kd.keeps,h.els.keep kd.keeps,h.lo,h.lt⟩
def Dx(wx:World)(X:Nat)(k nm xa xt xe:Value):World:=((((wx.setCell ⟨X,0,none⟩ k).setCell ⟨X,1,none⟩ nm).setCell ⟨X,2,none⟩ xa).setCell ⟨X,3,none⟩ xt).setCell ⟨X,4,none⟩ xe
structure WMd (w:World)(PC F X gf cf:Nat)(ds:List FuV)(wx:World)(va:Value)(la:List Ar)(f:FuV)(x:St)(xa xt xe:Value):Prop where
 bel:Below w.heap.size w wx
 res:Al wx w.heap.size [.slice none 0 0,.slice none 0 0] 27
 prg:Al wx PC [va,.slice (some ⟨gf,0,none⟩) ds.length cf] 27
 fun_:Al wx F (Bq f) 47
 stm:Al wx X (Bl x xa xt xe) 56
 ars:Bp (Far w.heap.size PC F X gf) wx la va
 row:wx.ownsRow 0 47 4 (.slice (some ⟨gf,0,none⟩) ds.length cf) ds.length (ds.flatMap Bq)
 prt:∀q,q∈ds→Ct (Far w.heap.size PC F X gf) wx q
 fpt:Ct (Far w.heap.size PC F X gf) wx f
 exs:Aj (Far w.heap.size PC F X gf) wx x.args xa
 thn:Ap (Far w.heap.size PC F X gf) wx x.thn xt
 els:Ap (Far w.heap.size PC F X gf) wx x.els xe
 al:la.length≤4
 fl:fuN f.x≤3728700000
 xl:Dh x≤1000000
 lt:w.heap.size+1<gf∧gf<PC∧PC<F∧F<X
def WSw(w:World)(PC F X gf cf:Nat)(ds:List FuV)(wx:World):Prop:= ∃va la f x xa xt xe,WMd w PC F X gf cf ds wx va la f x xa xt xe
theorem WSt.mid {w:World}{SC vb PC F X gf cf M0:Nat}{free:Bool}{raw:List Int}{va:Value}{la:List Ar}{ds:List FuV}{f:FuV}{x:St}{xa xt xe:Value}{a:Nat}{wx:World}(h:WSt w SC vb PC F X gf cf M0 free raw va la ds f x xa xt xe a wx)(h1:la.length≤4)(h2:fuN f.x≤3728700000)(h3:Dh x≤1000000):
  WMd w PC F X gf cf ds wx va la f x xa xt xe:=by
 obtain⟨l1,l2,l3,l4,l5,l6⟩:=h.lt;have hl:=h.lo;exact⟨h.bel,h.res,h.prg,h.fun_,h.stm,gV h.ars (fun k e=>by have:=hl k e;exact⟨by omega,by omega,by omega,by omega,by omega,by omega⟩) (show la.length≤140737488355328 by omega),h.row,fun q hq=>(h.prt q hq).mono (fun b hb _=>hb.1),h.fpt.mono (fun b hb _=>hb.1),
  h.exs.mono (fun b hb=>hb.1),h.thn.mono (fun b hb=>hb.1),h.els.mono (fun b hb=>hb.1),h1,h2,h3,by omega,by omega,by omega,by omega⟩
structure eN (w:World)(PC F gf cf:Nat)(ds:List FuV)(wx:World)(va:Value)(la:List Ar)(f:FuV):Prop where
 bel:Below w.heap.size w wx
 res:Al wx w.heap.size [.slice none 0 0,.slice none 0 0] 27
 prg:Al wx PC [va,.slice (some ⟨gf,0,none⟩) ds.length cf] 27
 fun_:Al wx F (Bq f) 47
 ars:Bp (fun b=>b≠gf∧b≠w.heap.size) wx la va
 row:wx.ownsRow 0 47 4 (.slice (some ⟨gf,0,none⟩) ds.length cf) ds.length (ds.flatMap Bq)
 prt:∀q,q∈ds→Ct (fun b=>b≠gf∧b≠w.heap.size) wx q
 f1:Ay (fun b=>b≠gf∧b≠w.heap.size) wx f.x.params f.p
 f2:Ay (fun b=>b≠gf∧b≠w.heap.size) wx f.x.locals f.l
 f3:Ap (fun b=>b≠gf∧b≠w.heap.size) wx f.x.body f.b
 al:la.length≤4
 fl:fuN f.x≤3729700000
 lt:w.heap.size+1<gf∧gf<PC∧PC<F
theorem WMd.put {w:World}{PC F X gf cf:Nat}{ds:List FuV}{wx:World}{va:Value}{la:List Ar}{f:FuV}{x:St}{xa xt xe:Value}(h:WMd w PC F X gf cf ds wx va la f x xa xt xe):eN w PC F gf cf ds wx va la f:=by
 obtain⟨k1,k2,ls,k3,k4,k5⟩:=h.fpt;have k6:=k5.sts (show ls.length≤140737488355328 by omega);rw[k3]at k6;have hD:∀b,Far w.heap.size PC F X gf b→b≠gf∧b≠w.heap.size:=fun b hb=>⟨hb.2.2.2.2.2,hb.1⟩
 exact⟨h.bel,h.res,h.prg,h.fun_,h.ars.mono hD,h.row,fun q hq=>(h.prt q hq).mono (fun b hb _=>hD b hb),k1.mono hD,k2.mono hD,k6.mono hD,h.al,by have:=h.fl;omega,h.lt.1,h.lt.2.1,h.lt.2.2.1⟩
theorem eU {w w':World}{D:Nat→Prop}{ls:List StV}{bv:Value}(h:Dm w D ls bv)(hl:ls.length≤4){x:St}{a t e:Value}{gn cn:Nat}(hk:∀b,b<w.heap.size→D b→w'.heap[b]? =w.heap[b]?)
  (hr:w'.ownsRow w.heap.size 56 5 (.slice (some ⟨gn,0,none⟩) (ls.length+1) cn) (ls.length+1) (Di ls++Bl x a t e)) (he:Aj D w x.args a) (ht:Ap D w x.thn t) (hu:Ap D w x.els e):
  Ap (fun b=>D b∨w.heap.size≤b) w' (ls.map (·.x)++[x]) (.slice (some ⟨gn,0,none⟩) (ls.length+1) cn):=by
 have hgn:=(World.ownsRow.lt hr gn rfl).1;have e1:(ls++[(⟨x,a,t,e⟩:StV)]).length=ls.length+1:=by simp
 have e2:Di (ls++[(⟨x,a,t,e⟩:StV)])=Di ls++Bl x a t e:=by simp [Di]
 have kk:∀D':Nat→Prop,Fe (fun b=>(D b∧D' b)∧b<w.heap.size) w w':=fun D' b off y hb hy=>by
  rw[World.cell?_of_block (w:=w) (hk b hb.2 hb.1.1)];exact hy
 have k1:Fe (fun b=>D b∧b<w.heap.size) w w':=fun b off y hb hy=>by
  rw[World.cell?_of_block (w:=w) (hk b hb.2 hb.1)];exact hy
 have fr:∀b,D b∧b<w.heap.size→(D b∨w.heap.size≤b)∧(Value.slice (some ⟨gn,0,none⟩) (ls.length+1) cn).ownBlock≠some b:=fun b hb=>⟨.inl hb.1,fun e=>by have e:some gn=some b:=e;cases e;have:=hb.2;omega⟩
 have hs:Dm w' (fun b=>D b∨w.heap.size≤b) (ls++[⟨x,a,t,e⟩]) (.slice (some ⟨gn,0,none⟩) (ls.length+1) cn):=by
  refine⟨?_,fun k e=>⟨?_,(World.ownsRow.lt hr k e).2⟩,fun q hq=>?_⟩
  ·rw[e1,e2];exact Ie hr (fun _ _=>Zg _)
  ·exact .inr (World.ownsRow.lt hr k e).1
  ·rcases List.mem_append.1 hq with hq|hq
   ·have o:=(h.2.2 q hq).strong
    exact(o.keep (kk _)).mono (fun b hb=>fr b ⟨hb.1.1,hb.2⟩)
   ·rw[List.mem_singleton.1 hq]
    exact⟨(he.strong.keep k1).mono fr,(ht.strong.keep k1).mono fr,(hu.strong.keep k1).mono fr⟩
 have q:=hs.sts (show(ls++[(⟨x,a,t,e⟩:StV)]).length≤140737488355328 by rw[e1];omega);simpa using q
theorem Mi:∀(l:List St) (x:St),Ai (l++[x])=Ai l+Dh x
 |[],x=>by simp [Ai]
 |y::l,x=>by rw[List.cons_append,Ai,Ai,Mi l x];omega
theorem WMd.more {w:World}{PC F X gf cf:Nat}{ds:List FuV}{wx:World}{va:Value}{la:List Ar}{f:FuV}{x:St}{xa xt xe:Value}(h:WMd w PC F X gf cf ds wx va la f x xa xt xe){ls:List StV}(hls:ls.map (·.x)=f.x.body)(h4:ls.length≤4)(ho:Dm wx (Far w.heap.size PC F X gf) ls f.b){w1:World}(hb:Below wx.heap.size wx w1){gn cn:Nat}
  (hr:w1.ownsRow wx.heap.size 56 5 (.slice (some ⟨gn,0,none⟩) (ls.length+1) cn) (ls.length+1) (Di ls++Bl x xa xt xe)):
  eN w PC F gf cf ds (w1.setCell ⟨F,3,none⟩ (.slice (some ⟨gn,0,none⟩) (ls.length+1) cn)) va la ⟨⟨f.x.name,f.x.params,f.x.locals,f.x.body++[x]⟩,f.p,f.l,.slice (some ⟨gn,0,none⟩) (ls.length+1) cn⟩:=by
 obtain⟨l1,l2,l3,l4⟩:=h.lt;obtain⟨k1,k2,_⟩:=h.fpt;have hFl:=h.fun_.lt;have hXl:=h.stm.lt;have kn:Ax (· ≠F) wx (w1.setCell ⟨F,3,none⟩ (.slice (some ⟨gn,0,none⟩) (ls.length+1) cn)):=fun b hb' hl=>(Zj _ _ _ _ hb').trans (hb.block b hl)
 have kd:Ax (Far w.heap.size PC F X gf) wx (w1.setCell ⟨F,3,none⟩ (.slice (some ⟨gn,0,none⟩) (ls.length+1) cn)):=kn.mono (fun b hb=>hb.2.2.2.1);have hz:wx.heap.size≤(w1.setCell ⟨F,3,none⟩ (.slice (some ⟨gn,0,none⟩) (ls.length+1) cn)).heap.size:=by have:=hb.size;simp [World.setCell];omega
 have hD:∀b,Far w.heap.size PC F X gf b→b≠gf∧b≠w.heap.size:=fun b hb=>⟨hb.2.2.2.2.2,hb.1⟩
 have hr':(w1.setCell ⟨F,3,none⟩ (.slice (some ⟨gn,0,none⟩) (ls.length+1) cn)).ownsRow wx.heap.size 56 5 (.slice (some ⟨gn,0,none⟩) (ls.length+1) cn) (ls.length+1) (Di ls++Bl x xa xt xe):=
  Bz hr (D:=(· ≠F)) (fun k e=>by have:=(World.ownsRow.lt hr k e).1;show k≠F;omega) (Ax.set w1 (fun hb=>hb rfl) 3 _)
 have hsts:=(eU ho h4 (fun b hb hD=>kd b hD hb) hr' h.exs h.thn h.els).mono (D':=fun b=>b≠gf∧b≠w.heap.size) (fun b hb=>by
  rcases hb with hb|hb
  ·exact hD b hb
  ·exact⟨by omega,by omega⟩)
 rw[hls]at hsts;refine⟨(h.bel.trans (hb.mono h.bel.size)).setCell (by show w.heap.size≤F;omega) _,(h.res.old hb).other (by omega) 3 _,(h.prg.old hb).other (by omega) 3 _,(h.fun_.old hb).set 3 _,(h.ars.keep kd.keeps).mono hD,Bz h.row (fun k e=>by cases e;show gf≠F;omega) kn,
  fun q hq=>((h.prt q hq).keep kd hz).mono (fun b hb _=>hD b hb),(k1.keep kd.keeps).mono hD,(k2.keep kd.keeps).mono hD,hsts,h.al,?_,l1,l2,l3⟩
 have h1:=h.fl;have h2:=h.xl;unfold fuN at*;show 1+f.x.params.length+f.x.locals.length+Ai (f.x.body++[x])≤_
 rw[Mi];omega
theorem jG {D:Nat→Prop}{w:World}{base:Nat}{ps:List FuV}{v:Value}(h:w.ownsRow base 47 4 v ps.length (ps.flatMap Bq))(hD:∀k,v.ownBlock=some k→D k)(hp:∀p,p∈ps→Ay D w p.x.params p.p∧Ay D w p.x.locals p.l∧Ap D w p.x.body p.b)(hf:Ci ps.length):Bk D w (ps.map (·.x)) v:=by
 have hl:(ps.map (·.x)).length=ps.length:=List.length_map _;rcases h.2 with⟨rfl,hz⟩|⟨g,cap,cur,rfl,hb,hg,hc,hm,hs,ht⟩
 ·have:ps=[]:=Zk.1 hz
  subst this;exact Bk.zero
 ·let z:FuV:=⟨Fu.nil,undef,undef,undef⟩
  refine⟨some ⟨g,0,none⟩,cap,g,0,(fun i=>(ps.getD i z).p),(fun i=>(ps.getD i z).l),(fun i=>(ps.getD i z).b),by rw[hl],by rw[hl];exact hc,by rw[hl];exact hf,.inr ⟨rfl,hD g rfl⟩,fun i hi=>?_⟩;rw[hl]at hi;obtain⟨p,hp1,hx,hm⟩:∃p,ps[i]? =some p∧Bc (ps.map (·.x)) i=p.x∧p∈ps:=⟨ps[i],Zl hi,by simp [Bc,Zl hi],List.getElem_mem hi⟩;have sv:ps.getD i z=p:=by rw[List.getD_eq_getElem?_getD,hp1];rfl
  rw[hx];dsimp only;rw[sv];have cell:∀q u,q<4→(Bq p)[q]? =some u→w.cell? ⟨g,0+i*4+q,none⟩=some u:=by
   intro q u hq hu;have h1:=Es h (i*4+q) u (by rw[Ia Bq 4 (fun _=>rfl) ps i q p hp1 hq];exact hu)
   rwa[show 0+(i*4+q)=0+i*4+q by omega]at h1
  exact⟨⟨cell 0 _ (by decide) rfl,cell 1 _ (by decide) rfl,cell 2 _ (by decide) rfl,cell 3 _ (by decide) rfl⟩,hp p hm⟩
theorem fv_set4(ds:List FuV)(i:Nat)(hi:i<ds.length)(f:FuV):((((ds.flatMap Bq).set (i*4) (.string (Aa f.x.name))).set (i*4+1) f.p).set (i*4+2) f.l).set (i*4+3) f.b=(ds.set i f).flatMap Bq:=by
 induction ds generalizing i with
 |nil=>simp at hi
 |cons d l ih=>
  cases i with
  |zero=>simp [List.flatMap_cons,Bq]
  |succ i=>
   simp at hi;have:=ih i hi;rw[List.flatMap_cons,List.set_cons_succ,List.flatMap_cons,←this];have e:∀(r:List Value) (j:Nat) (v:Value),4≤j→(Bq d++r).set j v=Bq d++r.set (j-4) v:=fun r j v hj=>by
    rw[List.set_append_right _ _ (by simp [Bq];omega)];simp [Bq]
   rw[e _ _ _ (by omega),e _ _ _ (by omega),e _ _ _ (by omega),e _ _ _ (by omega)];simp only[show(i+1)*4-4=i*4 by omega,show(i+1)*4+1-4=i*4+1 by omega,show(i+1)*4+2-4=i*4+2 by omega,show(i+1)*4+3-4=i*4+3 by omega]
def Jz(w:World)(gf k:Nat)(f:FuV):World:=(((w.setCell ⟨gf,k*4,none⟩ (.string (Aa f.x.name))).setCell ⟨gf,k*4+1,none⟩ f.p).setCell ⟨gf,k*4+2,none⟩ f.l).setCell ⟨gf,k*4+3,none⟩ f.b
theorem cM(m:Nat):∀l:List Fu,(∀x,x∈l→fuN x≤m)→Rc l≤l.length*m
 |[],_=>by simp [Rc]
 |x::l,h=>by
  have h1:=h x List.mem_cons_self;have h2:=cM m l (fun y hy=>h y (List.mem_cons_of_mem _ hy));rw[Rc,List.length_cons,Nat.add_mul];omega
theorem Pw:∀l:List Fu,By l≤Rc l
 |[]=>Nat.le_refl _
 |x::l=>by
  have:=Pw l;rw[By,Rc];unfold fuN;omega
theorem pgIn_of {w:World}{p:Pr}{va vf:Value}(ha:Bp (fun _=>True) w p.arrays va)(hf:Bk (fun _=>True) w p.funcs vf)(h1:p.arrays.length≤4)(h3:p.funcs.length≤3)(h2:∀x,x∈p.funcs→fuN x≤3729700000):Qc w p va vf:=by
 have hn:Rc p.funcs≤3*3729700000:=Nat.le_trans (cM _ _ h2) (Nat.mul_le_mul_right _ h3);have hc:=Pw p.funcs;refine⟨ha.strong.mono (fun b hb=>hb.2),(Bk.strong hf).mono (fun b hb=>hb.2),?_,fun hr=>?_⟩
 ·show By p.funcs≤_;omega
 ·have:=pr_len3 hr (fus_n64 hf)
  have e:prN p=p.arrays.length+Rc p.funcs:=rfl;omega
theorem eN.after {w:World}{PC F gf cf:Nat}{ds:List FuV}{wx:World}{va:Value}{la:List Ar}{f:FuV}(h:eN w PC F gf cf ds wx va la f){k:Nat}(hk:k<ds.length)(hl:ds.length≤3)(hq:∀q,q∈ds→fuN q.x≤12+fuB):
  Below w.heap.size w (Jz wx gf k f)∧Al (Jz wx gf k f) w.heap.size [.slice none 0 0,.slice none 0 0] 27∧Al (Jz wx gf k f) PC [va,.slice (some ⟨gf,0,none⟩) ds.length cf] 27∧
   ∀u v,Qc (((Jz wx gf k f).setCell ⟨w.heap.size,0,none⟩ u).setCell ⟨w.heap.size,1,none⟩ v) ⟨la,(ds.set k f).map (·.x)⟩ va (.slice (some ⟨gf,0,none⟩) ds.length cf):=by
 obtain⟨l1,l2,l3⟩:=h.lt;have st:∀(v:World) (i b:Nat) (u:Value),b≠gf→(v.setCell ⟨gf,i,none⟩ u).heap[b]? =v.heap[b]? :=fun v i b u hb=>Zj _ _ _ _ hb
 have kn:Ax (· ≠gf) wx (Jz wx gf k f):=by
  intro b hb hl;unfold Jz;rw[st _ _ _ _ hb,st _ _ _ _ hb,st _ _ _ _ hb,st _ _ _ _ hb]
 have hz:(Jz wx gf k f).heap.size=wx.heap.size:=by simp [Jz,World.setCell]
 have hG:w.heap.size≤gf:=by omega
 refine⟨(((h.bel.setCell (p:=⟨gf,k*4,none⟩) hG _).setCell (p:=⟨gf,k*4+1,none⟩) hG _).setCell (p:=⟨gf,k*4+2,none⟩) hG _).setCell (p:=⟨gf,k*4+3,none⟩) hG _,
  h.res.low (kn _ (by show w.heap.size≠gf;omega) h.res.lt),h.prg.low (kn _ (by show PC≠gf;omega) h.prg.lt),fun u v=>?_⟩
 have k2:Ax (fun b=>b≠gf∧b≠w.heap.size) wx (((Jz wx gf k f).setCell ⟨w.heap.size,0,none⟩ u).setCell ⟨w.heap.size,1,none⟩ v):=fun b hb hl=>
  ((Zj _ _ _ _ hb.2).trans (Zj _ _ _ _ hb.2)).trans (kn b hb.1 hl)
 have hz2:wx.heap.size≤(((Jz wx gf k f).setCell ⟨w.heap.size,0,none⟩ u).setCell ⟨w.heap.size,1,none⟩ v).heap.size:=by simp [World.setCell]at hz ⊢;omega
 have r1:=(World.ownsRow.stored h.row (k*4) (.string (Aa f.x.name))).1;have r2:=(World.ownsRow.stored r1 (k*4+1) f.p).1;have r3:=(World.ownsRow.stored r2 (k*4+2) f.l).1;have r4:=(World.ownsRow.stored r3 (k*4+3) f.b).1;rw[fv_set4 ds k hk f]at r4;have hlen:(ds.set k f).length=ds.length:=List.length_set;have r5:(((Jz wx gf k f).setCell ⟨w.heap.size,0,none⟩ u).setCell ⟨w.heap.size,1,none⟩ v).ownsRow 0 47 4 (.slice (some ⟨gf,0,none⟩) ds.length cf) (ds.set k f).length ((ds.set k f).flatMap Bq):=by
  rw[hlen];exact Bz r4 (D:=(· ≠w.heap.size)) (fun j e=>by cases e;show gf≠_;omega) (fun b hb hl=>(Zj _ _ _ _ hb).trans (Zj _ _ _ _ hb))
 have hF:=jG (D:=fun _=>True) r5 (fun _ _=>trivial) (fun q hq'=>by
  rcases List.mem_or_eq_of_mem_set hq' with hq'|rfl
  ·obtain⟨p1,p2,ls,p3,p4,p5⟩:=(h.prt q hq').keep k2 hz2
   have p6:=p5.sts (show ls.length≤140737488355328 by omega);rw[p3]at p6;exact⟨p1.mono (fun _ _=>trivial),p2.mono (fun _ _=>trivial),p6.mono (fun _ _=>trivial)⟩
  ·exact⟨(h.f1.keep k2.keeps).mono (fun _ _=>trivial),(h.f2.keep k2.keeps).mono (fun _ _=>trivial),(h.f3.keep k2.keeps).mono (fun _ _=>trivial)⟩) (show(ds.set k f).length≤140737488355328 by rw[hlen];omega)
 refine pgIn_of ((h.ars.keep k2.keeps).mono (fun _ _=>trivial)) hF h.al (by show((ds.set k f).map (·.x)).length≤3;rw[List.length_map,hlen];exact hl) (fun x hx=>?_);obtain⟨q,hq',rfl⟩:=List.mem_map.1 hx;rcases List.mem_or_eq_of_mem_set hq' with hq'|rfl
 ·have:=hq q hq';have:=iB;omega
 ·have:=h.fl;omega
structure WA (w:World)(SC vb:Nat)(free:Bool)(raw:List Int)(a:Nat)(wx:World):Prop where
 bel:Below w.heap.size w wx
 src:As wx (w.heap.size+1) raw a
 res:Al wx w.heap.size [.slice none 0 0,.slice none 0 0] 27
 scp:Al wx SC (Ma vb free) 62
 svs:Ay (· =vb) wx Fo (.slice (some ⟨vb,0,none⟩) 2 2)
 lt:w.heap.size+1<vb∧vb<SC
theorem WA.sfr {w:World}{SC vb:Nat}{free:Bool}{raw:List Int}{a a':Nat}{wx w':World}(h:WA w SC vb free raw a wx)(hs:As w' (w.heap.size+1) raw a')(hf:SFr (w.heap.size+1) wx w'):WA w SC vb free raw a' w':=by
 obtain⟨l1,l2⟩:=h.lt;exact⟨h.bel.trans ((hf.below (Nat.le_of_lt h.src.lt)).mono (Nat.le_succ _)),hs,h.res.sfr hf (by omega),h.scp.sfr hf (by omega),h.svs.keep (hf.keepsD (fun b hb=>by have:b=vb:=hb;omega)),h.lt⟩
theorem WA.of {w:World}{raw:List Int}{a:Nat}{w1:World}(free:Bool)(hb:Below w.heap.size w w1)(hs:As w1 (w.heap.size+1) raw a)(hr:Al w1 w.heap.size [.slice none 0 0,.slice none 0 0] 27):
  WA w (w1.heap.size+1) w1.heap.size free raw a ((w1.alloc (.cells #[.string ⟨#[120]⟩,.string ⟨#[112]⟩] 9)).alloc (.cells (Ma w1.heap.size free).toArray 62)):=by
 have hal:Below w1.heap.size w1 ((w1.alloc (.cells #[.string ⟨#[120]⟩,.string ⟨#[112]⟩] 9)).alloc (.cells (Ma w1.heap.size free).toArray 62)):=(bA).alloc (by simp) _;have h2:=Zc (w1.alloc (.cells #[.string ⟨#[120]⟩,.string ⟨#[112]⟩] 9)) (Ma w1.heap.size free) 62;rw[show(w1.alloc (.cells #[.string ⟨#[120]⟩,.string ⟨#[112]⟩] 9)).heap.size=w1.heap.size+1 by simp]at h2;have h3:=(Zc w1 [.string ⟨#[120]⟩,.string ⟨#[112]⟩] 9).alloc (.cells (Ma w1.heap.size free).toArray 62);have hl:=hs.lt;refine⟨hb.trans (hal.mono hb.size),hs.old hal,hr.old hal,h2,?_,hl,Nat.lt_succ_self _⟩;refine⟨some ⟨w1.heap.size,0,none⟩,2,w1.heap.size,0,rfl,Nat.le_refl _,(show(2:Nat)≤140737488355328 by decide),.inr ⟨rfl,rfl⟩,fun i hi=>?_⟩;have hi:i<2:=hi;have:i=0∨i=1:=by omega
 rcases this with rfl|rfl
 ·exact h3.at 0 _ rfl
 ·exact h3.at 1 _ rfl
structure WB (w:World)(SC vb PC gf cf M0:Nat)(free:Bool)(raw:List Int)(va:Value)(la:List Ar)(ds:List FuV)(a:Nat)(wx:World):Prop where
 wa:WA w SC vb free raw a wx
 prg:Al wx PC [va,.slice (some ⟨gf,0,none⟩) ds.length cf] 27
 ars:wx.ownsRow 0 66 2 va la.length (la.flatMap Cs)
 row:wx.ownsRow 0 47 4 (.slice (some ⟨gf,0,none⟩) ds.length cf) ds.length (ds.flatMap Bq)
 prt:∀q,q∈ds→Ct (fun b=>M0≤b∧b<PC∧b≠gf) wx q
 lo:∀k,va.ownBlock=some k→SC<k∧k<M0
 lt:SC<M0∧M0≤gf∧gf<PC
theorem WB.sfr {w:World}{SC vb PC gf cf M0:Nat}{free:Bool}{raw:List Int}{va:Value}{la:List Ar}{ds:List FuV}{a a':Nat}{wx w':World}(h:WB w SC vb PC gf cf M0 free raw va la ds a wx)(hs:As w' (w.heap.size+1) raw a')(hf:SFr (w.heap.size+1) wx w'):WB w SC vb PC gf cf M0 free raw va la ds a' w':=by
 obtain⟨l1,l2⟩:=h.wa.lt;obtain⟨l3,l4,l5⟩:=h.lt;have hl:=h.lo;have kn:Ax (· ≠w.heap.size+1) wx w':=Ax.sfr hf (fun b hb=>hb);exact⟨h.wa.sfr hs hf,h.prg.sfr hf (by omega),Bz h.ars (fun k e=>by have:=hl k e;show k≠_;omega) kn,Bz h.row (fun k e=>by cases e;show gf≠_;omega) kn,
  fun q hq=>(h.prt q hq).keep (kn.mono (fun b hb=>by show b≠_;have:=hb.1;omega)) hf.size,h.lo,h.lt⟩
theorem WB.old {w:World}{SC vb PC gf cf M0:Nat}{free:Bool}{raw:List Int}{va:Value}{la:List Ar}{ds:List FuV}{a:Nat}{wx w':World}(h:WB w SC vb PC gf cf M0 free raw va la ds a wx)(hb:Below wx.heap.size wx w'):WB w SC vb PC gf cf M0 free raw va la ds a w':=h.sfr (h.wa.src.old hb) (SFr.of_below hb)
theorem WB.of {w:World}{SC vb:Nat}{free:Bool}{raw:List Int}{a:Nat}{w4 w5:World}{p:Pr}{r:Ending}(h:WA w SC vb free raw a w4)(hg:Vw w4 p r w5)(hp:0<p.funcs.length):∃va gf cf ds M0,r=.returned (.agg #[va,.slice (some ⟨gf,0,none⟩) ds.length cf])∧ds.map (·.x)=p.funcs∧ds.length≤3∧
  WB w SC vb w5.heap.size gf cf M0 free raw va p.arrays ds a (w5.alloc (.cells #[va,.slice (some ⟨gf,0,none⟩) ds.length cf] 27)):=by
 obtain⟨va,vf,ds,M0,rfl,hb,_,⟨h1,h2⟩,h3,h4,h5,h6,h7,_⟩:=hg;have hdl:0<ds.length:=by have:=congrArg List.length h4;rw[List.length_map]at this;omega
 obtain⟨gf,cf,rfl⟩:∃gf cf,vf=.slice (some ⟨gf,0,none⟩) ds.length cf:=by
  rcases h6.1.2 with⟨_,hz⟩|⟨g,cap,cur,rfl,_⟩
  ·omega
  ·exact⟨g,cap,rfl⟩
 have hgf:=h6.ge (k:=gf) rfl;have hal:Below w5.heap.size w5 (w5.alloc (.cells #[va,.slice (some ⟨gf,0,none⟩) ds.length cf] 27)):=bA;have hbb:=hb.trans (hal.mono hb.size);have hsc:=h.scp.lt;have kn:Ax (fun _=>True) w5 (w5.alloc (.cells #[va,.slice (some ⟨gf,0,none⟩) ds.length cf] 27)):=Ax.below hal;refine⟨va,gf,cf,ds,M0,rfl,h4,h5,h.sfr (h.src.old hbb) (SFr.of_below hbb),Zc _ _ _,Ie (Bz h1 (D:=fun _=>True) (fun _ _=>trivial) kn) (fun _ _=>Zg _),Ie (Bz h6.1 (D:=fun _=>True) (fun _ _=>trivial) kn) (fun _ _=>Zg _),
  fun q hq=>((h6.2 q hq).mono (D':=fun b=>M0≤b∧b<w5.heap.size∧b≠gf) (fun b hb hl=>⟨hb.1,hl,fun e=>hb.2 (by rw[e];rfl)⟩)).keep (kn.mono (fun _ _=>trivial)) hal.size,fun k e=>⟨?_,h2 k e⟩,by omega,hgf.1,hgf.2⟩
 have:=(World.ownsRow.lt h1 k e).1;omega
theorem Cg.wst {w:World}{SC vb PC gf cf M0 F X:Nat}{free:Bool}{raw:List Int}{va:Value}{la:List Ar}{ds:List FuV}{a a':Nat}{wr wx:World}{f:FuV}{k:Int}{nm:Bs}{ps:List (Ex ×Value)}{pa:Option Addr}{pc:Nat}(hb:WB w SC vb PC gf cf M0 free raw va la ds a wr)(hF:Al wr F (Bq f) 47)(hPF:PC<F)(hf:f∈ds)(hp:ps.length≤10)
  (h:Cg wr X (w.heap.size+1) raw k nm ps pa pc [] [] (.slice none 0 0) (.slice none 0 0) a' wx):WSt w SC vb PC F X gf cf M0 free raw va la ds f (.mk k nm (ps.map (·.1)) [] []) (.slice pa ps.length pc) (.slice none 0 0) (.slice none 0 0) a' wx:=by
 have hB:=hb.sfr h.src h.fr;have hFX:F<X:=Zh hF.lt h.ge;obtain⟨l1,l2⟩:=hB.wa.lt;obtain⟨l3,l4,l5⟩:=hB.lt;have hl:=hB.lo;have far:∀b,(M0≤b∧b<PC∧b≠gf)→Jl w.heap.size PC F X gf va b:=fun b hb=>⟨⟨by omega,by omega,by omega,by omega,by omega,by omega⟩,fun e=>by have:=hl b e;omega⟩
 refine⟨hB.wa.bel,h.src,hB.wa.res,hB.wa.scp,hB.wa.svs.mono (fun b hb=>?_),hB.prg,hF.sfr h.fr (by omega),h.own,hB.ars,hB.row,fun q hq=>(hB.prt q hq).mono (fun b hb _=>far b hb),(hB.prt f hf).mono (fun b hb _=>far b hb),
  (h.exs.exs (show ps.length≤140737488355328 by omega)).mono (fun b hb=>?_),Ap.zero,Ap.zero,hB.lo,by omega,l3,l4,l5,hPF,hFX⟩
 ·have hb:b=vb:=hb
  subst hb;exact⟨⟨by omega,by omega,by omega,by omega,by omega,by omega⟩,fun e=>by have:=hl b e;omega⟩
 ·have hb:X+1≤b:=hb
  exact⟨⟨by omega,by omega,by omega,by omega,by omega,by omega⟩,fun e=>by have:=hl b e;omega⟩
theorem WA.scAt {w:World}{SC vb:Nat}{free:Bool}{raw:List Int}{a:Nat}{wx:World}(h:WA w SC vb free raw a wx):Ec (w.heap.size+1) wx ⟨Fo,[],[],free,false⟩ (.slice (some ⟨vb,0,none⟩) 2 2) (.slice none 0 0) (.slice none 0 0):=
 ⟨h.svs.mono (fun b hb=>by have:b=vb:=hb;have:=h.lt;show b≠_;omega),Ze,Bk.zero,(show Fo.length≤1000000 by decide),Zg _,Zg _,fun f hf=>by cases hf⟩
theorem kD(free:Bool):Sc.Ok ⟨Fo,[],[],free,false⟩:=by
 refine⟨fun x hx=>?_,fun _ hx=>(Zi hx).elim,fun _ hx=>(Zi hx).elim⟩;have hx:x∈Fo:=hx;simp only[Fo,List.mem_cons,Zi,or_false]at hx;rcases hx with rfl|rfl<;>decide
def kG(wr:World)(X s:Nat)(raw:List Int)(k:Int)(nm:Bs)(j:Nat)(wx:World):Prop:=
 ∃ps pa pc a,j+ps.length≤3∧Ah (ps.map (·.1))≤20000*ps.length∧Cg wr X s raw k nm ps pa pc [] [] (.slice none 0 0) (.slice none 0 0) a wx
theorem Mf:∀(l:List Ex) (x:Ex),Ah (l++[x])=Ah l+Bj x
 |[],x=>by simp [Ah]
 |y::l,x=>by rw[List.cons_append,Ah,Ah,Mf l x];omega
theorem sts_one {D:Nat→Prop}{w:World}{ls:List StV}{v:Value}(h:Dm w D ls v):∀u,u∈Di ls→u.oneCell'=true:=by
 intro u hu;unfold Di at hu;obtain⟨p,hp,hu⟩:=List.mem_flatMap.1 hu;obtain⟨x,a,b,c⟩:=p;obtain⟨h1,h2,h3⟩:=h.2.2 _ hp;obtain⟨a1,a2,ha⟩:=h1.shape;obtain⟨b1,b2,hb⟩:=h2.shape;obtain⟨c1,c2,hc⟩:=h3.shape;dsimp only at ha hb hc;subst ha;subst hb;subst hc;exact Vd _ _ _ _ _ _ _ _ _ _ u hu
theorem Rd(w:World)(base:Nat)(ty:TypeId){D:Nat→Prop}(ls:List StV)(bv:Value)(hs:Dm w D ls bv)(hn:ls.length≤1000)(hbase:base≤w.heap.size):
  ∃v' w',(Builtin.append_ #[45,45] ty #[.slice none 0 0,bv]).run Zb w=.ok v' w'∧w'.ownsRow base 56 5 v' ls.length (Di ls)∧w.grownBy w' none∧(v'.ownBlock=none∨v'.ownBlock=some w.heap.size):=by
 obtain⟨i0,hi0,hz0,hz1,hz2⟩:=info_parts Yz;have h1:=sts_one hs;rcases hs.1.2 with⟨rfl,h0⟩|⟨g,cap,cur,rfl,hb,hg,hc,hm,hsz,ht⟩
 ·obtain rfl:ls=[]:=Zk.1 h0
  refine⟨.slice none 0 0,w,?_,⟨rfl,.inl ⟨rfl,rfl⟩⟩,World.grownBy.refl w _,.inl rfl⟩;simp [Builtin.append_,run_underlying underlying45,sizeOf,typeInfo,hi0,Builtin.lenOf,Builtin.firstCells]
 ·obtain⟨v',w',hr,h5,h6,_,h7⟩:=run_append_own_at (P:=Zb) w base 45 ty 56 i0 _ 5 96 underlying45 hi0 hz0 hz1 hz2 rfl (by decide) (.slice none 0 0) 0 [] ⟨rfl,.inl ⟨rfl,rfl⟩⟩ ⟨g,0,none⟩ ls.length cap (Di ls) (Se ls) (fun j u hu=>World.ownsRow.cells hs.1 (g:=g) rfl j u hu) h1 (by unfold maxLen;omega) (by omega) hbase
  rw[Nat.zero_add,List.nil_append]at h5;exact⟨v',w',hr,h5,h6,h7⟩
theorem So {o:Oper}{a:Act}{w:World}{K:Act→World→Prop}{Q:Exit→Act→World→Prop}(s x:Operand)(ho:o.op=.call {callee:=.builtin .append,args:= #[s,x],argTypes:= #[45,45]})
  (base:Nat) (hs:a.eval s=.slice none 0 0) {D:Nat→Prop} (ls:List StV) (bv:Value) (hx:a.eval x=bv) (hl:Dm w D ls bv) (hn:ls.length≤1000) (hbase:base≤w.heap.size)
  (h:∀v' w',w'.ownsRow base 56 5 v' ls.length (Di ls)→w.grownBy w' none→(v'.ownBlock=none∨v'.ownBlock=some w.heap.size)→K (a.put o.dst v') w'):o.wp Zb a w K Q:=by
 obtain⟨v',w',hr,h1,h2,h3⟩:=Rd w base o.type ls bv hl hn hbase;unfold Oper.wp execOp;simp only[ho,resolve,invoke,builtin,Sem.run_bind,Sem.run_pure,Result.andThen_ok,List.map_toArray,List.map_cons,List.map_nil,hs,hx,hr];exact h v' w' h1 h2 h3
end Go.Proofs.YtfhbinbjkpfedaaGreatDoor
