/-
  whole: something of a text, up to its end.
-/
import Derived.Test.YtcfpfnoldgnloaaGreatDoorBk10
set_option linter.unusedVariables false
set_option linter.unusedSimpArgs false
namespace Go.Proofs.YtcfpfnoldgnloaaGreatDoor
open Go.RowKit
set_option maxHeartbeats 20000000
set_option maxRecDepth 100000
open Go.Lib renaming hid→Za
open Go.Proofs.Tryz renaming prog→Zb
open Nat renaming le_refl→Zc,lt_succ_iff_lt_or_eq→Zg
open aG renaming new→Zd
open Below renaming refl→Ze
open List renaming getElem?_eq_getElem→Zf
theorem pZ {w:World}{base g cap:Nat}{T:List Tk}(h:e7 w base T (.slice (some ⟨g,0,none⟩) T.length cap)):∀(l pre:List Tk),T=pre++l→ir w g (pre.length*4) l
 |[],pre,e=>trivial
 |t::l,pre,e=>by
  have ht:T[pre.length]? =some t:=by rw[e];simp
  have hlt:pre.length<T.length:=by rw[e];simp
  have cell:∀q u,q<4→(fo t)[q]? =some u→w.cell? ⟨g,pre.length*4+q,none⟩=some u:=by
   intro q u hq hu;have h1:=h.cellAt (pre.length*4+q) (by omega);rw[iY fo 4 (fun _=>rfl) T pre.length q t ht hq,hu]at h1;exact h1
  have ih:=pZ h l (pre++[t]) (by rw[e];simp);rw[List.length_append,List.length_singleton,Nat.succ_mul]at ih;exact⟨cell 0 _ (by decide) rfl,cell 1 _ (by decide) rfl,cell 2 _ (by decide) rfl,cell 3 _ (by decide) rfl,ih⟩
theorem rz {w:World}{base:Nat}{T:List Tk}{v:Value}(h:e7 w base T v)(h0:0<T.length):∃g cap,v= .slice (some ⟨g,0,none⟩) T.length cap∧ir w g 0 T∧T.length≤cap∧g<w.heap.size∧base≤g:=by
 have hlt:=World.ownsRow.lt h;rcases h.2 with⟨_,hz⟩|⟨g,cap,cur,rfl,hb,hg,hc,r⟩
 ·omega
 ·have:=pZ h T [] rfl
  exact⟨g,cap,rfl,by simpa using this,hc,(hlt g rfl).2,hb⟩
theorem Ps.under {w:World}{p tb:Nat}{l:List Tk}(h:Ps w p tb l){k:Nat}(hk:k<tb)(i:Nat)(v:Value):Ps (w.setCell ⟨k,i,none⟩ v) p tb l:=by
 obtain⟨o,cap,h⟩:=h;exact⟨o,cap,⟨h.own.other (by have:=h.lt;omega) i v,h.row.keep (aN w (by show ¬k=tb;omega) i v),h.hcap,h.fit,h.lt,h.ends,h.nums⟩⟩
theorem bK.ymono {D D':Nat→Prop}{w:World}(hD:∀b,D b→D' b){l:List Ar}{v:Value}(h:bK D w l v):bK D' w l v:=by
 obtain⟨a,cap,b,off,hv,h1,h2,h3,h4⟩:=h;exact⟨a,cap,b,off,hv,h1,h2,h3.imp id fun h=>⟨h.1,hD _ h.2⟩,h4⟩
theorem bM.ymono {D D':Nat→Prop}{w:World}(hD:∀b,D b→D' b){l:List Fu}{v:Value}(h:bM D w l v):bM D' w l v:=by
 obtain⟨a,cap,b,off,pv,lv,bv,hv,h1,h2,h3,h4⟩:=h;exact⟨a,cap,b,off,pv,lv,bv,hv,h1,h2,h3.imp id fun h=>⟨h.1,hD _ h.2⟩,fun i hi=>⟨(h4 i hi).1,(h4 i hi).2.1.mono hD,(h4 i hi).2.2.1.mono hD,(h4 i hi).2.2.2.mono hD⟩⟩
theorem bK.yshape {D:Nat→Prop}{w:World}{l:List Ar}{v:Value}(h:bK D w l v):∃a cap,v= .slice a l.length cap:=by
 obtain⟨a,cap,b,off,hv,_⟩:=h;exact⟨a,cap,hv⟩
theorem bM.yshape {D:Nat→Prop}{w:World}{l:List Fu}{v:Value}(h:bM D w l v):∃a cap,v= .slice a l.length cap:=by
 obtain⟨a,cap,b,off,pv,lv,bv,hv,_⟩:=h;exact⟨a,cap,hv⟩
theorem oK {D:Nat→Prop}(w:World){b:Nat}(hb:¬D b)(c0 c1:Value):cd D w ((w.setCell ⟨b,0,none⟩ c0).setCell ⟨b,1,none⟩ c1):=
 (aN w hb 0 c0).trans (aN _ hb 1 c1)
def oB:PR Ex→Ex ×Int ×Int
 | .error n=>(exZ,40,n)
 | .ok (_,[])=>(exZ,40,0)
 | .ok (x,t::_)=>if t.kind=5 then(x,0,0)else(exZ,40,t.line)
def WhE(w:World)(r:Ex ×Int ×Int)(e:Ending)(w':World):Prop:=Below w.heap.size w w'∧∃v,e= .returned (.tuple #[v,.int .i64 r.2.1,.int .i64 r.2.2])∧ExH w.heap.size r.1 v w'
theorem xA(z:Bs)(T:List Tk)(hE:gE T)(hN:∀t,t∈T→I64 t.num)(hL:T.length≤1000000)(f:Nat)(hf:4*T.length+4≤f)(w:World)(HSC:Hid (∀w1,Below w.heap.size w w1→Calls Zb 20 #[.string (aB z)] w1 fun e w'=>Below w1.heap.size w1 w'∧∃v,e= .returned (.tuple #[v,.int .i64 0,.int .i64 0])∧e7 w' w1.heap.size T v)):
  Calls Zb 26 #[.string (aB z),.func (.func 27) #[] #[]] w (WhE w (oB (ar f 1 T))):=by
 have hmf:∀(fn:Fn) (first cap:Array Value) (w:World),(Instr.makeFunc fn first cap).run Zb w= .ok (.func fn first cap) w:=fun _ _ _ _=>rfl
 obtain⟨W,hW⟩:∃W,(((w.alloc (.cells #[.int .i64 0,.int .i64 0,.int .i64 0,.string ⟨#[]⟩,.slice none 0 0] 27)).alloc (.cells #[.int .i64 0] 28)).alloc (.cells #[.int .i64 0] 3))=W:=⟨_,rfl⟩;have hb0:Below w.heap.size w W:=hW ▸ ((bA).alloc (by simp) _).alloc (by simp;omega) _;have hws:W.heap.size=w.heap.size+3:=by rw[←hW];simp
 have h0:aG W w.heap.size [.int .i64 0,.int .i64 0,.int .i64 0,.string ⟨#[]⟩,.slice none 0 0] 27:=hW ▸ ((Zd w [.int .i64 0,.int .i64 0,.int .i64 0,.string ⟨#[]⟩,.slice none 0 0] 27).alloc _).alloc _;have h1:aG W (w.heap.size+1) [.int .i64 0] 28:=by
  have:=(Zd (w.alloc (.cells #[.int .i64 0,.int .i64 0,.int .i64 0,.string ⟨#[]⟩,.slice none 0 0] 27)) [.int .i64 0] 28).alloc (.cells #[.int .i64 0] 3);rw[show(w.alloc (.cells #[.int .i64 0,.int .i64 0,.int .i64 0,.string ⟨#[]⟩,.slice none 0 0] 27)).heap.size=w.heap.size+1 by simp]at this;exact hW ▸ this
 have h2:aG W (w.heap.size+2) [.int .i64 0] 3:=by
  have:=Zd ((w.alloc (.cells #[.int .i64 0,.int .i64 0,.int .i64 0,.string ⟨#[]⟩,.slice none 0 0] 27)).alloc (.cells #[.int .i64 0] 28)) [.int .i64 0] 3;rw[show((w.alloc (.cells #[.int .i64 0,.int .i64 0,.int .i64 0,.string ⟨#[]⟩,.slice none 0 0] 27)).alloc (.cells #[.int .i64 0] 28)).heap.size=w.heap.size+2 by simp]at this;exact hW ▸ this
 have HS:=Za (HSC.out W hb0);have HB0:=Za hb0;have H0:=Za h0;have H1:=Za h1;have H2:=Za h2;have HWS:=Za hws;have HW:=Za hW;obtain⟨R,hR⟩:∃R,ar f 1 T=R:=⟨_,rfl⟩;rw[hR];have HR:=Za hR;clear hb0 hws h0 h1 h2 hW hR
 go_enter_defers Tryz.func26,Tryz.ntmps26
 go_upto_region 1 with(fail)
 rw[HW.out];rw[show w.heap.size+1+1=w.heap.size+2 from rfl];clear HW;go_wp2_with fail
 refine HS.out.mono ?_;rintro e w1 ⟨hb,v,rfl,ht⟩;have hbw:=HB0.out.trans (hb.mono HB0.out.size);have HB1:=Za hbw;have k1:=H1.out.old hb;have k2:=H2.out.old hb;have HA0:=Za (H0.out.old hb);have HA1:=Za k1;have HA2:=Za k2;have HTK:=Za ht;have x10:=k1.at 0 _ rfl;have x1f:=k1.fz 0;have x20:=k2.at 0 _ rfl;have x2f:=k2.fz 0;have xl1:=k1.lt;have xl2:=k2.lt;clear hb hbw ht k1 k2;go_upto_region 2 with(fail)
 rw[ay x10,ay x20];clear x1f x2f xl1 xl2 x20;obtain⟨g,cap,hv,hrow⟩:=rz HTK.out (by obtain⟨t,r,rfl⟩:=hE.ne;simp);have HG:Hid (w.heap.size+3≤g):=(HWS.out ▸ hrow.2.2.2:w.heap.size+3≤g);subst hv;have HROW:=Za hrow;clear hrow;go_upto_region 6 with(fail)
 have hba:Below w1.heap.size w1 (w1.alloc (.cells #[.slice (some ⟨g,0,none⟩) T.length cap] 113)):=bA;have hps:Ps (w1.alloc (.cells #[.slice (some ⟨g,0,none⟩) T.length cap] 113)) w1.heap.size g T:=⟨0,cap,Zd w1 [.slice (some ⟨g,0,none⟩) T.length cap] 113,HROW.out.1.keep (aw hba),HROW.out.2.1,hL,HROW.out.2.2.1,hE,hN⟩;have HPS:=Za hps;have HBB:=Za (HB1.out.alloc HB1.out.size (.cells #[.slice (some ⟨g,0,none⟩) T.length cap] 113));have HC0:=Za (HA0.out.old hba);have HC1:=Za (HA1.out.old hba);have HC2:=Za (HA2.out.old hba);have hlt2:=HA2.out.lt;have HLT:Hid (w.heap.size+2<w1.heap.size):=hlt2;have HP1:Hid (w1.heap.size<(w1.alloc (.cells #[.slice (some ⟨g,0,none⟩) T.length cap] 113)).heap.size):=hps.lt;clear hba hps hlt2 x10 HROW;obtain⟨pb,hpb⟩:∃pb,w1.heap.size=pb:=⟨_,rfl⟩;rw[hpb]at HPS HLT HP1 ⊢;generalize w1.alloc (.cells #[.slice (some ⟨g,0,none⟩) T.length cap] 113)=w4 at*;clear hpb;have HCALL:=Za ((io f).2.1 T w4 pb g (by omega) HPS.out);rw[HR.out]at HCALL;go_wp2_with fail
 refine HCALL.out.mono ?_;intro e w5 he
 cases R with
 |error n=>
  obtain⟨hf,rfl⟩:=he;have h0:=HC0.out.sfr hf (by have:=HLT.out;omega);have h1:=HC1.out.sfr hf (by have:=HLT.out;omega);have h2:=HC2.out.sfr hf (by have:=HLT.out;omega);have hbf:Below w.heap.size w w5:=HBB.out.trans ((hf.below (Nat.le_of_lt HP1.out)).mono (by have:=HLT.out;omega));have HX0:=Za h0;have HX1:=Za h1;have HX2:=Za h2;have HBF:=Za hbf;clear h0 h1 h2 hbf hf;unfold az;go_wp2_with fail
  refine leaves_cons (f:=57) (args:= #[.pointer (some ⟨w.heap.size,0,none⟩),.pointer (some ⟨w.heap.size+1,0,none⟩),.pointer (some ⟨w.heap.size+2,0,none⟩)]) (by simp) (by simp [go_sem]) ?_;refine(kx w.heap.size (w.heap.size+1) (w.heap.size+2) n 0 0 (.int .i64 0) (.int .i64 0) (.int .i64 0) (.string ⟨#[]⟩) (.slice none 0 0) [] w.heap.size w5 HX0.out HX1.out HX2.out (by omega) (by omega) (Zc _)).mono ?_;rintro e u' w'' ⟨rfl,rfl,hb,g0,g1,g2⟩;have hwb:=HBF.out.trans (hb.mono (Zc _));have d0:=g0.at 0 _ rfl;have f0:=g0.fz 0;have d1:=g0.at 1 _ rfl;have f1:=g0.fz 1;have d2:=g0.at 2 _ rfl;have f2:=g0.fz 2;have d3:=g0.at 3 _ rfl;have f3:=g0.fz 3;have d4:=g0.at 4 _ rfl;have f4:=g0.fz 4;have e0:=g1.at 0 _ rfl;have e1:=g1.fz 0;have i0:=g2.at 0 _ rfl;have i1:=g2.fz 0;show ∃v,(results Tryz.f26 _).run Zb w''= .ok v w''∧_
  refine⟨.tuple #[.agg #[.int .i64 0,.int .i64 0,.int .i64 0,.string ⟨#[]⟩,.slice none 0 0],.int .i64 40,.int .i64 n],by simp [results,Tryz.results26,go_sem,d0,d1,d2,d3,d4,e0,i0],hwb,_,rfl,⟨_,rfl,aJ.zero,dz⟩⟩
 |ok q=>
  obtain⟨x,r⟩:=q;obtain⟨hf,v,rfl,hps,hv⟩:=he;obtain⟨s5,rfl,hx,hn5⟩:=hv;obtain⟨a1,a2,rfl⟩:=hx.shape;have h0:=HC0.out.sfr hf (by have:=HLT.out;omega);have h1:=HC1.out.sfr hf (by have:=HLT.out;omega);have h2:=HC2.out.sfr hf (by have:=HLT.out;omega);have hbf:Below w.heap.size w w5:=HBB.out.trans ((hf.below (Nat.le_of_lt HP1.out)).mono (by have:=HLT.out;omega));have HX0:=Za h0;have HX1:=Za h1;have HX2:=Za h2;have HBF:=Za hbf;have hg:=HG.out;have hw5:w.heap.size+3≤w5.heap.size:=by have:=h2.lt;omega
  have y0:=h0.at 0 _ rfl;have f0:=h0.fz 0;have y1:=h0.at 1 _ rfl;have f1:=h0.fz 1;have y2:=h0.at 2 _ rfl;have f2:=h0.fz 2;have y3:=h0.at 3 _ rfl;have f3:=h0.fz 3;have y4:=h0.at 4 _ rfl;have f4:=h0.fz 4;obtain⟨t,r',rfl⟩:=hps.ends.ne;obtain⟨W6,hW6⟩:∃W6,(((((w5.setCell ⟨w.heap.size,0,none⟩ (.int .i64 x.kind)).setCell ⟨w.heap.size,1,none⟩ (.int .i64 x.op)).setCell ⟨w.heap.size,2,none⟩ (.int .i64 x.n)).setCell ⟨w.heap.size,3,none⟩ (.string (aB x.name))).setCell ⟨w.heap.size,4,none⟩ (.slice a1 x.args.length a2))=W6:=⟨_,rfl⟩;have kk:cd (w.heap.size< ·) w5 W6:=hW6 ▸ (gW w5 (by show ¬w.heap.size<w.heap.size;omega) _ _ _ _ _);have HPS6:=Za (show Ps W6 pb g (t::r')from hW6 ▸ (((((hps.under (by omega) _ _).under (by omega) _ _).under (by omega) _ _).under (by omega) _ _).under (by omega) _ _));have HO0:=Za (show aG W6 w.heap.size [.int .i64 x.kind,.int .i64 x.op,.int .i64 x.n,.string (aB x.name),.slice a1 x.args.length a2] 27 from hW6 ▸ (((((h0.set 0 (.int .i64 x.kind)).set 1 (.int .i64 x.op)).set 2 (.int .i64 x.n)).set 3 (.string (aB x.name))).set 4 (.slice a1 x.args.length a2)));have HO1:=Za (show aG W6 (w.heap.size+1) [.int .i64 0] 28 from hW6 ▸ (((((h1.other (by omega) _ _).other (by omega) _ _).other (by omega) _ _).other (by omega) _ _).other (by omega) _ _));have HO2:=Za (show aG W6 (w.heap.size+2) [.int .i64 0] 3 from hW6 ▸ (((((h2.other (by omega) _ _).other (by omega) _ _).other (by omega) _ _).other (by omega) _ _).other (by omega) _ _))
  have HB6:=Za (show Below w.heap.size w W6 from hW6 ▸ (((((hbf.setCell (p:=⟨w.heap.size,0,none⟩) (Zc _) (.int .i64 x.kind)).setCell (p:=⟨w.heap.size,1,none⟩) (Zc _) (.int .i64 x.op)).setCell (p:=⟨w.heap.size,2,none⟩) (Zc _) (.int .i64 x.n)).setCell (p:=⟨w.heap.size,3,none⟩) (Zc _) (.string (aB x.name))).setCell (p:=⟨w.heap.size,4,none⟩) (Zc _) (.slice a1 x.args.length a2)));have HKK:=Za kk;have HW6:=Za hW6;have HV:=Za (show aJ (w4.heap.size≤ ·) w5 x.args _∧I64 x.n from⟨hx,hn5⟩);clear h0 h1 h2 hps hbf kk hW6 hg hx hn5;go_upto_region 7 with(fail)
  rw[HW6.out];have HN:=Za (eI pb g t r' W6 HPS6.out);clear y0 f0 y1 f1 y2 f2 y3 f3 y4 f4 HW6;go_wp2_with fail
  refine HN.out.mono ?_;rintro e w7 ⟨rfl,hb7⟩;unfold tkV;have HQ0:=Za (HO0.out.old hb7);have HQ1:=Za (HO1.out.old hb7);have HQ2:=Za (HO2.out.old hb7);have HPS7:=Za (HPS6.out.old hb7);have HB7:=Za (HB6.out.trans (hb7.mono HB6.out.size));have HK7:=Za (HKK.out.trans (aw hb7));clear hb7
  by_cases hk:t.kind=5
  ·rw[hk]
   have z0:=HQ0.out.at 0 _ rfl;have g0:=HQ0.out.fz 0;have z1:=HQ0.out.at 1 _ rfl;have g1:=HQ0.out.fz 1;have z2:=HQ0.out.at 2 _ rfl;have g2:=HQ0.out.fz 2;have z3:=HQ0.out.at 3 _ rfl;have g3:=HQ0.out.fz 3;have z4:=HQ0.out.at 4 _ rfl;have g4:=HQ0.out.fz 4;have u1:=HQ1.out.at 0 _ rfl;have v1:=HQ1.out.fz 0;have u2:=HQ2.out.at 0 _ rfl;have v2:=HQ2.out.fz 0;clear hmf;go_wp2_with fail
   rw[ay z0,ay z1,ay z2,ay z3,ay z4,ay u1,ay u2];refine leaves_cons (f:=57) (args:= #[.pointer (some ⟨w.heap.size,0,none⟩),.pointer (some ⟨w.heap.size+1,0,none⟩),.pointer (some ⟨w.heap.size+2,0,none⟩)]) (by simp) (by simp [go_sem]) ?_;refine(rG w.heap.size (w.heap.size+1) (w.heap.size+2) w7).mono ?_;rintro e u' w'' ⟨rfl,rfl,hb⟩;clear z0 g0 z1 g1 z2 g2 z3 g3 z4 g4 u1 v1 u2 v2;have hwb:=HB7.out.trans (hb.mono HB7.out.size);have g0:=HQ0.out.old hb;have g1:=HQ1.out.old hb;have g2:=HQ2.out.old hb;have d0:=g0.at 0 _ rfl;have f0:=g0.fz 0;have d1:=g0.at 1 _ rfl;have f1:=g0.fz 1;have d2:=g0.at 2 _ rfl;have f2:=g0.fz 2;have d3:=g0.at 3 _ rfl;have f3:=g0.fz 3;have d4:=g0.at 4 _ rfl;have f4:=g0.fz 4;have e0:=g1.at 0 _ rfl;have e1:=g1.fz 0;have i0:=g2.at 0 _ rfl;have i1:=g2.fz 0;show ∃v,(results Tryz.f26 _).run Zb w''= .ok v w''∧_
   refine⟨.tuple #[.agg #[.int .i64 x.kind,.int .i64 x.op,.int .i64 x.n,.string (aB x.name),.slice a1 x.args.length a2],.int .i64 0,.int .i64 0],by simp [results,Tryz.results26,go_sem,d0,d1,d2,d3,d4,e0,i0],?_⟩;rw[oB,if_pos hk];exact⟨hwb,_,rfl,⟨_,rfl,(HV.out.1.keep (kC HK7.out (fun b hb=>by have:=HC2.out.lt;show w.heap.size<b;have:w4.heap.size≤b:=hb;omega))|>.keep (aw hb)).mono (fun b hb=>by have:=HC2.out.lt;have:w4.heap.size≤b:=hb;show w.heap.size≤b;omega),HV.out.2⟩⟩
  ·have HFL:=Za (fy pb g t r' w7 HPS7.out)
   go_wp2_with fail
   refine HFL.out.mono ?_;rintro e w8 ⟨rfl,hb8⟩;have h0:=HQ0.out.old hb8;have h1:=HQ1.out.old hb8;have h2:=HQ2.out.old hb8;have HX0:=Za h0;have HX1:=Za h1;have HX2:=Za h2;have HBF:=Za (HB7.out.trans (hb8.mono HB7.out.size));clear h0 h1 h2 hb8;unfold az;go_wp2_with fail
   refine leaves_cons (f:=57) (args:= #[.pointer (some ⟨w.heap.size,0,none⟩),.pointer (some ⟨w.heap.size+1,0,none⟩),.pointer (some ⟨w.heap.size+2,0,none⟩)]) (by simp) (by simp [go_sem]) ?_;refine(kx w.heap.size (w.heap.size+1) (w.heap.size+2) t.line 0 0 (.int .i64 x.kind) (.int .i64 x.op) (.int .i64 x.n) (.string (aB x.name)) (.slice a1 x.args.length a2) [] w.heap.size w8 HX0.out HX1.out HX2.out (by omega) (by omega) (Zc _)).mono ?_;rintro e u' w'' ⟨rfl,rfl,hb,g0,g1,g2⟩;have hwb:=HBF.out.trans (hb.mono (Zc _));have d0:=g0.at 0 _ rfl;have f0:=g0.fz 0;have d1:=g0.at 1 _ rfl;have f1:=g0.fz 1;have d2:=g0.at 2 _ rfl;have f2:=g0.fz 2;have d3:=g0.at 3 _ rfl;have f3:=g0.fz 3;have d4:=g0.at 4 _ rfl;have f4:=g0.fz 4;have e0:=g1.at 0 _ rfl;have e1:=g1.fz 0;have i0:=g2.at 0 _ rfl;have i1:=g2.fz 0;show ∃v,(results Tryz.f26 _).run Zb w''= .ok v w''∧_
   refine⟨.tuple #[.agg #[.int .i64 0,.int .i64 0,.int .i64 0,.string ⟨#[]⟩,.slice none 0 0],.int .i64 40,.int .i64 t.line],by simp [results,Tryz.results26,go_sem,d0,d1,d2,d3,d4,e0,i0],?_⟩;rw[oB,if_neg hk];exact⟨hwb,_,rfl,⟨_,rfl,aJ.zero,dz⟩⟩
def lV:PR Pr→Pr ×Int ×Int
 | .error n=>((⟨[],[]⟩:Pr),40,n)
 | .ok (_,[])=>((⟨[],[]⟩:Pr),40,0)
 | .ok (x,t::_)=>if t.kind=5 then(x,0,0)else((⟨[],[]⟩:Pr),40,t.line)
def WhP(w:World)(r:Pr ×Int ×Int)(e:Ending)(w':World):Prop:=Below w.heap.size w w'∧∃v,e= .returned (.tuple #[v,.int .i64 r.2.1,.int .i64 r.2.2])∧PrH w.heap.size r.1 v w'
theorem wo(z:Bs)(T:List Tk)(hE:gE T)(hN:∀t,t∈T→I64 t.num)(hL:T.length≤1000000)(f:Nat)(hf:4*T.length+4≤f)(w:World)(HSC:Hid (∀w1,Below w.heap.size w w1→Calls Zb 20 #[.string (aB z)] w1 fun e w'=>Below w1.heap.size w1 w'∧∃v,e= .returned (.tuple #[v,.int .i64 0,.int .i64 0])∧e7 w' w1.heap.size T v)):
  Calls Zb 29 #[.string (aB z),.func (.func 30) #[] #[]] w (WhP w (lV (dd f ⟨[],[]⟩ T))):=by
 have hmf:∀(fn:Fn) (first cap:Array Value) (w:World),(Instr.makeFunc fn first cap).run Zb w= .ok (.func fn first cap) w:=fun _ _ _ _=>rfl
 obtain⟨W,hW⟩:∃W,(((w.alloc (.cells #[.slice none 0 0,.slice none 0 0] 34)).alloc (.cells #[.int .i64 0] 28)).alloc (.cells #[.int .i64 0] 3))=W:=⟨_,rfl⟩;have hb0:Below w.heap.size w W:=hW ▸ ((bA).alloc (by simp) _).alloc (by simp;omega) _;have hws:W.heap.size=w.heap.size+3:=by rw[←hW];simp
 have h0:aG W w.heap.size [.slice none 0 0,.slice none 0 0] 34:=hW ▸ ((Zd w [.slice none 0 0,.slice none 0 0] 34).alloc _).alloc _;have h1:aG W (w.heap.size+1) [.int .i64 0] 28:=by
  have:=(Zd (w.alloc (.cells #[.slice none 0 0,.slice none 0 0] 34)) [.int .i64 0] 28).alloc (.cells #[.int .i64 0] 3);rw[show(w.alloc (.cells #[.slice none 0 0,.slice none 0 0] 34)).heap.size=w.heap.size+1 by simp]at this;exact hW ▸ this
 have h2:aG W (w.heap.size+2) [.int .i64 0] 3:=by
  have:=Zd ((w.alloc (.cells #[.slice none 0 0,.slice none 0 0] 34)).alloc (.cells #[.int .i64 0] 28)) [.int .i64 0] 3;rw[show((w.alloc (.cells #[.slice none 0 0,.slice none 0 0] 34)).alloc (.cells #[.int .i64 0] 28)).heap.size=w.heap.size+2 by simp]at this;exact hW ▸ this
 have HS:=Za (HSC.out W hb0);have HB0:=Za hb0;have H0:=Za h0;have H1:=Za h1;have H2:=Za h2;have HWS:=Za hws;have HW:=Za hW;obtain⟨R,hR⟩:∃R,dd f ⟨[],[]⟩ T=R:=⟨_,rfl⟩;rw[hR];have HR:=Za hR;clear hb0 hws h0 h1 h2 hW hR
 go_enter_defers Tryz.func29,Tryz.ntmps29
 go_upto_region 1 with(fail)
 rw[HW.out];rw[show w.heap.size+1+1=w.heap.size+2 from rfl];clear HW;go_wp2_with fail
 refine HS.out.mono ?_;rintro e w1 ⟨hb,v,rfl,ht⟩;have hbw:=HB0.out.trans (hb.mono HB0.out.size);have HB1:=Za hbw;have k1:=H1.out.old hb;have k2:=H2.out.old hb;have HA0:=Za (H0.out.old hb);have HA1:=Za k1;have HA2:=Za k2;have HTK:=Za ht;have x10:=k1.at 0 _ rfl;have x1f:=k1.fz 0;have x20:=k2.at 0 _ rfl;have x2f:=k2.fz 0;have xl1:=k1.lt;have xl2:=k2.lt;clear hb hbw ht k1 k2;go_upto_region 2 with(fail)
 rw[ay x10,ay x20];clear x1f x2f xl1 xl2 x20;obtain⟨g,cap,hv,hrow⟩:=rz HTK.out (by obtain⟨t,r,rfl⟩:=hE.ne;simp);have HG:Hid (w.heap.size+3≤g):=(HWS.out ▸ hrow.2.2.2:w.heap.size+3≤g);subst hv;have HROW:=Za hrow;clear hrow;go_upto_region 6 with(fail)
 have hba:Below w1.heap.size w1 (w1.alloc (.cells #[.slice (some ⟨g,0,none⟩) T.length cap] 113)):=bA;have hps:Ps (w1.alloc (.cells #[.slice (some ⟨g,0,none⟩) T.length cap] 113)) w1.heap.size g T:=⟨0,cap,Zd w1 [.slice (some ⟨g,0,none⟩) T.length cap] 113,HROW.out.1.keep (aw hba),HROW.out.2.1,hL,HROW.out.2.2.1,hE,hN⟩;have HPS:=Za hps;have HBB:=Za (HB1.out.alloc HB1.out.size (.cells #[.slice (some ⟨g,0,none⟩) T.length cap] 113));have HC0:=Za (HA0.out.old hba);have HC1:=Za (HA1.out.old hba);have HC2:=Za (HA2.out.old hba);have hlt2:=HA2.out.lt;have HLT:Hid (w.heap.size+2<w1.heap.size):=hlt2;have HP1:Hid (w1.heap.size<(w1.alloc (.cells #[.slice (some ⟨g,0,none⟩) T.length cap] 113)).heap.size):=hps.lt;clear hba hps hlt2 x10 HROW;obtain⟨pb,hpb⟩:∃pb,w1.heap.size=pb:=⟨_,rfl⟩;rw[hpb]at HPS HLT HP1 ⊢;generalize w1.alloc (.cells #[.slice (some ⟨g,0,none⟩) T.length cap] 113)=w4 at*;clear hpb;have HCALL:=Za (wv f T w4 pb g (by omega) HPS.out);rw[HR.out]at HCALL;go_wp2_with fail
 refine HCALL.out.mono ?_;intro e w5 he
 cases R with
 |error n=>
  obtain⟨hf,rfl⟩:=he;have h0:=HC0.out.sfr hf (by have:=HLT.out;omega);have h1:=HC1.out.sfr hf (by have:=HLT.out;omega);have h2:=HC2.out.sfr hf (by have:=HLT.out;omega);have hbf:Below w.heap.size w w5:=HBB.out.trans ((hf.below (Nat.le_of_lt HP1.out)).mono (by have:=HLT.out;omega));have HX0:=Za h0;have HX1:=Za h1;have HX2:=Za h2;have HBF:=Za hbf;clear h0 h1 h2 hbf hf;unfold az;go_wp2_with fail
  refine leaves_cons (f:=63) (args:= #[.pointer (some ⟨w.heap.size,0,none⟩),.pointer (some ⟨w.heap.size+1,0,none⟩),.pointer (some ⟨w.heap.size+2,0,none⟩)]) (by simp) (by simp [go_sem]) ?_;refine(kZ w.heap.size (w.heap.size+1) (w.heap.size+2) n 0 0 (.slice none 0 0) (.slice none 0 0) [] w.heap.size w5 HX0.out HX1.out HX2.out (by omega) (by omega) (Zc _)).mono ?_;rintro e u' w'' ⟨rfl,rfl,hb,g0,g1,g2⟩;have hwb:=HBF.out.trans (hb.mono (Zc _));have d0:=g0.at 0 _ rfl;have f0:=g0.fz 0;have d1:=g0.at 1 _ rfl;have f1:=g0.fz 1;have e0:=g1.at 0 _ rfl;have e1:=g1.fz 0;have i0:=g2.at 0 _ rfl;have i1:=g2.fz 0;show ∃v,(results Tryz.f29 _).run Zb w''= .ok v w''∧_
  refine⟨.tuple #[.agg #[.slice none 0 0,.slice none 0 0],.int .i64 40,.int .i64 n],by simp [results,Tryz.results29,go_sem,d0,d1,e0,i0],hwb,_,rfl,⟨_,_,rfl,bK.zero,bM.zero⟩⟩
 |ok q=>
  obtain⟨x,r⟩:=q;obtain⟨hf,v,rfl,hps,hv⟩:=he;obtain⟨av,fv,rfl,hxa,hxf⟩:=hv;obtain⟨a1,a2,rfl⟩:=hxa.yshape;obtain⟨c1,c2,rfl⟩:=hxf.yshape;have h0:=HC0.out.sfr hf (by have:=HLT.out;omega);have h1:=HC1.out.sfr hf (by have:=HLT.out;omega);have h2:=HC2.out.sfr hf (by have:=HLT.out;omega);have hbf:Below w.heap.size w w5:=HBB.out.trans ((hf.below (Nat.le_of_lt HP1.out)).mono (by have:=HLT.out;omega));have HX0:=Za h0;have HX1:=Za h1;have HX2:=Za h2;have HBF:=Za hbf;have hg:=HG.out;have hw5:w.heap.size+3≤w5.heap.size:=by have:=h2.lt;omega
  have y0:=h0.at 0 _ rfl;have f0:=h0.fz 0;have y1:=h0.at 1 _ rfl;have f1:=h0.fz 1;obtain⟨t,r',rfl⟩:=hps.ends.ne;obtain⟨W6,hW6⟩:∃W6,((w5.setCell ⟨w.heap.size,0,none⟩ (.slice a1 x.arrays.length a2)).setCell ⟨w.heap.size,1,none⟩ (.slice c1 x.funcs.length c2))=W6:=⟨_,rfl⟩;have kk:cd (w.heap.size< ·) w5 W6:=hW6 ▸ (oK w5 (by show ¬w.heap.size<w.heap.size;omega) _ _);have HPS6:=Za (show Ps W6 pb g (t::r')from hW6 ▸ ((hps.under (by omega) _ _).under (by omega) _ _));have HO0:=Za (show aG W6 w.heap.size [.slice a1 x.arrays.length a2,.slice c1 x.funcs.length c2] 34 from hW6 ▸ ((h0.set 0 (.slice a1 x.arrays.length a2)).set 1 (.slice c1 x.funcs.length c2)));have HO1:=Za (show aG W6 (w.heap.size+1) [.int .i64 0] 28 from hW6 ▸ ((h1.other (by omega) _ _).other (by omega) _ _));have HO2:=Za (show aG W6 (w.heap.size+2) [.int .i64 0] 3 from hW6 ▸ ((h2.other (by omega) _ _).other (by omega) _ _));have HB6:=Za (show Below w.heap.size w W6 from hW6 ▸ ((hbf.setCell (p:=⟨w.heap.size,0,none⟩) (Zc _) (.slice a1 x.arrays.length a2)).setCell (p:=⟨w.heap.size,1,none⟩) (Zc _) (.slice c1 x.funcs.length c2)));have HKK:=Za kk;have HW6:=Za hW6;have HV:=Za (show bK (w4.heap.size≤ ·) w5 x.arrays _∧bM (w4.heap.size≤ ·) w5 x.funcs _ from⟨hxa,hxf⟩);clear h0 h1 h2 hps hbf kk hW6 hg hxa hxf;go_upto_region 7 with(fail)
  rw[HW6.out];have HN:=Za (eI pb g t r' W6 HPS6.out);clear y0 f0 y1 f1 HW6;go_wp2_with fail
  refine HN.out.mono ?_;rintro e w7 ⟨rfl,hb7⟩;unfold tkV;have HQ0:=Za (HO0.out.old hb7);have HQ1:=Za (HO1.out.old hb7);have HQ2:=Za (HO2.out.old hb7);have HPS7:=Za (HPS6.out.old hb7);have HB7:=Za (HB6.out.trans (hb7.mono HB6.out.size));have HK7:=Za (HKK.out.trans (aw hb7));clear hb7
  by_cases hk:t.kind=5
  ·rw[hk]
   have z0:=HQ0.out.at 0 _ rfl;have g0:=HQ0.out.fz 0;have z1:=HQ0.out.at 1 _ rfl;have g1:=HQ0.out.fz 1;have u1:=HQ1.out.at 0 _ rfl;have v1:=HQ1.out.fz 0;have u2:=HQ2.out.at 0 _ rfl;have v2:=HQ2.out.fz 0;clear hmf;go_wp2_with fail
   rw[ay z0,ay z1,ay u1,ay u2];refine leaves_cons (f:=63) (args:= #[.pointer (some ⟨w.heap.size,0,none⟩),.pointer (some ⟨w.heap.size+1,0,none⟩),.pointer (some ⟨w.heap.size+2,0,none⟩)]) (by simp) (by simp [go_sem]) ?_;refine(rg w.heap.size (w.heap.size+1) (w.heap.size+2) w7).mono ?_;rintro e u' w'' ⟨rfl,rfl,hb⟩;clear z0 g0 z1 g1 u1 v1 u2 v2;have hwb:=HB7.out.trans (hb.mono HB7.out.size);have g0:=HQ0.out.old hb;have g1:=HQ1.out.old hb;have g2:=HQ2.out.old hb;have d0:=g0.at 0 _ rfl;have f0:=g0.fz 0;have d1:=g0.at 1 _ rfl;have f1:=g0.fz 1;have e0:=g1.at 0 _ rfl;have e1:=g1.fz 0;have i0:=g2.at 0 _ rfl;have i1:=g2.fz 0;show ∃v,(results Tryz.f29 _).run Zb w''= .ok v w''∧_
   refine⟨.tuple #[.agg #[.slice a1 x.arrays.length a2,.slice c1 x.funcs.length c2],.int .i64 0,.int .i64 0],by simp [results,Tryz.results29,go_sem,d0,d1,e0,i0],?_⟩;rw[lV,if_pos hk];exact⟨hwb,_,rfl,⟨_,_,rfl,(HV.out.1.keep (kC HK7.out (fun b hb=>by have:=HC2.out.lt;show w.heap.size<b;have:w4.heap.size≤b:=hb;omega))|>.keep (aw hb)).ymono (fun b hb=>by have:=HC2.out.lt;have:w4.heap.size≤b:=hb;show w.heap.size≤b;omega),(HV.out.2.keep (kC HK7.out (fun b hb=>by have:=HC2.out.lt;show w.heap.size<b;have:w4.heap.size≤b:=hb;omega))|>.keep (aw hb)).ymono (fun b hb=>by have:=HC2.out.lt;have:w4.heap.size≤b:=hb;show w.heap.size≤b;omega)⟩⟩
  ·have HFL:=Za (fy pb g t r' w7 HPS7.out)
   go_wp2_with fail
   refine HFL.out.mono ?_;rintro e w8 ⟨rfl,hb8⟩;have h0:=HQ0.out.old hb8;have h1:=HQ1.out.old hb8;have h2:=HQ2.out.old hb8;have HX0:=Za h0;have HX1:=Za h1;have HX2:=Za h2;have HBF:=Za (HB7.out.trans (hb8.mono HB7.out.size));clear h0 h1 h2 hb8;unfold az;go_wp2_with fail
   refine leaves_cons (f:=63) (args:= #[.pointer (some ⟨w.heap.size,0,none⟩),.pointer (some ⟨w.heap.size+1,0,none⟩),.pointer (some ⟨w.heap.size+2,0,none⟩)]) (by simp) (by simp [go_sem]) ?_;refine(kZ w.heap.size (w.heap.size+1) (w.heap.size+2) t.line 0 0 (.slice a1 x.arrays.length a2) (.slice c1 x.funcs.length c2) [] w.heap.size w8 HX0.out HX1.out HX2.out (by omega) (by omega) (Zc _)).mono ?_;rintro e u' w'' ⟨rfl,rfl,hb,g0,g1,g2⟩;have hwb:=HBF.out.trans (hb.mono (Zc _));have d0:=g0.at 0 _ rfl;have f0:=g0.fz 0;have d1:=g0.at 1 _ rfl;have f1:=g0.fz 1;have e0:=g1.at 0 _ rfl;have e1:=g1.fz 0;have i0:=g2.at 0 _ rfl;have i1:=g2.fz 0;show ∃v,(results Tryz.f29 _).run Zb w''= .ok v w''∧_
   refine⟨.tuple #[.agg #[.slice none 0 0,.slice none 0 0],.int .i64 40,.int .i64 t.line],by simp [results,Tryz.results29,go_sem,d0,d1,e0,i0],?_⟩;rw[lV,if_neg hk];exact⟨hwb,_,rfl,⟨_,_,rfl,bK.zero,bM.zero⟩⟩
theorem s7(b off n cap:Nat)(k:FuncId)(caps:Array Value)(hk:∀args w,(callFunc k args).run Zb w= .ok (.enter k args) w)(w:World)(c0 c1 c2 c3 c4:Nat→Value)(p:Nat→Bool)(hn:n≤140737488355328)
  (hc:∀i,i<n→w.cell? ⟨b,off+i*5,none⟩=some (c0 i)∧w.cell? ⟨b,off+i*5+1,none⟩=some (c1 i)∧w.cell? ⟨b,off+i*5+2,none⟩=some (c2 i)∧w.cell? ⟨b,off+i*5+3,none⟩=some (c3 i)∧w.cell? ⟨b,off+i*5+4,none⟩=some (c4 i))
  (hf:∀i,i<n→∀w1,Below w.heap.size w w1→Calls Zb k (#[.agg #[c0 i,c1 i,c2 i,c3 i,c4 i]]++caps) w1 fun e w2=>e= .returned (.bool (p i))∧Below w1.heap.size w1 w2):
  Calls Zb 164 #[.slice (some ⟨b,off,none⟩) n cap,.func (.func k) #[] caps] w fun e w'=>e= .returned (.int .i64 (dG p n))∧Below w.heap.size w w':=by
 have HF:=Za hf;clear hf;have HC:=Za hc;clear hc;have hn1:n<9223372036854775807:=by omega
 clear hn;go_enter Tryz.func164,Tryz.ntmps164
 go_wp2_with fail
 go_loopw [5,8] (fun _ i8 wr=> ∃j:Nat,j≤n∧i8= .int .i64 j∧(∀i,i<j→p i=false)∧Below w.heap.size w wr) (fun _ i8 _=>n - (intOf i8).toNat)
 case atStart=>exact⟨0,Nat.zero_le _,rfl,fun i hi=>by omega,Ze _ _⟩
 case round=>
  obtain⟨j,hj,rfl,hno,hb⟩:=hrel;have HNO:=Za hno;clear hno
  by_cases hlt:j<n
  ·obtain⟨g0,g1,g2,g3,g4⟩:=HC.out j hlt
   have k0:=aE hb g0;have k1:=aE hb g1;have k2:=aE hb g2;have k3:=aE hb g3;have k4:=aE hb g4;clear g0 g1 g2 g3 g4;have call:=HF.out j hlt wr hb;have HB:=Za hb;clear hb;have HCALL:=Za call;clear call;go_wp2_with fail
   refine HCALL.out.mono ?_
   cases hp:p j
   ·rintro e w2 ⟨rfl,hb2⟩
    have HP:=Za hp;clear hp;go_wp2_with fail
    go_roundw
    case rel=>exact⟨j+1,by omega,by go_num,fun i hi=>by rcases Zg.1 hi with h|rfl;exact HNO.out i h;exact HP.out,HB.out.trans (hb2.mono HB.out.size)⟩
    case measure=>simp [intOf];omega
   ·rintro e w2 ⟨rfl,hb2⟩
    have HP:=Za hp;clear hp;go_wp2_with fail
    go_ret
    exact⟨e9 (js p j HP.out HNO.out n hlt).symm,HB.out.trans (hb2.mono HB.out.size)⟩
  ·have hje:n≤j:=by omega
   have HB:=Za hb;clear hb;go_wp2_with fail
   go_ret
   exact⟨e9 (gT p n (fun i hi=>HNO.out i (by omega))).symm,HB.out⟩
theorem rR(a:Option Addr)(cap:Nat)(f:Value)(w:World):
  Calls Zb 164 #[.slice a 0 cap,f] w fun e w'=>e= .returned (.int .i64 (-1))∧Below w.heap.size w w':=by
 go_enter Tryz.func164,Tryz.ntmps164
 go_wp2_with fail
 refine wp_loop_rounds 1 ?_;rw[rounds_succ];go_wp2_with fail
 go_ret
 exact⟨rfl,Ze _ _⟩
theorem ol(a:Option Addr)(n cap:Nat)(k:FuncId)(caps:Array Value)(hk:∀args w,(callFunc k args).run Zb w= .ok (.enter k args) w)(w:World)(c0 c1 c2 c3 c4:Nat→Value)(p:Nat→Bool)(hn:n≤140737488355328)
  (hc:n=0∨∃b off,a=some ⟨b,off,none⟩∧∀i,i<n→w.cell? ⟨b,off+i*5,none⟩=some (c0 i)∧w.cell? ⟨b,off+i*5+1,none⟩=some (c1 i)∧w.cell? ⟨b,off+i*5+2,none⟩=some (c2 i)∧w.cell? ⟨b,off+i*5+3,none⟩=some (c3 i)∧w.cell? ⟨b,off+i*5+4,none⟩=some (c4 i))
  (hf:∀i,i<n→∀w1,Below w.heap.size w w1→Calls Zb k (#[.agg #[c0 i,c1 i,c2 i,c3 i,c4 i]]++caps) w1 fun e w2=>e= .returned (.bool (p i))∧Below w1.heap.size w1 w2):
  Calls Zb 120 #[.slice a n cap,.func (.func k) #[] caps] w fun e w'=>e= .returned (.bool (jw p n))∧Below w.heap.size w w':=by
 have H:Hid (Calls Zb 164 #[.slice a n cap,.func (.func k) #[] caps] w fun e w'=>e= .returned (.int .i64 (dG p n))∧Below w.heap.size w w'):=by
  rcases hc with rfl|⟨b,off,rfl,hc⟩
  ·exact rR _ _ _ _
  ·exact s7 b off n cap k caps hk w c0 c1 c2 c3 c4 p hn hc hf
 clear hc hf hk hn;have E:Hid (decide (0≤dG p n)=jw p n):=iO p n;generalize dG p n=r at H E;generalize jw p n=q at E;go_enter Tryz.func120,Tryz.ntmps120
 go_wp2_with fail
 refine H.out.mono ?_;rintro e w1 ⟨rfl,hb⟩;go_wp2_with fail
 go_ret
 exact⟨aT E.out,hb⟩
theorem uQ(b off n cap:Nat)(k:FuncId)(caps:Array Value)(hk:∀args w,(callFunc k args).run Zb w= .ok (.enter k args) w)(w:World)(c0 c1 c2 c3 c4:Nat→Value)(p:Nat→Bool)(hn:n≤140737488355328)
  (hc:∀i,i<n→w.cell? ⟨b,off+i*5,none⟩=some (c0 i)∧w.cell? ⟨b,off+i*5+1,none⟩=some (c1 i)∧w.cell? ⟨b,off+i*5+2,none⟩=some (c2 i)∧w.cell? ⟨b,off+i*5+3,none⟩=some (c3 i)∧w.cell? ⟨b,off+i*5+4,none⟩=some (c4 i))
  (hf:∀i,i<n→∀w1,Below w.heap.size w w1→Calls Zb k (#[.agg #[c0 i,c1 i,c2 i,c3 i,c4 i]]++caps) w1 fun e w2=>e= .returned (.bool (p i))∧Below w1.heap.size w1 w2):
  Calls Zb 159 #[.slice (some ⟨b,off,none⟩) n cap,.func (.func k) #[] caps] w fun e w'=>e= .returned (.int .i64 (dG p n))∧Below w.heap.size w w':=by
 have HF:=Za hf;clear hf;have HC:=Za hc;clear hc;have hn1:n<9223372036854775807:=by omega
 clear hn;go_enter Tryz.func159,Tryz.ntmps159
 go_wp2_with fail
 go_loopw [5,8] (fun _ i8 wr=> ∃j:Nat,j≤n∧i8= .int .i64 j∧(∀i,i<j→p i=false)∧Below w.heap.size w wr) (fun _ i8 _=>n - (intOf i8).toNat)
 case atStart=>exact⟨0,Nat.zero_le _,rfl,fun i hi=>by omega,Ze _ _⟩
 case round=>
  obtain⟨j,hj,rfl,hno,hb⟩:=hrel;have HNO:=Za hno;clear hno
  by_cases hlt:j<n
  ·obtain⟨g0,g1,g2,g3,g4⟩:=HC.out j hlt
   have k0:=aE hb g0;have k1:=aE hb g1;have k2:=aE hb g2;have k3:=aE hb g3;have k4:=aE hb g4;clear g0 g1 g2 g3 g4;have call:=HF.out j hlt wr hb;have HB:=Za hb;clear hb;have HCALL:=Za call;clear call;go_wp2_with fail
   refine HCALL.out.mono ?_
   cases hp:p j
   ·rintro e w2 ⟨rfl,hb2⟩
    have HP:=Za hp;clear hp;go_wp2_with fail
    go_roundw
    case rel=>exact⟨j+1,by omega,by go_num,fun i hi=>by rcases Zg.1 hi with h|rfl;exact HNO.out i h;exact HP.out,HB.out.trans (hb2.mono HB.out.size)⟩
    case measure=>simp [intOf];omega
   ·rintro e w2 ⟨rfl,hb2⟩
    have HP:=Za hp;clear hp;go_wp2_with fail
    go_ret
    exact⟨e9 (js p j HP.out HNO.out n hlt).symm,HB.out.trans (hb2.mono HB.out.size)⟩
  ·have hje:n≤j:=by omega
   have HB:=Za hb;clear hb;go_wp2_with fail
   go_ret
   exact⟨e9 (gT p n (fun i hi=>HNO.out i (by omega))).symm,HB.out⟩
theorem rO(a:Option Addr)(cap:Nat)(f:Value)(w:World):
  Calls Zb 159 #[.slice a 0 cap,f] w fun e w'=>e= .returned (.int .i64 (-1))∧Below w.heap.size w w':=by
 go_enter Tryz.func159,Tryz.ntmps159
 go_wp2_with fail
 refine wp_loop_rounds 1 ?_;rw[rounds_succ];go_wp2_with fail
 go_ret
 exact⟨rfl,Ze _ _⟩
theorem og(a:Option Addr)(n cap:Nat)(k:FuncId)(caps:Array Value)(hk:∀args w,(callFunc k args).run Zb w= .ok (.enter k args) w)(w:World)(c0 c1 c2 c3 c4:Nat→Value)(p:Nat→Bool)(hn:n≤140737488355328)
  (hc:n=0∨∃b off,a=some ⟨b,off,none⟩∧∀i,i<n→w.cell? ⟨b,off+i*5,none⟩=some (c0 i)∧w.cell? ⟨b,off+i*5+1,none⟩=some (c1 i)∧w.cell? ⟨b,off+i*5+2,none⟩=some (c2 i)∧w.cell? ⟨b,off+i*5+3,none⟩=some (c3 i)∧w.cell? ⟨b,off+i*5+4,none⟩=some (c4 i))
  (hf:∀i,i<n→∀w1,Below w.heap.size w w1→Calls Zb k (#[.agg #[c0 i,c1 i,c2 i,c3 i,c4 i]]++caps) w1 fun e w2=>e= .returned (.bool (p i))∧Below w1.heap.size w1 w2):
  Calls Zb 113 #[.slice a n cap,.func (.func k) #[] caps] w fun e w'=>e= .returned (.bool (jw p n))∧Below w.heap.size w w':=by
 have H:Hid (Calls Zb 159 #[.slice a n cap,.func (.func k) #[] caps] w fun e w'=>e= .returned (.int .i64 (dG p n))∧Below w.heap.size w w'):=by
  rcases hc with rfl|⟨b,off,rfl,hc⟩
  ·exact rO _ _ _ _
  ·exact uQ b off n cap k caps hk w c0 c1 c2 c3 c4 p hn hc hf
 clear hc hf hk hn;have E:Hid (decide (0≤dG p n)=jw p n):=iO p n;generalize dG p n=r at H E;generalize jw p n=q at E;go_enter Tryz.func113,Tryz.ntmps113
 go_wp2_with fail
 refine H.out.mono ?_;rintro e w1 ⟨rfl,hb⟩;go_wp2_with fail
 go_ret
 exact⟨aT E.out,hb⟩
theorem sj(b off n cap:Nat)(k:FuncId)(caps:Array Value)(hk:∀args w,(callFunc k args).run Zb w= .ok (.enter k args) w)(w:World)(c0:Nat→Value)(p:Nat→Bool)(hn:n≤140737488355328)
  (hc:∀i,i<n→w.cell? ⟨b,off+i,none⟩=some (c0 i))
  (hf:∀i,i<n→∀w1,Below w.heap.size w w1→Calls Zb k (#[c0 i]++caps) w1 fun e w2=>e= .returned (.bool (p i))∧Below w1.heap.size w1 w2):
  Calls Zb 158 #[.slice (some ⟨b,off,none⟩) n cap,.func (.func k) #[] caps] w fun e w'=>e= .returned (.int .i64 (dG p n))∧Below w.heap.size w w':=by
 have HF:=Za hf;clear hf;have HC:=Za hc;clear hc;have hn1:n<9223372036854775807:=by omega
 clear hn;go_enter Tryz.func158,Tryz.ntmps158
 go_wp2_with fail
 go_loopw [5,8] (fun _ i8 wr=> ∃j:Nat,j≤n∧i8= .int .i64 j∧(∀i,i<j→p i=false)∧Below w.heap.size w wr) (fun _ i8 _=>n - (intOf i8).toNat)
 case atStart=>exact⟨0,Nat.zero_le _,rfl,fun i hi=>by omega,Ze _ _⟩
 case round=>
  obtain⟨j,hj,rfl,hno,hb⟩:=hrel;have HNO:=Za hno;clear hno
  by_cases hlt:j<n
  ·have g0:=HC.out j hlt
   have k0:=aE hb g0;clear g0;have call:=HF.out j hlt wr hb;have HB:=Za hb;clear hb;have HCALL:=Za call;clear call;go_wp2_with fail
   refine HCALL.out.mono ?_
   cases hp:p j
   ·rintro e w2 ⟨rfl,hb2⟩
    have HP:=Za hp;clear hp;go_wp2_with fail
    go_roundw
    case rel=>exact⟨j+1,by omega,by go_num,fun i hi=>by rcases Zg.1 hi with h|rfl;exact HNO.out i h;exact HP.out,HB.out.trans (hb2.mono HB.out.size)⟩
    case measure=>simp [intOf];omega
   ·rintro e w2 ⟨rfl,hb2⟩
    have HP:=Za hp;clear hp;go_wp2_with fail
    go_ret
    exact⟨e9 (js p j HP.out HNO.out n hlt).symm,HB.out.trans (hb2.mono HB.out.size)⟩
  ·have hje:n≤j:=by omega
   have HB:=Za hb;clear hb;go_wp2_with fail
   go_ret
   exact⟨e9 (gT p n (fun i hi=>HNO.out i (by omega))).symm,HB.out⟩
theorem qw(a:Option Addr)(cap:Nat)(f:Value)(w:World):
  Calls Zb 158 #[.slice a 0 cap,f] w fun e w'=>e= .returned (.int .i64 (-1))∧Below w.heap.size w w':=by
 go_enter Tryz.func158,Tryz.ntmps158
 go_wp2_with fail
 refine wp_loop_rounds 1 ?_;rw[rounds_succ];go_wp2_with fail
 go_ret
 exact⟨rfl,Ze _ _⟩
theorem oo(a:Option Addr)(n cap:Nat)(k:FuncId)(caps:Array Value)(hk:∀args w,(callFunc k args).run Zb w= .ok (.enter k args) w)(w:World)(c0:Nat→Value)(p:Nat→Bool)(hn:n≤140737488355328)
  (hc:n=0∨∃b off,a=some ⟨b,off,none⟩∧∀i,i<n→w.cell? ⟨b,off+i,none⟩=some (c0 i))
  (hf:∀i,i<n→∀w1,Below w.heap.size w w1→Calls Zb k (#[c0 i]++caps) w1 fun e w2=>e= .returned (.bool (p i))∧Below w1.heap.size w1 w2):
  Calls Zb 110 #[.slice a n cap,.func (.func k) #[] caps] w fun e w'=>e= .returned (.bool (jw p n))∧Below w.heap.size w w':=by
 have H:Hid (Calls Zb 158 #[.slice a n cap,.func (.func k) #[] caps] w fun e w'=>e= .returned (.int .i64 (dG p n))∧Below w.heap.size w w'):=by
  rcases hc with rfl|⟨b,off,rfl,hc⟩
  ·exact qw _ _ _ _
  ·exact sj b off n cap k caps hk w c0 p hn hc hf
 clear hc hf hk hn;have E:Hid (decide (0≤dG p n)=jw p n):=iO p n;generalize dG p n=r at H E;generalize jw p n=q at E;go_enter Tryz.func110,Tryz.ntmps110
 go_wp2_with fail
 refine H.out.mono ?_;rintro e w1 ⟨rfl,hb⟩;go_wp2_with fail
 go_ret
 exact⟨aT E.out,hb⟩
theorem bx {l:List Ex}{i:Nat}(h:i<l.length):bI l i∈l:=by
 simp only[bI,List.getD_eq_getElem?_getD,Zf h,Option.getD_some];exact List.getElem_mem h
theorem ro {l:List Ex}{i:Nat}(h:i<l.length):bI l i=l[i]:=by
 simp [bI,Zf h]
theorem nD {l:List St}{i:Nat}(h:i<l.length):ez l i∈l:=by
 simp only[ez,List.getD_eq_getElem?_getD,Zf h,Option.getD_some];exact List.getElem_mem h
theorem yK {l:List St}{i:Nat}(h:i<l.length):ez l i=l[i]:=by
 simp [ez,Zf h]
theorem iy(k:FuncId)(caps:Array Value)(hk:∀args w,(callFunc k args).run Zb w= .ok (.enter k args) w)(l:List Ex)(s:Value)(D:Nat→Prop)(w:World)(h:aJ D w l s)(f:Ex→Bool)
  (hf:∀e s' w1,e∈l→Below w.heap.size w w1→aJ D w1 e.args s'→Calls Zb k (#[exV e s']++caps) w1 fun r w2=>r= .returned (.bool (f e))∧Below w1.heap.size w1 w2):
  Calls Zb 120 #[s,.func (.func k) #[] caps] w fun r w'=>r= .returned (.bool (l.any f))∧Below w.heap.size w w':=by
 cases h with
 |mk _ a cap b off sv hcap hfit ha h0 h1 h2 h3 h4 hs=>
  rw[←mI f (fun i=>f (bI l i)) l (fun i hi=>by rw[ro hi])];refine ol a l.length cap k caps hk w (fun i=> .int .i64 (bI l i).kind) (fun i=> .int .i64 (bI l i).op) (fun i=> .int .i64 (bI l i).n) (fun i=> .string (aB (bI l i).name)) sv (fun i=>f (bI l i)) (hfit).out ?_ ?_
  ·rcases ha with ha|⟨ha,_⟩
   ·exact .inl ha
   ·exact .inr ⟨b,off,ha,fun i hi=>⟨h0 i hi,h1 i hi,h2 i hi,h3 i hi,h4 i hi⟩⟩
  ·intro i hi w1 hb
   exact hf (bI l i) (sv i) w1 (bx hi) hb ((hs i hi).old hb)
abbrev stV(x:St)(a t e:Value):Value:= .agg #[.int .i64 x.kind,.string (aB x.name),a,t,e]
theorem qf(k:FuncId)(caps:Array Value)(hk:∀args w,(callFunc k args).run Zb w= .ok (.enter k args) w)(l:List St)(s:Value)(D:Nat→Prop)(w:World)(h:aR D w l s)(f:St→Bool)
  (hf:∀x a t e w1,x∈l→Below w.heap.size w w1→aJ D w1 x.args a→aR D w1 x.thn t→aR D w1 x.els e→Calls Zb k (#[stV x a t e]++caps) w1 fun r w2=>r= .returned (.bool (f x))∧Below w1.heap.size w1 w2):
  Calls Zb 113 #[s,.func (.func k) #[] caps] w fun r w'=>r= .returned (.bool (l.any f))∧Below w.heap.size w w':=by
 cases h with
 |mk _ a cap b off sa st se hcap hfit ha h0 h1 h2 h3 h4 ea et ee=>
  rw[←mI f (fun i=>f (ez l i)) l (fun i hi=>by rw[yK hi])];refine og a l.length cap k caps hk w (fun i=> .int .i64 (ez l i).kind) (fun i=> .string (aB (ez l i).name)) sa st se (fun i=>f (ez l i)) (hfit).out ?_ ?_
  ·rcases ha with ha|⟨ha,_⟩
   ·exact .inl ha
   ·exact .inr ⟨b,off,ha,fun i hi=>⟨h0 i hi,h1 i hi,h2 i hi,h3 i hi,h4 i hi⟩⟩
  ·intro i hi w1 hb
   exact hf (ez l i) (sa i) (st i) (se i) w1 (nD hi) hb ((ea i hi).old hb) ((et i hi).old hb) ((ee i hi).old hb)
def yP(m:Nat):Prop:= ∀(D:Nat→Prop) (e:Ex) (s:Value) (w:World),aJ D w e.args s→
 Calls Zb 61 #[exV e s,.int .i64 m] w fun r w'=>r= .returned (.bool (gU m e))∧Below w.heap.size w w'
theorem deep_fn(m:Nat)(ih:yP m)(D:Nat→Prop)(e:Ex)(s:Value)(w:World)(h:aJ D w e.args s)(B:Nat)(hB:w.cell? ⟨B,0,none⟩=some (.int .i64 (m+1)))(hm:m≤1000):
  Calls Zb 121 #[exV e s,.pointer (some ⟨B,0,none⟩)] w fun r w'=>r= .returned (.bool (!deepOk m e))∧Below w.heap.size w w':=by
 have H:=Za h;clear h;have hBl:B<w.heap.size:=World.block_lt_of_cell? _ _ hB;go_enter Tryz.func121,Tryz.ntmps121
 go_wp2_with fail
 refine(ih D e s _ (H.out.old (bA))).mono ?_;rintro r w1 ⟨rfl,hb⟩;go_wp2_with fail
 go_ret
 exact⟨rfl,(bA).trans (hb.mono (by simp))⟩
theorem rt:∀m,m≤1000→yP m
 |0,_=>by
  intro D e s w _;go_enter Tryz.func61,Tryz.ntmps61
  go_wp2_with fail
  go_ret
  exact⟨rfl,(bA).alloc (by simp) _⟩
 |m+1,hm=>by
  intro D e s w h;have ih:=Za (rt m (by omega));have H:=Za h;clear h;have hm':(0:Int)<(m:Int)+1:=by omega
  go_enter Tryz.func61,Tryz.ntmps61
  go_wp2_with fail
  refine(iy 121 _ Tryz.call121 e.args s D _ (H.out.old ((bA).alloc (by simp) _)) (fun x=> !deepOk m x) ?_).mono ?_
  ·intro x s' w1 _ hb hx
   exact deep_fn m ih.out D x s' w1 hx _ (aE hb (by simp)) (by omega)
  ·rintro r w1 ⟨rfl,hb⟩
   go_wp2_with fail
   go_ret
   exact⟨aT (by simp [gU,List.any_eq_not_all_not]),((bA).alloc (by simp) _).trans (hb.mono (by simp;omega))⟩
end Go.Proofs.YtcfpfnoldgnloaaGreatDoor
