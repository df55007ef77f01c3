/-
  stmt: a statement. Conditions: the parser lies in memory; the contract of block.
-/
import Derived.Test.YtcfpfnoldgnloaaGreatDoorPb13
set_option linter.unusedVariables false
set_option linter.unusedSimpArgs false
namespace Go.Proofs.YtcfpfnoldgnloaaGreatDoor
open Go.RowKit Go.Proofs.Tryz
set_option maxHeartbeats 20000000
set_option maxRecDepth 100000
open Go.Lib renaming hid→Za
open SFr renaming of_below→Zb
open List renaming length_cons→Zc
open Ae renaming new→Zd
open Nat renaming le_refl→Ze,le_succ→Zk
open Go.Proofs.Tryz renaming prog→Zf,func204→Zg,ntmps204→Zh,results204→Zj
open Ax renaming zero→Zi
theorem dE {w W:World}{p tb:Nat}{l:List Tk}{k:Int}{nm:Bs}{xs:List Ex}{s:Value}(hp:p<w.heap.size)(HF:SFr p w W)(HP:Ps W p tb l)(HX:Ag (w.heap.size+1≤ ·) W xs s)(c0 c1 c2 c3 c4:Value):
  Gu (StH w.heap.size) w p tb (.ok (.mk k nm xs [] [],l)) (.returned (.agg #[.int .i64 k,.string (Aa nm),s,.slice none 0 0,.slice none 0 0])) (((((W.setCell ⟨w.heap.size,0,none⟩ c0).setCell ⟨w.heap.size,1,none⟩ c1).setCell ⟨w.heap.size,2,none⟩ c2).setCell ⟨w.heap.size,3,none⟩ c3).setCell ⟨w.heap.size,4,none⟩ c4):=
 ⟨vW HF (Ze _) _ _ _ _ _,_,rfl,ps5 HP hp _ _ _ _ _,_,_,_,rfl,(HX.keep (La W (by show ¬w.heap.size+1≤w.heap.size;omega) _ _ _ _ _)).mono (fun b hb=>by have:w.heap.size+1≤b:=hb;omega),Zi,Zi⟩
theorem dW {w W:World}{p tb:Nat}{l:List Tk}{k:Int}{nm:Bs}{x:Ex}{s:Value}(hp:p<w.heap.size)(HF:SFr p w W)(HP:Ps W p tb l)(HX:Ag (w.heap.size+1≤ ·) W x.args s)(hn:I64 x.n)(hlt:w.heap.size<W.heap.size)(c0 c1 c2 c3 c4:Value):
  Gu (StH w.heap.size) w p tb (.ok (.mk k nm [x] [] [],l)) (.returned (.agg #[.int .i64 k,.string (Aa nm),.slice (some ⟨W.heap.size,0,none⟩) 1 1,.slice none 0 0,.slice none 0 0])) ((((((W.setCell ⟨w.heap.size,0,none⟩ c0).setCell ⟨w.heap.size,1,none⟩ c1).setCell ⟨w.heap.size,2,none⟩ c2).setCell ⟨w.heap.size,3,none⟩ c3).setCell ⟨w.heap.size,4,none⟩ c4).alloc (.cells #[.int .i64 x.kind,.int .i64 x.op,.int .i64 x.n,.string (Aa x.name),s] 27)):=by
 have h1:=HX.keep (La W (show ¬w.heap.size+1≤w.heap.size by omega) c0 c1 c2 c3 c4);have h2:=kW h1 hn (by rw[Nd];omega);rw[Nd]at h2;exact⟨(vW HF (Ze _) c0 c1 c2 c3 c4).trans (Zb (bA)),_,rfl,(ps5 HP hp c0 c1 c2 c3 c4).alloc _,_,_,_,rfl,h2.mono (fun b hb=>by have:w.heap.size+1≤b:=hb;omega),Zi,Zi⟩
theorem kM(f:Nat)(t:Tk)(r:List Tk)(w:World)(p tb:Nat)(hl:4*(t::r).length≤f)(h:Ps w p tb (t::r))(y:isP [98,114,101,97,107] t=true):
  Calls Zf 204 #[.pointer (some ⟨p,0,none⟩)] w (Gu (StH w.heap.size) w p tb (Av f (t::r))):=by
 have HPW:=Za h.lt;have HNE:Hid (w.heap.size≠p):=by show _≠_;have:=h.lt;omega
 have hb0:Below w.heap.size w (w.alloc (.cells #[.int .i64 0,.string ⟨#[]⟩,.slice none 0 0,.slice none 0 0,.slice none 0 0] 60)):=bA;have HF0:Hid (SFr p w (w.alloc (.cells #[.int .i64 0,.string ⟨#[]⟩,.slice none 0 0,.slice none 0 0,.slice none 0 0] 60))):=Zb hb0;have HR0:=Za (Zd w [.int .i64 0,.string ⟨#[]⟩,.slice none 0 0,.slice none 0 0,.slice none 0 0] 60);have HP0:=Za (h.old hb0);clear hb0;obtain⟨R,hR⟩:∃R,Av f (t::r)=R:=⟨_,rfl⟩;rw[hR];have HRR:=Za hR;clear hR;have HY:=Za y;have HV:Hid (∀w1,Ps w1 p tb (t::r)→_):=fun w1 h1=>Bq p tb t r [98,114,101,97,107] w1 h1 y
 rw[Zc]at hl;clear hl y;clear h;go_enter Zg,Zh
 go_wp2_with fail
 refine(HV.o _ HP0.o).mono ?_;rintro e w1 ⟨rfl,hf,hp⟩;have HF1:=Za (HF0.o.trans hf);have HP1:=Za hp;have HR1:=Za (HR0.o.sfr hf HNE.o);clear hf hp;obtain⟨⟨x0,x1,x2,x3,x4⟩,xf0,xf1,xf2,xf3,xf4⟩:=Bu HR1.o;have xlt:=HR1.o.lt;go_wp2_with fail
 have e1:Av f (t::r)=.ok (.mk 5 [] [] [] [],r):=by unfold Av;rw[An HY.o]
 have e2:=HRR.o.symm.trans e1;subst e2;obtain⟨⟨d0,d1,d2,d3,d4⟩,_⟩:=Bu (Nv HR1.o (.int .i64 5) (.string ⟨#[]⟩) (.slice none 0 0) (.slice none 0 0) (.slice none 0 0));exact bodyPost_ret (v:=.agg #[.int .i64 5,.string ⟨#[]⟩,.slice none 0 0,.slice none 0 0,.slice none 0 0]) (by simp [results,Zj,go_sem,d0,d1,d2,d3,d4]) rfl (dE HPW.o HF1.o HP1.o Ag.zero _ _ _ _ _)
theorem iL(f:Nat)(t:Tk)(r:List Tk)(w:World)(p tb:Nat)(hl:4*(t::r).length≤f)(h:Ps w p tb (t::r))(n0:isP [98,114,101,97,107] t=false)(y:isP [99,111,110,116,105,110,117,101] t=true):
  Calls Zf 204 #[.pointer (some ⟨p,0,none⟩)] w (Gu (StH w.heap.size) w p tb (Av f (t::r))):=by
 have HPW:=Za h.lt;have HNE:Hid (w.heap.size≠p):=by show _≠_;have:=h.lt;omega
 have hb0:Below w.heap.size w (w.alloc (.cells #[.int .i64 0,.string ⟨#[]⟩,.slice none 0 0,.slice none 0 0,.slice none 0 0] 60)):=bA;have HF0:Hid (SFr p w (w.alloc (.cells #[.int .i64 0,.string ⟨#[]⟩,.slice none 0 0,.slice none 0 0,.slice none 0 0] 60))):=Zb hb0;have HR0:=Za (Zd w [.int .i64 0,.string ⟨#[]⟩,.slice none 0 0,.slice none 0 0,.slice none 0 0] 60);have HP0:=Za (h.old hb0);clear hb0;obtain⟨R,hR⟩:∃R,Av f (t::r)=R:=⟨_,rfl⟩;rw[hR];have HRR:=Za hR;clear hR;have HN0:=Za n0;have HT0:Hid (∀w1,Ps w1 p tb (t::r)→_):=fun w1 h1=>Aj p tb t r [98,114,101,97,107] w1 h1 n0
 have HY:=Za y;have HV:Hid (∀w1,Ps w1 p tb (t::r)→_):=fun w1 h1=>Bq p tb t r [99,111,110,116,105,110,117,101] w1 h1 y
 rw[Zc]at hl;clear hl n0 y;clear h;go_enter Zg,Zh
 go_wp2_with fail
 refine(HT0.o _ HP0.o).mono ?_;rintro e w1 ⟨rfl,hb⟩;have HF1:=Za (HF0.o.trans (Zb hb));have HP1:=Za (HP0.o.old hb);have HR1:=Za (HR0.o.old hb);clear hb;go_wp2_with fail
 refine(HV.o _ HP1.o).mono ?_;rintro e w2 ⟨rfl,hf,hp⟩;have HF2:=Za (HF1.o.trans hf);have HP2:=Za hp;have HR2:=Za (HR1.o.sfr hf HNE.o);clear hf hp;obtain⟨⟨x0,x1,x2,x3,x4⟩,xf0,xf1,xf2,xf3,xf4⟩:=Bu HR2.o;have xlt:=HR2.o.lt;go_wp2_with fail
 have e1:Av f (t::r)=.ok (.mk 6 [] [] [] [],r):=by unfold Av;rw[Af HN0.o];dsimp only;rw[An HY.o]
 have e2:=HRR.o.symm.trans e1;subst e2;obtain⟨⟨d0,d1,d2,d3,d4⟩,_⟩:=Bu (Nv HR2.o (.int .i64 6) (.string ⟨#[]⟩) (.slice none 0 0) (.slice none 0 0) (.slice none 0 0));exact bodyPost_ret (v:=.agg #[.int .i64 6,.string ⟨#[]⟩,.slice none 0 0,.slice none 0 0,.slice none 0 0]) (by simp [results,Zj,go_sem,d0,d1,d2,d3,d4]) rfl (dE HPW.o HF2.o HP2.o Ag.zero _ _ _ _ _)
theorem kX(f:Nat)(t:Tk)(r:List Tk)(w:World)(p tb:Nat)(hl:4*(t::r).length≤f)(h:Ps w p tb (t::r))(n0:isP [98,114,101,97,107] t=false)(n1:isP [99,111,110,116,105,110,117,101] t=false)(y:isP [114,101,116,117,114,110] t=true):
  Calls Zf 204 #[.pointer (some ⟨p,0,none⟩)] w (Gu (StH w.heap.size) w p tb (Av f (t::r))):=by
 have HPW:=Za h.lt;have HNE:Hid (w.heap.size≠p):=by show _≠_;have:=h.lt;omega
 have hb0:Below w.heap.size w (w.alloc (.cells #[.int .i64 0,.string ⟨#[]⟩,.slice none 0 0,.slice none 0 0,.slice none 0 0] 60)):=bA;have HF0:Hid (SFr p w (w.alloc (.cells #[.int .i64 0,.string ⟨#[]⟩,.slice none 0 0,.slice none 0 0,.slice none 0 0] 60))):=Zb hb0;have HR0:=Za (Zd w [.int .i64 0,.string ⟨#[]⟩,.slice none 0 0,.slice none 0 0,.slice none 0 0] 60);have HP0:=Za (h.old hb0);clear hb0;obtain⟨R,hR⟩:∃R,Av f (t::r)=R:=⟨_,rfl⟩;rw[hR];have HRR:=Za hR;clear hR;have HN0:=Za n0;have HT0:Hid (∀w1,Ps w1 p tb (t::r)→_):=fun w1 h1=>Aj p tb t r [98,114,101,97,107] w1 h1 n0
 have HN1:=Za n1;have HT1:Hid (∀w1,Ps w1 p tb (t::r)→_):=fun w1 h1=>Aj p tb t r [99,111,110,116,105,110,117,101] w1 h1 n1
 have HY:=Za y;have HV:Hid (∀w1,Ps w1 p tb (t::r)→_):=fun w1 h1=>Bq p tb t r [114,101,116,117,114,110] w1 h1 y
 rw[Zc]at hl;have hE:=(Ns f).2.1;have HC:Hid (∀w1,Ps w1 p tb r→_):=fun w1 h1=>hE r w1 p tb (by omega) h1
 clear hE;clear hl n0 n1 y;clear h;go_enter Zg,Zh
 go_wp2_with fail
 refine(HT0.o _ HP0.o).mono ?_;rintro e w1 ⟨rfl,hb⟩;have HF1:=Za (HF0.o.trans (Zb hb));have HP1:=Za (HP0.o.old hb);have HR1:=Za (HR0.o.old hb);clear hb;go_wp2_with fail
 refine(HT1.o _ HP1.o).mono ?_;rintro e w2 ⟨rfl,hb⟩;have HF2:=Za (HF1.o.trans (Zb hb));have HP2:=Za (HP1.o.old hb);have HR2:=Za (HR1.o.old hb);clear hb;go_wp2_with fail
 refine(HV.o _ HP2.o).mono ?_;rintro e w3 ⟨rfl,hf,hp⟩;have HF3:=Za (HF2.o.trans hf);have HP3:=Za hp;have HR3:=Za (HR2.o.sfr hf HNE.o);clear hf hp;go_wp2_with fail
 refine(HC.o _ HP3.o).mono ?_;intro e w4 he
 cases hA:Bf f 1 r with
 |error n=>
  rw[hA]at he;obtain⟨hf,rfl⟩:=he;have HF:=Za (HF3.o.trans hf);have e1:Av f (t::r)=.error n:=by unfold Av;rw[Af HN0.o];dsimp only;rw[Af HN1.o];dsimp only;rw[An HY.o];dsimp only;rw[hA]
  have e2:=HRR.o.symm.trans e1;subst e2;clear e1 hf;unfold Bk;go_wp2_with fail
  exact⟨rfl,HF.o,rfl⟩
 |ok q=>
  obtain⟨x,r2⟩:=q;rw[hA]at he;obtain⟨hf,v,rfl,hp,hv⟩:=he;obtain⟨s3,rfl,hx,hn⟩:=hv;obtain⟨a1,a2,rfl⟩:=hx.shape;have HX4:=Za (hx.up (show w.heap.size+1≤w3.heap.size from HR3.o.lt));have HN:=Za hn;clear hx hn;have HF4:=Za (HF3.o.trans hf);have HP4:=Za hp;have HR4:=Za (HR3.o.sfr hf HNE.o);clear hf hp;have HA4:=Za hA;clear hA;obtain⟨⟨x0,x1,x2,x3,x4⟩,xf0,xf1,xf2,xf3,xf4⟩:=Bu HR4.o;have xlt:=HR4.o.lt;go_wp2_with fail
  have e1:Av f (t::r)=.ok (.mk 7 [] [x] [] [],r2):=by unfold Av;rw[Af HN0.o];dsimp only;rw[Af HN1.o];dsimp only;rw[An HY.o];dsimp only;rw[HA4.o]
  have e2:=HRR.o.symm.trans e1;subst e2;obtain⟨⟨d0,d1,d2,d3,d4⟩,_⟩:=Bu ((Nv HR4.o (.int .i64 7) (.string ⟨#[]⟩) (.slice (some ⟨w4.heap.size,0,none⟩) 1 1) (.slice none 0 0) (.slice none 0 0)).alloc (.cells #[.int .i64 x.kind,.int .i64 x.op,.int .i64 x.n,.string (Aa x.name),.slice a1 x.args.length a2] 27));exact bodyPost_ret (v:=.agg #[.int .i64 7,.string ⟨#[]⟩,.slice (some ⟨w4.heap.size,0,none⟩) 1 1,.slice none 0 0,.slice none 0 0]) (by simp [results,Zj,go_sem,d0,d1,d2,d3,d4]) rfl (dW HPW.o HF4.o HP4.o HX4.o HN.o HR4.o.lt _ _ _ _ _)
theorem eJ(f:Nat)(t:Tk)(r:List Tk)(w:World)(p tb:Nat)(hl:4*(t::r).length≤f)(h:Ps w p tb (t::r))(n0:isP [98,114,101,97,107] t=false)(n1:isP [99,111,110,116,105,110,117,101] t=false)(n2:isP [114,101,116,117,114,110] t=false)(y:isP [112,114,105,110,116] t=true):
  Calls Zf 204 #[.pointer (some ⟨p,0,none⟩)] w (Gu (StH w.heap.size) w p tb (Av f (t::r))):=by
 have HPW:=Za h.lt;have HNE:Hid (w.heap.size≠p):=by show _≠_;have:=h.lt;omega
 have hb0:Below w.heap.size w (w.alloc (.cells #[.int .i64 0,.string ⟨#[]⟩,.slice none 0 0,.slice none 0 0,.slice none 0 0] 60)):=bA;have HF0:Hid (SFr p w (w.alloc (.cells #[.int .i64 0,.string ⟨#[]⟩,.slice none 0 0,.slice none 0 0,.slice none 0 0] 60))):=Zb hb0;have HR0:=Za (Zd w [.int .i64 0,.string ⟨#[]⟩,.slice none 0 0,.slice none 0 0,.slice none 0 0] 60);have HP0:=Za (h.old hb0);clear hb0;obtain⟨R,hR⟩:∃R,Av f (t::r)=R:=⟨_,rfl⟩;rw[hR];have HRR:=Za hR;clear hR;have HN0:=Za n0;have HT0:Hid (∀w1,Ps w1 p tb (t::r)→_):=fun w1 h1=>Aj p tb t r [98,114,101,97,107] w1 h1 n0
 have HN1:=Za n1;have HT1:Hid (∀w1,Ps w1 p tb (t::r)→_):=fun w1 h1=>Aj p tb t r [99,111,110,116,105,110,117,101] w1 h1 n1
 have HN2:=Za n2;have HT2:Hid (∀w1,Ps w1 p tb (t::r)→_):=fun w1 h1=>Aj p tb t r [114,101,116,117,114,110] w1 h1 n2
 have HY:=Za y;have HV:Hid (∀w1,Ps w1 p tb (t::r)→_):=fun w1 h1=>Bq p tb t r [112,114,105,110,116] w1 h1 y
 rw[Zc]at hl;have hE:=Py f;have HC:Hid (∀w1,Ps w1 p tb r→_):=fun w1 h1=>hE r w1 p tb (by omega) h1
 clear hE;clear hl n0 n1 n2 y;clear h;go_enter Zg,Zh
 go_wp2_with fail
 refine(HT0.o _ HP0.o).mono ?_;rintro e w1 ⟨rfl,hb⟩;have HF1:=Za (HF0.o.trans (Zb hb));have HP1:=Za (HP0.o.old hb);have HR1:=Za (HR0.o.old hb);clear hb;go_wp2_with fail
 refine(HT1.o _ HP1.o).mono ?_;rintro e w2 ⟨rfl,hb⟩;have HF2:=Za (HF1.o.trans (Zb hb));have HP2:=Za (HP1.o.old hb);have HR2:=Za (HR1.o.old hb);clear hb;go_wp2_with fail
 refine(HT2.o _ HP2.o).mono ?_;rintro e w3 ⟨rfl,hb⟩;have HF3:=Za (HF2.o.trans (Zb hb));have HP3:=Za (HP2.o.old hb);have HR3:=Za (HR2.o.old hb);clear hb;go_wp2_with fail
 refine(HV.o _ HP3.o).mono ?_;rintro e w4 ⟨rfl,hf,hp⟩;have HF4:=Za (HF3.o.trans hf);have HP4:=Za hp;have HR4:=Za (HR3.o.sfr hf HNE.o);clear hf hp;go_wp2_with fail
 refine(HC.o _ HP4.o).mono ?_;intro e w5 he
 cases hA:Cr f r with
 |error n=>
  rw[hA]at he;obtain⟨hf,rfl⟩:=he;have HF:=Za (HF4.o.trans hf);have e1:Av f (t::r)=.error n:=by unfold Av;rw[Af HN0.o];dsimp only;rw[Af HN1.o];dsimp only;rw[Af HN2.o];dsimp only;rw[An HY.o];dsimp only;rw[hA]
  have e2:=HRR.o.symm.trans e1;subst e2;clear e1 hf;unfold Bk;go_wp2_with fail
  exact⟨rfl,HF.o,rfl⟩
 |ok q=>
  obtain⟨x,r2⟩:=q;rw[hA]at he;obtain⟨hf,v,rfl,hp,hv⟩:=he;have hv:Ag (w4.heap.size≤ ·) w5 [x] v:=hv;obtain⟨a1,a2,rfl⟩:=hv.shape;have HX5:=Za (hv.up (show w.heap.size+1≤w4.heap.size from HR4.o.lt));clear hv;have HF5:=Za (HF4.o.trans hf);have HP5:=Za hp;have HR5:=Za (HR4.o.sfr hf HNE.o);clear hf hp;have HA5:=Za hA;clear hA;obtain⟨⟨x0,x1,x2,x3,x4⟩,xf0,xf1,xf2,xf3,xf4⟩:=Bu HR5.o;have xlt:=HR5.o.lt;go_wp2_with fail
  have e1:Av f (t::r)=.ok (.mk 8 [] [x] [] [],r2):=by unfold Av;rw[Af HN0.o];dsimp only;rw[Af HN1.o];dsimp only;rw[Af HN2.o];dsimp only;rw[An HY.o];dsimp only;rw[HA5.o]
  have e2:=HRR.o.symm.trans e1;subst e2;obtain⟨⟨d0,d1,d2,d3,d4⟩,_⟩:=Bu (Nv HR5.o (.int .i64 8) (.string ⟨#[]⟩) (.slice a1 1 a2) (.slice none 0 0) (.slice none 0 0));exact bodyPost_ret (v:=.agg #[.int .i64 8,.string ⟨#[]⟩,.slice a1 1 a2,.slice none 0 0,.slice none 0 0]) (by simp [results,Zj,go_sem,d0,d1,d2,d3,d4]) rfl (dE HPW.o HF5.o HP5.o HX5.o _ _ _ _ _)
theorem fY(f:Nat)(t:Tk)(r:List Tk)(w:World)(p tb:Nat)(hl:4*(t::r).length≤f)(h:Ps w p tb (t::r))(n0:isP [98,114,101,97,107] t=false)(n1:isP [99,111,110,116,105,110,117,101] t=false)(n2:isP [114,101,116,117,114,110] t=false)(n3:isP [112,114,105,110,116] t=false)(y:isP [116,114,97,112] t=true):
  Calls Zf 204 #[.pointer (some ⟨p,0,none⟩)] w (Gu (StH w.heap.size) w p tb (Av f (t::r))):=by
 have HPW:=Za h.lt;have HNE:Hid (w.heap.size≠p):=by show _≠_;have:=h.lt;omega
 have hb0:Below w.heap.size w (w.alloc (.cells #[.int .i64 0,.string ⟨#[]⟩,.slice none 0 0,.slice none 0 0,.slice none 0 0] 60)):=bA;have HF0:Hid (SFr p w (w.alloc (.cells #[.int .i64 0,.string ⟨#[]⟩,.slice none 0 0,.slice none 0 0,.slice none 0 0] 60))):=Zb hb0;have HR0:=Za (Zd w [.int .i64 0,.string ⟨#[]⟩,.slice none 0 0,.slice none 0 0,.slice none 0 0] 60);have HP0:=Za (h.old hb0);clear hb0;obtain⟨R,hR⟩:∃R,Av f (t::r)=R:=⟨_,rfl⟩;rw[hR];have HRR:=Za hR;clear hR;have HN0:=Za n0;have HT0:Hid (∀w1,Ps w1 p tb (t::r)→_):=fun w1 h1=>Aj p tb t r [98,114,101,97,107] w1 h1 n0
 have HN1:=Za n1;have HT1:Hid (∀w1,Ps w1 p tb (t::r)→_):=fun w1 h1=>Aj p tb t r [99,111,110,116,105,110,117,101] w1 h1 n1
 have HN2:=Za n2;have HT2:Hid (∀w1,Ps w1 p tb (t::r)→_):=fun w1 h1=>Aj p tb t r [114,101,116,117,114,110] w1 h1 n2
 have HN3:=Za n3;have HT3:Hid (∀w1,Ps w1 p tb (t::r)→_):=fun w1 h1=>Aj p tb t r [112,114,105,110,116] w1 h1 n3
 have HY:=Za y;have HV:Hid (∀w1,Ps w1 p tb (t::r)→_):=fun w1 h1=>Bq p tb t r [116,114,97,112] w1 h1 y
 rw[Zc]at hl;have hE:=Py f;have HC:Hid (∀w1,Ps w1 p tb r→_):=fun w1 h1=>hE r w1 p tb (by omega) h1
 clear hE;clear hl n0 n1 n2 n3 y;clear h;go_enter Zg,Zh
 go_wp2_with fail
 refine(HT0.o _ HP0.o).mono ?_;rintro e w1 ⟨rfl,hb⟩;have HF1:=Za (HF0.o.trans (Zb hb));have HP1:=Za (HP0.o.old hb);have HR1:=Za (HR0.o.old hb);clear hb;go_wp2_with fail
 refine(HT1.o _ HP1.o).mono ?_;rintro e w2 ⟨rfl,hb⟩;have HF2:=Za (HF1.o.trans (Zb hb));have HP2:=Za (HP1.o.old hb);have HR2:=Za (HR1.o.old hb);clear hb;go_wp2_with fail
 refine(HT2.o _ HP2.o).mono ?_;rintro e w3 ⟨rfl,hb⟩;have HF3:=Za (HF2.o.trans (Zb hb));have HP3:=Za (HP2.o.old hb);have HR3:=Za (HR2.o.old hb);clear hb;go_wp2_with fail
 refine(HT3.o _ HP3.o).mono ?_;rintro e w4 ⟨rfl,hb⟩;have HF4:=Za (HF3.o.trans (Zb hb));have HP4:=Za (HP3.o.old hb);have HR4:=Za (HR3.o.old hb);clear hb;go_wp2_with fail
 refine(HV.o _ HP4.o).mono ?_;rintro e w5 ⟨rfl,hf,hp⟩;have HF5:=Za (HF4.o.trans hf);have HP5:=Za hp;have HR5:=Za (HR4.o.sfr hf HNE.o);clear hf hp;go_wp2_with fail
 refine(HC.o _ HP5.o).mono ?_;intro e w6 he
 cases hA:Cr f r with
 |error n=>
  rw[hA]at he;obtain⟨hf,rfl⟩:=he;have HF:=Za (HF5.o.trans hf);have e1:Av f (t::r)=.error n:=by unfold Av;rw[Af HN0.o];dsimp only;rw[Af HN1.o];dsimp only;rw[Af HN2.o];dsimp only;rw[Af HN3.o];dsimp only;rw[An HY.o];dsimp only;rw[hA]
  have e2:=HRR.o.symm.trans e1;subst e2;clear e1 hf;unfold Bk;go_wp2_with fail
  exact⟨rfl,HF.o,rfl⟩
 |ok q=>
  obtain⟨x,r2⟩:=q;rw[hA]at he;obtain⟨hf,v,rfl,hp,hv⟩:=he;have hv:Ag (w5.heap.size≤ ·) w6 [x] v:=hv;obtain⟨a1,a2,rfl⟩:=hv.shape;have HX6:=Za (hv.up (show w.heap.size+1≤w5.heap.size from HR5.o.lt));clear hv;have HF6:=Za (HF5.o.trans hf);have HP6:=Za hp;have HR6:=Za (HR5.o.sfr hf HNE.o);clear hf hp;have HA6:=Za hA;clear hA;obtain⟨⟨x0,x1,x2,x3,x4⟩,xf0,xf1,xf2,xf3,xf4⟩:=Bu HR6.o;have xlt:=HR6.o.lt;go_wp2_with fail
  have e1:Av f (t::r)=.ok (.mk 9 [] [x] [] [],r2):=by unfold Av;rw[Af HN0.o];dsimp only;rw[Af HN1.o];dsimp only;rw[Af HN2.o];dsimp only;rw[Af HN3.o];dsimp only;rw[An HY.o];dsimp only;rw[HA6.o]
  have e2:=HRR.o.symm.trans e1;subst e2;obtain⟨⟨d0,d1,d2,d3,d4⟩,_⟩:=Bu (Nv HR6.o (.int .i64 9) (.string ⟨#[]⟩) (.slice a1 1 a2) (.slice none 0 0) (.slice none 0 0));exact bodyPost_ret (v:=.agg #[.int .i64 9,.string ⟨#[]⟩,.slice a1 1 a2,.slice none 0 0,.slice none 0 0]) (by simp [results,Zj,go_sem,d0,d1,d2,d3,d4]) rfl (dE HPW.o HF6.o HP6.o HX6.o _ _ _ _ _)
theorem Yz(f:Nat)(t:Tk)(r:List Tk)(w:World)(p tb:Nat)(hl:4*(t::r).length≤f)(h:Ps w p tb (t::r))(n0:isP [98,114,101,97,107] t=false)(n1:isP [99,111,110,116,105,110,117,101] t=false)(n2:isP [114,101,116,117,114,110] t=false)(n3:isP [112,114,105,110,116] t=false)(n4:isP [116,114,97,112] t=false)(n:Int)(hnm:Fa (t::r)=.error n):
  Calls Zf 204 #[.pointer (some ⟨p,0,none⟩)] w (Gu (StH w.heap.size) w p tb (Av f (t::r))):=by
 have HPW:=Za h.lt;have HNE:Hid (w.heap.size≠p):=by show _≠_;have:=h.lt;omega
 have hb0:Below w.heap.size w (w.alloc (.cells #[.int .i64 0,.string ⟨#[]⟩,.slice none 0 0,.slice none 0 0,.slice none 0 0] 60)):=bA;have HF0:Hid (SFr p w (w.alloc (.cells #[.int .i64 0,.string ⟨#[]⟩,.slice none 0 0,.slice none 0 0,.slice none 0 0] 60))):=Zb hb0;have HR0:=Za (Zd w [.int .i64 0,.string ⟨#[]⟩,.slice none 0 0,.slice none 0 0,.slice none 0 0] 60);have HP0:=Za (h.old hb0);clear hb0;obtain⟨R,hR⟩:∃R,Av f (t::r)=R:=⟨_,rfl⟩;rw[hR];have HRR:=Za hR;clear hR;have HN0:=Za n0;have HT0:Hid (∀w1,Ps w1 p tb (t::r)→_):=fun w1 h1=>Aj p tb t r [98,114,101,97,107] w1 h1 n0
 have HN1:=Za n1;have HT1:Hid (∀w1,Ps w1 p tb (t::r)→_):=fun w1 h1=>Aj p tb t r [99,111,110,116,105,110,117,101] w1 h1 n1
 have HN2:=Za n2;have HT2:Hid (∀w1,Ps w1 p tb (t::r)→_):=fun w1 h1=>Aj p tb t r [114,101,116,117,114,110] w1 h1 n2
 have HN3:=Za n3;have HT3:Hid (∀w1,Ps w1 p tb (t::r)→_):=fun w1 h1=>Aj p tb t r [112,114,105,110,116] w1 h1 n3
 have HN4:=Za n4;have HT4:Hid (∀w1,Ps w1 p tb (t::r)→_):=fun w1 h1=>Aj p tb t r [116,114,97,112] w1 h1 n4
 rw[Zc]at hl;have HNM:Hid (∀w1,Ps w1 p tb (t::r)→_):=fun w1 h1=>Gd p tb (t::r) w1 h1
 have HNE2:=Za hnm;clear hnm;clear hl n0 n1 n2 n3 n4;clear h;go_enter Zg,Zh
 go_wp2_with fail
 refine(HT0.o _ HP0.o).mono ?_;rintro e w1 ⟨rfl,hb⟩;have HF1:=Za (HF0.o.trans (Zb hb));have HP1:=Za (HP0.o.old hb);have HR1:=Za (HR0.o.old hb);clear hb;go_wp2_with fail
 refine(HT1.o _ HP1.o).mono ?_;rintro e w2 ⟨rfl,hb⟩;have HF2:=Za (HF1.o.trans (Zb hb));have HP2:=Za (HP1.o.old hb);have HR2:=Za (HR1.o.old hb);clear hb;go_wp2_with fail
 refine(HT2.o _ HP2.o).mono ?_;rintro e w3 ⟨rfl,hb⟩;have HF3:=Za (HF2.o.trans (Zb hb));have HP3:=Za (HP2.o.old hb);have HR3:=Za (HR2.o.old hb);clear hb;go_wp2_with fail
 refine(HT3.o _ HP3.o).mono ?_;rintro e w4 ⟨rfl,hb⟩;have HF4:=Za (HF3.o.trans (Zb hb));have HP4:=Za (HP3.o.old hb);have HR4:=Za (HR3.o.old hb);clear hb;go_wp2_with fail
 refine(HT4.o _ HP4.o).mono ?_;rintro e w5 ⟨rfl,hb⟩;have HF5:=Za (HF4.o.trans (Zb hb));have HP5:=Za (HP4.o.old hb);have HR5:=Za (HR4.o.old hb);clear hb;go_wp2_with fail
 refine(HNM.o _ HP5.o).mono ?_;intro e w6 he;rw[HNE2.o]at he;obtain⟨hf,rfl⟩:=he;have HF:=Za (HF5.o.trans hf);have e1:Av f (t::r)=.error n:=by unfold Av;rw[Af HN0.o];dsimp only;rw[Af HN1.o];dsimp only;rw[Af HN2.o];dsimp only;rw[Af HN3.o];dsimp only;rw[Af HN4.o];dsimp only;rw[HNE2.o]
 have e2:=HRR.o.symm.trans e1;subst e2;clear e1 hf;unfold Bk;go_wp2_with fail
 exact⟨rfl,HF.o,rfl⟩
theorem iG(f:Nat)(t:Tk)(r:List Tk)(w:World)(p tb:Nat)(hl:4*(t::r).length≤f)(h:Ps w p tb (t::r))(n0:isP [98,114,101,97,107] t=false)(n1:isP [99,111,110,116,105,110,117,101] t=false)(n2:isP [114,101,116,117,114,110] t=false)(n3:isP [112,114,105,110,116] t=false)(n4:isP [116,114,97,112] t=false)(s:Bs)(u:Tk)(q:List Tk)(hnm:Fa (t::r)=.ok (s,u::q))(yo:isP [40] u=true):
  Calls Zf 204 #[.pointer (some ⟨p,0,none⟩)] w (Gu (StH w.heap.size) w p tb (Av f (t::r))):=by
 have HPW:=Za h.lt;have HNE:Hid (w.heap.size≠p):=by show _≠_;have:=h.lt;omega
 have hb0:Below w.heap.size w (w.alloc (.cells #[.int .i64 0,.string ⟨#[]⟩,.slice none 0 0,.slice none 0 0,.slice none 0 0] 60)):=bA;have HF0:Hid (SFr p w (w.alloc (.cells #[.int .i64 0,.string ⟨#[]⟩,.slice none 0 0,.slice none 0 0,.slice none 0 0] 60))):=Zb hb0;have HR0:=Za (Zd w [.int .i64 0,.string ⟨#[]⟩,.slice none 0 0,.slice none 0 0,.slice none 0 0] 60);have HP0:=Za (h.old hb0);clear hb0;obtain⟨R,hR⟩:∃R,Av f (t::r)=R:=⟨_,rfl⟩;rw[hR];have HRR:=Za hR;clear hR;have HN0:=Za n0;have HT0:Hid (∀w1,Ps w1 p tb (t::r)→_):=fun w1 h1=>Aj p tb t r [98,114,101,97,107] w1 h1 n0
 have HN1:=Za n1;have HT1:Hid (∀w1,Ps w1 p tb (t::r)→_):=fun w1 h1=>Aj p tb t r [99,111,110,116,105,110,117,101] w1 h1 n1
 have HN2:=Za n2;have HT2:Hid (∀w1,Ps w1 p tb (t::r)→_):=fun w1 h1=>Aj p tb t r [114,101,116,117,114,110] w1 h1 n2
 have HN3:=Za n3;have HT3:Hid (∀w1,Ps w1 p tb (t::r)→_):=fun w1 h1=>Aj p tb t r [112,114,105,110,116] w1 h1 n3
 have HN4:=Za n4;have HT4:Hid (∀w1,Ps w1 p tb (t::r)→_):=fun w1 h1=>Aj p tb t r [116,114,97,112] w1 h1 n4
 rw[Zc]at hl;have HNM:Hid (∀w1,Ps w1 p tb (t::r)→_):=fun w1 h1=>Gd p tb (t::r) w1 h1
 have HNQ:=Za hnm;have hql:=Ih hnm;simp only[Zc]at hql;have HYO:=Za yo;have HTO:Hid (∀w1,Ps w1 p tb (u::q)→_):=fun w1 h1=>Bq p tb u q [40] w1 h1 yo
 have hA:=(Ns f).2.2.2.2;have HC:Hid (∀w1,Ps w1 p tb q→_):=fun w1 h1=>hA q w1 p tb (by omega) h1
 clear yo hA;clear hnm hql;clear hl n0 n1 n2 n3 n4;clear h;go_enter Zg,Zh
 go_wp2_with fail
 refine(HT0.o _ HP0.o).mono ?_;rintro e w1 ⟨rfl,hb⟩;have HF1:=Za (HF0.o.trans (Zb hb));have HP1:=Za (HP0.o.old hb);have HR1:=Za (HR0.o.old hb);clear hb;go_wp2_with fail
 refine(HT1.o _ HP1.o).mono ?_;rintro e w2 ⟨rfl,hb⟩;have HF2:=Za (HF1.o.trans (Zb hb));have HP2:=Za (HP1.o.old hb);have HR2:=Za (HR1.o.old hb);clear hb;go_wp2_with fail
 refine(HT2.o _ HP2.o).mono ?_;rintro e w3 ⟨rfl,hb⟩;have HF3:=Za (HF2.o.trans (Zb hb));have HP3:=Za (HP2.o.old hb);have HR3:=Za (HR2.o.old hb);clear hb;go_wp2_with fail
 refine(HT3.o _ HP3.o).mono ?_;rintro e w4 ⟨rfl,hb⟩;have HF4:=Za (HF3.o.trans (Zb hb));have HP4:=Za (HP3.o.old hb);have HR4:=Za (HR3.o.old hb);clear hb;go_wp2_with fail
 refine(HT4.o _ HP4.o).mono ?_;rintro e w5 ⟨rfl,hb⟩;have HF5:=Za (HF4.o.trans (Zb hb));have HP5:=Za (HP4.o.old hb);have HR5:=Za (HR4.o.old hb);clear hb;go_wp2_with fail
 refine(HNM.o _ HP5.o).mono ?_;intro e w6 he;rw[HNQ.o]at he;obtain⟨hf,v,rfl,hp,hv⟩:=he;have hv:v=.string (Aa s):=hv;subst hv;have HF6:=Za (HF5.o.trans hf);have HP6:=Za hp;have HR6:=Za (HR5.o.sfr hf HNE.o);clear hf hp;go_wp2_with fail
 refine(HTO.o _ HP6.o).mono ?_;rintro e w7 ⟨rfl,hf,hp⟩;have HF7:=Za (HF6.o.trans hf);have HP7:=Za hp;have HR7:=Za (HR6.o.sfr hf HNE.o);clear hf hp;go_wp2_with fail
 refine(HC.o _ HP7.o).mono ?_;intro e w8 he
 cases hA:Hg f q with
 |error n=>
  rw[hA]at he;obtain⟨hf,rfl⟩:=he;have HF:=Za (HF7.o.trans hf);have e1:Av f (t::r)=.error n:=by unfold Av;rw[Af HN0.o];dsimp only;rw[Af HN1.o];dsimp only;rw[Af HN2.o];dsimp only;rw[Af HN3.o];dsimp only;rw[Af HN4.o];dsimp only;rw[HNQ.o];dsimp only;rw[An HYO.o];dsimp only;rw[hA]
  have e2:=HRR.o.symm.trans e1;subst e2;clear e1 hf;unfold Bk;go_wp2_with fail
  exact⟨rfl,HF.o,rfl⟩
 |ok q=>
  obtain⟨xs,r2⟩:=q;rw[hA]at he;obtain⟨hf,v,rfl,hp,hv⟩:=he;have hv:Ag (w7.heap.size≤ ·) w8 xs v:=hv;obtain⟨a1,a2,rfl⟩:=hv.shape;have HX8:=Za (hv.up (show w.heap.size+1≤w7.heap.size from HR7.o.lt));clear hv;have HF8:=Za (HF7.o.trans hf);have HP8:=Za hp;have HR8:=Za (HR7.o.sfr hf HNE.o);clear hf hp;have HA8:=Za hA;clear hA;obtain⟨⟨x0,x1,x2,x3,x4⟩,xf0,xf1,xf2,xf3,xf4⟩:=Bu HR8.o;have xlt:=HR8.o.lt;go_wp2_with fail
  have e1:Av f (t::r)=.ok (.mk 10 [] [.mk 5 0 0 s xs] [] [],r2):=by unfold Av;rw[Af HN0.o];dsimp only;rw[Af HN1.o];dsimp only;rw[Af HN2.o];dsimp only;rw[Af HN3.o];dsimp only;rw[Af HN4.o];dsimp only;rw[HNQ.o];dsimp only;rw[An HYO.o];dsimp only;rw[HA8.o]
  have e2:=HRR.o.symm.trans e1;subst e2;obtain⟨⟨d0,d1,d2,d3,d4⟩,_⟩:=Bu ((Nv HR8.o (.int .i64 10) (.string ⟨#[]⟩) (.slice (some ⟨w8.heap.size,0,none⟩) 1 1) (.slice none 0 0) (.slice none 0 0)).alloc (.cells #[.int .i64 5,.int .i64 0,.int .i64 0,.string (Aa s),.slice a1 xs.length a2] 27));exact bodyPost_ret (v:=.agg #[.int .i64 10,.string ⟨#[]⟩,.slice (some ⟨w8.heap.size,0,none⟩) 1 1,.slice none 0 0,.slice none 0 0]) (by simp [results,Zj,go_sem,d0,d1,d2,d3,d4]) rfl (dW (x:=.mk 5 0 0 s xs) HPW.o HF8.o HP8.o HX8.o Gp HR8.o.lt _ _ _ _ _)
theorem lX(f:Nat)(t:Tk)(r:List Tk)(w:World)(p tb:Nat)(hl:4*(t::r).length≤f)(h:Ps w p tb (t::r))(n0:isP [98,114,101,97,107] t=false)(n1:isP [99,111,110,116,105,110,117,101] t=false)(n2:isP [114,101,116,117,114,110] t=false)(n3:isP [112,114,105,110,116] t=false)(n4:isP [116,114,97,112] t=false)(s:Bs)(u:Tk)(q:List Tk)(hnm:Fa (t::r)=.ok (s,u::q))(no:isP [40] u=false)(ni:isP [91] u=false):
  Calls Zf 204 #[.pointer (some ⟨p,0,none⟩)] w (Gu (StH w.heap.size) w p tb (Av f (t::r))):=by
 have HPW:=Za h.lt;have HNE:Hid (w.heap.size≠p):=by show _≠_;have:=h.lt;omega
 have hb0:Below w.heap.size w (w.alloc (.cells #[.int .i64 0,.string ⟨#[]⟩,.slice none 0 0,.slice none 0 0,.slice none 0 0] 60)):=bA;have HF0:Hid (SFr p w (w.alloc (.cells #[.int .i64 0,.string ⟨#[]⟩,.slice none 0 0,.slice none 0 0,.slice none 0 0] 60))):=Zb hb0;have HR0:=Za (Zd w [.int .i64 0,.string ⟨#[]⟩,.slice none 0 0,.slice none 0 0,.slice none 0 0] 60);have HP0:=Za (h.old hb0);clear hb0;obtain⟨R,hR⟩:∃R,Av f (t::r)=R:=⟨_,rfl⟩;rw[hR];have HRR:=Za hR;clear hR;have HN0:=Za n0;have HT0:Hid (∀w1,Ps w1 p tb (t::r)→_):=fun w1 h1=>Aj p tb t r [98,114,101,97,107] w1 h1 n0
 have HN1:=Za n1;have HT1:Hid (∀w1,Ps w1 p tb (t::r)→_):=fun w1 h1=>Aj p tb t r [99,111,110,116,105,110,117,101] w1 h1 n1
 have HN2:=Za n2;have HT2:Hid (∀w1,Ps w1 p tb (t::r)→_):=fun w1 h1=>Aj p tb t r [114,101,116,117,114,110] w1 h1 n2
 have HN3:=Za n3;have HT3:Hid (∀w1,Ps w1 p tb (t::r)→_):=fun w1 h1=>Aj p tb t r [112,114,105,110,116] w1 h1 n3
 have HN4:=Za n4;have HT4:Hid (∀w1,Ps w1 p tb (t::r)→_):=fun w1 h1=>Aj p tb t r [116,114,97,112] w1 h1 n4
 rw[Zc]at hl;have HNM:Hid (∀w1,Ps w1 p tb (t::r)→_):=fun w1 h1=>Gd p tb (t::r) w1 h1
 have HNQ:=Za hnm;have hql:=Ih hnm;simp only[Zc]at hql;have HNO:=Za no;have HNI:=Za ni;have HTO:Hid (∀w1,Ps w1 p tb (u::q)→_):=fun w1 h1=>Aj p tb u q [40] w1 h1 no
 have HTI:Hid (∀w1,Ps w1 p tb (u::q)→_):=fun w1 h1=>Aj p tb u q [91] w1 h1 ni
 have hE:=(Ns f).2.1;have HC:Hid (∀q2 w1,4*q2.length+2≤f→Ps w1 p tb q2→_):=fun q2 w1 h0 h1=>hE q2 w1 p tb h0 h1
 have HLQ:Hid (4*(u::q).length+4≤f):=by show _≤_;simp only[Zc];omega
 clear no ni hE;clear hnm hql;clear hl n0 n1 n2 n3 n4;clear h;go_enter Zg,Zh
 go_wp2_with fail
 refine(HT0.o _ HP0.o).mono ?_;rintro e w1 ⟨rfl,hb⟩;have HF1:=Za (HF0.o.trans (Zb hb));have HP1:=Za (HP0.o.old hb);have HR1:=Za (HR0.o.old hb);clear hb;go_wp2_with fail
 refine(HT1.o _ HP1.o).mono ?_;rintro e w2 ⟨rfl,hb⟩;have HF2:=Za (HF1.o.trans (Zb hb));have HP2:=Za (HP1.o.old hb);have HR2:=Za (HR1.o.old hb);clear hb;go_wp2_with fail
 refine(HT2.o _ HP2.o).mono ?_;rintro e w3 ⟨rfl,hb⟩;have HF3:=Za (HF2.o.trans (Zb hb));have HP3:=Za (HP2.o.old hb);have HR3:=Za (HR2.o.old hb);clear hb;go_wp2_with fail
 refine(HT3.o _ HP3.o).mono ?_;rintro e w4 ⟨rfl,hb⟩;have HF4:=Za (HF3.o.trans (Zb hb));have HP4:=Za (HP3.o.old hb);have HR4:=Za (HR3.o.old hb);clear hb;go_wp2_with fail
 refine(HT4.o _ HP4.o).mono ?_;rintro e w5 ⟨rfl,hb⟩;have HF5:=Za (HF4.o.trans (Zb hb));have HP5:=Za (HP4.o.old hb);have HR5:=Za (HR4.o.old hb);clear hb;go_wp2_with fail
 refine(HNM.o _ HP5.o).mono ?_;intro e w6 he;rw[HNQ.o]at he;obtain⟨hf,v,rfl,hp,hv⟩:=he;have hv:v=.string (Aa s):=hv;subst hv;have HF6:=Za (HF5.o.trans hf);have HP6:=Za hp;have HR6:=Za (HR5.o.sfr hf HNE.o);clear hf hp;go_wp2_with fail
 refine(HTO.o _ HP6.o).mono ?_;rintro e w7 ⟨rfl,hb⟩;have HF7:=Za (HF6.o.trans (Zb hb));have HP7:=Za (HP6.o.old hb);have HR7:=Za (HR6.o.old hb);clear hb;go_wp2_with fail
 refine(HTI.o _ HP7.o).mono ?_;rintro e w8 ⟨rfl,hb⟩;have HF8:=Za (HF7.o.trans (Zb hb));have HP8:=Za (HP7.o.old hb);have HR8:=Za (HR7.o.old hb);clear hb;go_upto_region 18 with(fail)
 have hba:Below w8.heap.size w8 (w8.alloc (.cells #[.string ⟨#[61]⟩] 9)):=bA;have HF9:=Za (HF8.o.trans (Zb hba));have HP9:=Za (HP8.o.old hba);have HR9:=Za (HR8.o.old hba);have HWN:=Za (De p tb (u::q) [61] _ HP9.o w8.heap.size 1 ((Zd w8 [.string ⟨#[61]⟩] 9).at 0 _ rfl));clear hba;go_wp2_with fail
 refine(HWN.o).mono ?_;intro e w10 he
 cases hA:As [61] (u::q)with
 |error n=>
  rw[hA]at he;obtain⟨hf,rfl⟩:=he;have HF:=Za (HF9.o.trans hf);have e1:Av f (t::r)=.error n:=by unfold Av;rw[Af HN0.o];dsimp only;rw[Af HN1.o];dsimp only;rw[Af HN2.o];dsimp only;rw[Af HN3.o];dsimp only;rw[Af HN4.o];dsimp only;rw[HNQ.o];dsimp only;rw[Af HNO.o];dsimp only;rw[Af HNI.o];dsimp only;rw[hA]
  have e2:=HRR.o.symm.trans e1;subst e2;clear e1 hf;unfold Bk;go_wp2_with fail
  exact⟨rfl,HF.o,rfl⟩
 |ok q2=>
  rw[hA]at he;obtain⟨hf,rfl,hp⟩:=he;have HF10:=Za (HF9.o.trans hf);have HP10:=Za hp;have HR10:=Za (HR9.o.sfr hf HNE.o);clear hf hp;have HA10:=Za hA;clear hA;clear HWN;have hlq:4*q2.length+2≤f:=by have h1:=Bm HA10.o;have h2:=HLQ.o;omega
  go_wp2_with fail
  refine(HC.o q2 _ hlq HP10.o).mono ?_;intro e w11 he
  cases hA:Bf f 1 q2 with
  |error n=>
   rw[hA]at he;obtain⟨hf,rfl⟩:=he;have HF:=Za (HF10.o.trans hf);have e1:Av f (t::r)=.error n:=by unfold Av;rw[Af HN0.o];dsimp only;rw[Af HN1.o];dsimp only;rw[Af HN2.o];dsimp only;rw[Af HN3.o];dsimp only;rw[Af HN4.o];dsimp only;rw[HNQ.o];dsimp only;rw[Af HNO.o];dsimp only;rw[Af HNI.o];dsimp only;rw[HA10.o];dsimp only;rw[hA]
   have e2:=HRR.o.symm.trans e1;subst e2;clear e1 hf;unfold Bk;go_wp2_with fail
   exact⟨rfl,HF.o,rfl⟩
  |ok q=>
   obtain⟨x,r2⟩:=q;rw[hA]at he;obtain⟨hf,v,rfl,hp,hv⟩:=he;obtain⟨s3,rfl,hx,hn⟩:=hv;obtain⟨a1,a2,rfl⟩:=hx.shape;have HX11:=Za (hx.up (show w.heap.size+1≤w10.heap.size from HR10.o.lt));have HN:=Za hn;clear hx hn;have HF11:=Za (HF10.o.trans hf);have HP11:=Za hp;have HR11:=Za (HR10.o.sfr hf HNE.o);clear hf hp;have HA11:=Za hA;clear hA;clear hlq;obtain⟨⟨x0,x1,x2,x3,x4⟩,xf0,xf1,xf2,xf3,xf4⟩:=Bu HR11.o;have xlt:=HR11.o.lt;go_wp2_with fail
   have e1:Av f (t::r)=.ok (.mk 1 s [x] [] [],r2):=by unfold Av;rw[Af HN0.o];dsimp only;rw[Af HN1.o];dsimp only;rw[Af HN2.o];dsimp only;rw[Af HN3.o];dsimp only;rw[Af HN4.o];dsimp only;rw[HNQ.o];dsimp only;rw[Af HNO.o];dsimp only;rw[Af HNI.o];dsimp only;rw[HA10.o];dsimp only;rw[HA11.o]
   have e2:=HRR.o.symm.trans e1;subst e2;obtain⟨⟨d0,d1,d2,d3,d4⟩,_⟩:=Bu ((Nv HR11.o (.int .i64 1) (.string (Aa s)) (.slice (some ⟨w11.heap.size,0,none⟩) 1 1) (.slice none 0 0) (.slice none 0 0)).alloc (.cells #[.int .i64 x.kind,.int .i64 x.op,.int .i64 x.n,.string (Aa x.name),.slice a1 x.args.length a2] 27));exact bodyPost_ret (v:=.agg #[.int .i64 1,.string (Aa s),.slice (some ⟨w11.heap.size,0,none⟩) 1 1,.slice none 0 0,.slice none 0 0]) (by simp [results,Zj,go_sem,d0,d1,d2,d3,d4]) rfl (dW HPW.o HF11.o HP11.o HX11.o HN.o HR11.o.lt _ _ _ _ _)
structure VY2 (p tb b0 be:Nat)(nm:Bs)(x y:Ex)(xa:Option Addr)(xc:Nat)(l r2:List Tk)(err:Option Int)(W:World)(L:Nat→Bool)(sa:Option Addr)(sc:Nat)(nb:Nat)(z51 z52 z53 z54 z55 z56:Value)(wx:World):Prop where
 ord:L 6=true→∀j,j<6→L j=true
 p4_3:L 4=true→L 3=true
 p5_4:L 5=true→L 4=true
 p6_4:L 6=true→L 4=true
 c0:L 0=true→z51=.string (Aa nm)
 c1:L 1=true→z52=exV x (.slice xa x.args.length xc)
 c2:L 2=true→z53=.pointer (some ⟨p,0,none⟩)
 c3:L 3=true→z54=exV y (.slice sa y.args.length sc)
 c4:L 4=true→z55=.slice (some ⟨nb,0,none⟩) 2 2
 c5:L 5=true→z56=.agg #[.int .i64 2,.string (Aa nm),.slice (some ⟨nb,0,none⟩) 2 2,.slice none 0 0,.slice none 0 0]
 fr:AFr p b0 W.heap.size W wx
 pa:L 3=false→Ps wx p tb l
 pb:L 3=true→Ps wx p tb r2
 e:Ae wx be [.int .i64 x.kind,.int .i64 x.op,.int .i64 x.n,.string (Aa x.name),.slice xa x.args.length xc] 27
 r0:L 6=false→Ae wx b0 [.int .i64 0,.string ⟨#[]⟩,.slice none 0 0,.slice none 0 0,.slice none 0 0] 60
 r1:L 6=true→Ae wx b0 [.int .i64 2,.string (Aa nm),.slice (some ⟨nb,0,none⟩) 2 2,.slice none 0 0,.slice none 0 0] 60
 xx:Ag (b0+1≤ ·) wx x.args (.slice xa x.args.length xc)
 ya:L 3=true→Ag (b0+1≤ ·) wx y.args (.slice sa y.args.length sc)
 yn:L 3=true→I64 y.n
 xy:L 4=true→Ag (b0+1≤ ·) wx [x,y] (.slice (some ⟨nb,0,none⟩) 2 2)
def IY2(p tb b0 be:Nat)(nm:Bs)(x y:Ex)(xa:Option Addr)(xc:Nat)(l r2:List Tk)(err:Option Int)(W:World)(q1 q5 q6 q7 q8 q9 q10 q11 q12 q13 q14 q15 q16 q17 q18 q19 q20 q21 q22 q23 q24 q25 q26 q27 q28 q29 q30 q31 q32 q33 q34 q35 q36 q37 q38 q39 q40 q41 q42 q43 q44 q45 q46 q47 q48 q49 q50 q57 q58 q59 q60 q61 q62 q63 q64:Value)(L:Nat→Bool)(a':Act)(w':World):Prop:=
 ∃sa:Option Addr,∃sc:Nat,∃nb:Nat,∃z51 z52 z53 z54 z55 z56:Value,VY2 p tb b0 be nm x y xa xc l r2 err W L sa sc nb z51 z52 z53 z54 z55 z56 w'∧a'=⟨[.pointer (some ⟨p,0,none⟩),q1,.pointer (some ⟨b0,0,none⟩),.string (Aa nm),.pointer (some ⟨be,0,none⟩),q5,q6,q7,q8,q9,q10,q11,q12,q13,q14,q15,q16,q17,q18,q19,q20,q21,q22,q23,q24,q25,q26,q27,q28,q29,q30,q31,q32,q33,q34,q35,q36,q37,q38,q39,q40,q41,q42,q43,q44,q45,q46,q47,q48,q49,q50,z51,z52,z53,z54,z55,z56,q57,q58,q59,q60,q61,q62,q63,q64].toArray,[]⟩
def RY2(p tb b0 be:Nat)(nm:Bs)(x y:Ex)(xa:Option Addr)(xc:Nat)(l r2:List Tk)(err:Option Int)(W:World)(q1 q5 q6 q7 q8 q9 q10 q11 q12 q13 q14 q15 q16 q17 q18 q19 q20 q21 q22 q23 q24 q25 q26 q27 q28 q29 q30 q31 q32 q33 q34 q35 q36 q37 q38 q39 q40 q41 q42 q43 q44 q45 q46 q47 q48 q49 q50 q57 q58 q59 q60 q61 q62 q63 q64:Value)(a':Act)(w':World):Prop:=
 ∃sa:Option Addr,∃sc:Nat,∃nb:Nat,(AFr p b0 W.heap.size W w'∧Ps w' p tb r2∧Ae w' b0 [.int .i64 2,.string (Aa nm),.slice (some ⟨nb,0,none⟩) 2 2,.slice none 0 0,.slice none 0 0] 60∧Ag (b0+1≤ ·) w' [x,y] (.slice (some ⟨nb,0,none⟩) 2 2))∧a'=⟨[.pointer (some ⟨p,0,none⟩),q1,.pointer (some ⟨b0,0,none⟩),.string (Aa nm),.pointer (some ⟨be,0,none⟩),q5,q6,q7,q8,q9,q10,q11,q12,q13,q14,q15,q16,q17,q18,q19,q20,q21,q22,q23,q24,q25,q26,q27,q28,q29,q30,q31,q32,q33,q34,q35,q36,q37,q38,q39,q40,q41,q42,q43,q44,q45,q46,q47,q48,q49,q50,.string (Aa nm),exV x (.slice xa x.args.length xc),.pointer (some ⟨p,0,none⟩),exV y (.slice sa y.args.length sc),.slice (some ⟨nb,0,none⟩) 2 2,.agg #[.int .i64 2,.string (Aa nm),.slice (some ⟨nb,0,none⟩) 2 2,.slice none 0 0,.slice none 0 0],q57,q58,q59,q60,q61,q62,q63,q64].toArray,[]⟩
theorem sP(p tb b0 be:Nat)(nm:Bs)(x y:Ex)(xa:Option Addr)(xc:Nat)(l r2:List Tk)(err:Option Int)(W:World)(hps:Ps W p tb l)(he:Ae W be [.int .i64 x.kind,.int .i64 x.op,.int .i64 x.n,.string (Aa x.name),.slice xa x.args.length xc] 27)(hr:Ae W b0 [.int .i64 0,.string ⟨#[]⟩,.slice none 0 0,.slice none 0 0,.slice none 0 0] 60)(hx:Ag (b0+1≤ ·) W x.args (.slice xa x.args.length xc))(hxn:I64 x.n)(hpb:p<b0)(hbe:b0<be)(HE:Hid (∀w1,Ps w1 p tb l→Calls Zf 27 #[.pointer (some ⟨p,0,none⟩)] w1 fun e w'=>match err with|some n=>e=Bk n∧SFr p w1 w'|none=> ∃s,e=.returned (exV y s)∧SFr p w1 w'∧Ps w' p tb r2∧Ag (w1.heap.size≤ ·) w' y.args s∧I64 y.n))(Q:Exit→Act→World→Prop)(hQ:∀n a' w',err=some n→a'.defers=[]→AFr p b0 W.heap.size W w'→Q (.panic [{v:=.iface 110 (.agg #[.int .i64 n]),recovered:=false}]) a' w')(q1 q5 q6 q7 q8 q9 q10 q11 q12 q13 q14 q15 q16 q17 q18 q19 q20 q21 q22 q23 q24 q25 q26 q27 q28 q29 q30 q31 q32 q33 q34 q35 q36 q37 q38 q39 q40 q41 q42 q43 q44 q45 q46 q47 q48 q49 q50 q51 q52 q53 q54 q55 q56 q57 q58 q59 q60 q61 q62 q63 q64:Value)(J K':Act→World→Prop)(hJ:∀a' w',RY2 p tb b0 be nm x y xa xc l r2 err W q1 q5 q6 q7 q8 q9 q10 q11 q12 q13 q14 q15 q16 q17 q18 q19 q20 q21 q22 q23 q24 q25 q26 q27 q28 q29 q30 q31 q32 q33 q34 q35 q36 q37 q38 q39 q40 q41 q42 q43 q44 q45 q46 q47 q48 q49 q50 q57 q58 q59 q60 q61 q62 q63 q64 a' w'→J a' w')(hM:∀a' w',Met J a' w'→K' a' w'):
  Code.wp Zf ((Tryz.f204.body.bind (Ld 17)).getD .skip) (Exit.then K' Q) ⟨[.pointer (some ⟨p,0,none⟩),q1,.pointer (some ⟨b0,0,none⟩),.string (Aa nm),.pointer (some ⟨be,0,none⟩),q5,q6,q7,q8,q9,q10,q11,q12,q13,q14,q15,q16,q17,q18,q19,q20,q21,q22,q23,q24,q25,q26,q27,q28,q29,q30,q31,q32,q33,q34,q35,q36,q37,q38,q39,q40,q41,q42,q43,q44,q45,q46,q47,q48,q49,q50,q51,q52,q53,q54,q55,q56,q57,q58,q59,q60,q61,q62,q63,q64].toArray,[]⟩ W:=by
 have HPS:=Za hps;have HEX:=Za he;have HRO:=Za hr;have HXX:=Za hx;have HXN:=Za hxn;have HQ:=Za hQ;have hew:be<W.heap.size:=he.lt;clear hps he hr hx hxn hQ
 conv=>arg 2;whnf
 (try dsimp only);refine Fp (by kernel_rfl) (by kernel_rfl) (IY2 p tb b0 be nm x y xa xc l r2 err W q1 q5 q6 q7 q8 q9 q10 q11 q12 q13 q14 q15 q16 q17 q18 q19 q20 q21 q22 q23 q24 q25 q26 q27 q28 q29 q30 q31 q32 q33 q34 q35 q36 q37 q38 q39 q40 q41 q42 q43 q44 q45 q46 q47 q48 q49 q50 q57 q58 q59 q60 q61 q62 q63 q64) ?_ ?_ ?_
 ·exact⟨none,0,0,q51,q52,q53,q54,q55,q56,⟨(fun h=>by cases h),(fun h=>by cases h),(fun h=>by cases h),(fun h=>by cases h),(fun h=>by cases h),(fun h=>by cases h),(fun h=>by cases h),(fun h=>by cases h),(fun h=>by cases h),(fun h=>by cases h),((AFr.refl p b0 W.heap.size W).old (Below.refl _ _).drew),(fun _=>HPS.o.old (Below.refl _ _).drew),(fun h=>by cases h),(HEX.o.old (Below.refl _ _).drew),(fun _=>HRO.o.old (Below.refl _ _).drew),(fun h=>by cases h),(HXX.o.old (Below.refl _ _).drew),(fun h=>by cases h),(fun h=>by cases h),(fun h=>by cases h)⟩,rfl⟩
 ·intro L act wx k hI hk hl hd
  obtain⟨sa,sc,nb,z51,z52,z53,z54,z55,z56,hV,rfl⟩:=hI;have hk:k=0∨k=1∨k=2∨k=3∨k=4∨k=5∨k=6:=by
   have:k<7:=hk;omega
  rcases hk with rfl|rfl|rfl|rfl|rfl|rfl|rfl
  ·have nl:=kf hV.ord hl
   refine Bc _ rfl rfl (fun K' hK=>?_)
   conv=>arg 2;whnf
   go_wp2_with fail
   exact⟨sa,sc,nb,.string (Aa nm),z52,z53,z54,z55,z56,⟨kl nl,kq hV.p4_3,kq hV.p5_4,kq hV.p6_4,(fun _=>rfl),kc hV.c1,kc hV.c2,kc hV.c3,kc hV.c4,kc hV.c5,hV.fr,(fun h0=>hV.pa (kb h0)),kc hV.pb,hV.e,(fun h0=>hV.r0 (kb h0)),kl nl,hV.xx,kc hV.ya,kc hV.yn,kc hV.xy⟩,rfl⟩
  ·have nl:=kf hV.ord hl
   have hx:=hV.e;have e0:=hx.at 0 _ rfl;have e1:=hx.at 1 _ rfl;have e2:=hx.at 2 _ rfl;have e3:=hx.at 3 _ rfl;have e4:=hx.at 4 _ rfl;refine Bc _ rfl rfl (fun K' hK=>?_)
   conv=>arg 2;whnf
   go_wp2_with fail
   exact⟨sa,sc,nb,z51,exV x (.slice xa x.args.length xc),z53,z54,z55,z56,⟨kl nl,kq hV.p4_3,kq hV.p5_4,kq hV.p6_4,kc hV.c0,(fun _=>rfl),kc hV.c2,kc hV.c3,kc hV.c4,kc hV.c5,hV.fr,(fun h0=>hV.pa (kb h0)),kc hV.pb,hV.e,(fun h0=>hV.r0 (kb h0)),kl nl,hV.xx,kc hV.ya,kc hV.yn,kc hV.xy⟩,rfl⟩
  ·have nl:=kf hV.ord hl
   refine Bc _ rfl rfl (fun K' hK=>?_)
   conv=>arg 2;whnf
   go_wp2_with fail
   exact⟨sa,sc,nb,z51,z52,.pointer (some ⟨p,0,none⟩),z54,z55,z56,⟨kl nl,kq hV.p4_3,kq hV.p5_4,kq hV.p6_4,kc hV.c0,kc hV.c1,(fun _=>rfl),kc hV.c3,kc hV.c4,kc hV.c5,hV.fr,(fun h0=>hV.pa (kb h0)),kc hV.pb,hV.e,(fun h0=>hV.r0 (kb h0)),kl nl,hV.xx,kc hV.ya,kc hV.yn,kc hV.xy⟩,rfl⟩
  ·have nl:=kf hV.ord hl
   have d2:L 2=true:=hd _ rfl ⟨2,.data⟩ (by simp) rfl;obtain rfl:=(hV.c2 d2).symm;have hps:=hV.pa hl;refine Bc _ rfl rfl (fun K' hK=>?_)
   conv=>arg 2;whnf
   have HPX:=Za hps;have HFX:=Za hV.fr;clear hps;go_wp2_with fail
   refine(HE.o _ HPX.o).mono ?_;intro e w7 he
   cases err with
   |some n=>
    obtain⟨rfl,hf⟩:=he;unfold Bk;have HF:=Za (HFX.o.trans (AFr.of_sfr hf));clear hf hK hV;go_wp2_with fail
    exact HQ.o n _ _ rfl rfl HF.o
   |none=>
   obtain⟨s1,rfl,hf7,hp7,hx7,hn7⟩:=he;obtain⟨a7,c7,rfl⟩:=hx7.shape;go_wp2_with fail
   exact⟨a7,c7,nb,z51,z52,.pointer (some ⟨p,0,none⟩),exV y (.slice (a7) y.args.length (c7)),z55,z56,⟨kl nl,(fun _=>Bb L 3),kq hV.p5_4,kq hV.p6_4,kc hV.c0,kc hV.c1,kc hV.c2,(fun _=>rfl),kc hV.c4,kc hV.c5,(hV.fr.trans (AFr.of_sfr hf7)),(ks),(fun _=>hp7),(hV.e.sfr hf7 (by omega)),(fun h=>(hV.r0 (kb h)).sfr hf7 (by omega)),kl nl,(hV.xx.keep (hf7.fresh (by omega))),(fun _=>hx7.mono (fun b hb=>by have h1:wx.heap.size≤b:=hb;have h2:=hV.fr.size;omega)),(fun _=>hn7),(kn hV.p4_3 hl)⟩,rfl⟩
  ·have nl:=kf hV.ord hl
   have d1:L 1=true:=hd _ rfl ⟨1,.data⟩ (by simp) rfl;obtain rfl:=(hV.c1 d1).symm;have d3:L 3=true:=hd _ rfl ⟨3,.data⟩ (by simp) rfl;obtain rfl:=(hV.c3 d3).symm;have hal:Below wx.heap.size wx (wx.alloc (.cells #[.int .i64 x.kind,.int .i64 x.op,.int .i64 x.n,.string (Aa x.name),.slice xa x.args.length xc,.int .i64 y.kind,.int .i64 y.op,.int .i64 y.n,.string (Aa y.name),.slice sa y.args.length sc] 27)):=bA;have hfs:=hV.fr.size;refine Bc _ rfl rfl (fun K' hK=>?_)
   conv=>arg 2;whnf
   go_wp2_with fail
   exact⟨sa,sc,wx.heap.size,z51,exV x (.slice xa x.args.length xc),z53,exV y (.slice sa y.args.length sc),.slice (some ⟨(wx.heap.size),0,none⟩) 2 2,z56,⟨kl nl,(kd (d3)),(fun _=>Bb L 4),(fun _=>Bb L 4),kc hV.c0,kc hV.c1,kc hV.c2,kc hV.c3,(fun _=>rfl),(kn hV.p5_4 hl),(AFr.old (hV.fr) hal),(fun h0=>Ps.old (hV.pa (kb h0)) hal),(fun h0=>Ps.old (hV.pb (kb h0)) hal),(Ae.old (hV.e) hal),(fun h0=>Ae.old (hV.r0 (kb h0)) hal),kl nl,(Ag.old hal (hV.xx)),(fun h0=>Ag.old hal (hV.ya (kb h0))),(fun h0=>(hV.yn (kb h0))),(fun _=>ex_box2 hV.xx HXN.o (hV.ya d3) (hV.yn d3) (by omega))⟩,rfl⟩
  ·have nl:=kf hV.ord hl
   have d0:L 0=true:=hd _ rfl ⟨0,.data⟩ (by simp) rfl;obtain rfl:=(hV.c0 d0).symm;have d4:L 4=true:=hd _ rfl ⟨4,.data⟩ (by simp) rfl;obtain rfl:=(hV.c4 d4).symm;refine Bc _ rfl rfl (fun K' hK=>?_)
   conv=>arg 2;whnf
   go_wp2_with fail
   exact⟨sa,sc,nb,.string (Aa nm),z52,z53,z54,.slice (some ⟨nb,0,none⟩) 2 2,.agg #[.int .i64 2,.string (Aa nm),.slice (some ⟨nb,0,none⟩) 2 2,.slice none 0 0,.slice none 0 0],⟨kl nl,kq hV.p4_3,(kd (d4)),kq hV.p6_4,kc hV.c0,kc hV.c1,kc hV.c2,kc hV.c3,kc hV.c4,(fun _=>rfl),hV.fr,(fun h0=>hV.pa (kb h0)),kc hV.pb,hV.e,(fun h0=>hV.r0 (kb h0)),kl nl,hV.xx,kc hV.ya,kc hV.yn,kc hV.xy⟩,rfl⟩
  ·have before:∀j,j<6→L j=true:=fun j hj=>by
    have hj:j=0∨j=1∨j=2∨j=3∨j=4∨j=5:=by omega
    rcases hj with rfl|rfl|rfl|rfl|rfl|rfl
    ·exact hd _ rfl ⟨0,.phase⟩ (by simp) rfl
    ·exact hd _ rfl ⟨1,.phase⟩ (by simp) rfl
    ·exact hd _ rfl ⟨2,.phase⟩ (by simp) rfl
    ·exact hd _ rfl ⟨3,.chain⟩ (by simp) rfl
    ·exact hd _ rfl ⟨4,.phase⟩ (by simp) rfl
    ·exact hd _ rfl ⟨5,.data⟩ (by simp) rfl
   have d3:L 3=true:=hd _ rfl ⟨3,.chain⟩ (by simp) rfl;have d5:L 5=true:=hd _ rfl ⟨5,.data⟩ (by simp) rfl;obtain rfl:=(hV.c5 d5).symm;have hr:=hV.r0 hl;have x0:=hr.at 0 _ rfl;have x1:=hr.at 1 _ rfl;have x2:=hr.at 2 _ rfl;have x3:=hr.at 3 _ rfl;have x4:=hr.at 4 _ rfl;have f0:=hr.fz 0;have f1:=hr.fz 1;have f2:=hr.fz 2;have f3:=hr.fz 3;have f4:=hr.fz 4;have hrl:=hr.lt;refine Bc _ rfl rfl (fun K' hK=>?_)
   conv=>arg 2;whnf
   go_wp2_with fail
   exact⟨sa,sc,nb,z51,z52,z53,z54,z55,.agg #[.int .i64 2,.string (Aa nm),.slice (some ⟨nb,0,none⟩) 2 2,.slice none 0 0,.slice none 0 0],⟨(fun _ j hj=>by rw[Ab L (show j≠6 by omega)];exact before j hj),kq hV.p4_3,kq hV.p5_4,(kd (before 4 (by decide))),kc hV.c0,kc hV.c1,kc hV.c2,kc hV.c3,kc hV.c4,kc hV.c5,(((((hV.fr.set _ _).set _ _).set _ _).set _ _).set _ _),(fun h=>by rw[Ab L (by decide)]at h;rw[d3]at h;cases h),(fun _=>ps5 (hV.pb d3) hpb _ _ _ _ _),(((((hV.e.other (by omega) _ _).other (by omega) _ _).other (by omega) _ _).other (by omega) _ _).other (by omega) _ _),(ks),(fun _=>Nv hr _ _ _ _ _),(hV.xx.keep (La _ (by show ¬b0+1≤b0;omega) _ _ _ _ _)),(fun _=>(hV.ya d3).keep (La _ (by show ¬b0+1≤b0;omega) _ _ _ _ _)),(fun _=>hV.yn d3),(fun _=>(hV.xy (before 4 (by decide))).keep (La _ (by show ¬b0+1≤b0;omega) _ _ _ _ _))⟩,rfl⟩
 ·intro L act wx hI hall
  obtain⟨sa,sc,nb,z51,z52,z53,z54,z55,z56,hV,rfl⟩:=hI;obtain rfl:=(hV.c0 (hall 0 (by decide))).symm;obtain rfl:=(hV.c1 (hall 1 (by decide))).symm;obtain rfl:=(hV.c2 (hall 2 (by decide))).symm;obtain rfl:=(hV.c3 (hall 3 (by decide))).symm;obtain rfl:=(hV.c4 (hall 4 (by decide))).symm;obtain rfl:=(hV.c5 (hall 5 (by decide))).symm;exact hM _ _ (Met.intro (hJ _ _ ⟨sa,sc,nb,⟨hV.fr,hV.pb (hall 3 (by decide)),hV.r1 (hall 6 (by decide)),hV.xy (hall 4 (by decide))⟩,rfl⟩))
theorem Vo {p ob base:Nat}{w W w':World}(h:SFr p w W)(k:AFr p ob base W w')(hb:w.heap.size≤base)(ho:w.heap.size≤ob):SFr p w w':=
 ⟨k.os.trans h.os,k.tape.trans h.tape,k.output.trans h.output,Nat.le_trans h.size k.size,fun i hi hp=>(k.block i (Nat.lt_of_lt_of_le hi h.size) (by omega) hp (by omega)).trans (h.block i hi hp)⟩
theorem eR(f:Nat)(t:Tk)(r:List Tk)(w:World)(p tb:Nat)(hl:4*(t::r).length≤f)(h:Ps w p tb (t::r))(n0:isP [98,114,101,97,107] t=false)(n1:isP [99,111,110,116,105,110,117,101] t=false)(n2:isP [114,101,116,117,114,110] t=false)(n3:isP [112,114,105,110,116] t=false)(n4:isP [116,114,97,112] t=false)(s:Bs)(u:Tk)(q:List Tk)(hnm:Fa (t::r)=.ok (s,u::q))(no:isP [40] u=false)(yi:isP [91] u=true):
  Calls Zf 204 #[.pointer (some ⟨p,0,none⟩)] w (Gu (StH w.heap.size) w p tb (Av f (t::r))):=by
 have HPW:=Za h.lt;have HNE:Hid (w.heap.size≠p):=by show _≠_;have:=h.lt;omega
 have hb0:Below w.heap.size w (w.alloc (.cells #[.int .i64 0,.string ⟨#[]⟩,.slice none 0 0,.slice none 0 0,.slice none 0 0] 60)):=bA;have HF0:Hid (SFr p w (w.alloc (.cells #[.int .i64 0,.string ⟨#[]⟩,.slice none 0 0,.slice none 0 0,.slice none 0 0] 60))):=Zb hb0;have HR0:=Za (Zd w [.int .i64 0,.string ⟨#[]⟩,.slice none 0 0,.slice none 0 0,.slice none 0 0] 60);have HP0:=Za (h.old hb0);clear hb0;obtain⟨R,hR⟩:∃R,Av f (t::r)=R:=⟨_,rfl⟩;rw[hR];have HRR:=Za hR;clear hR;have HN0:=Za n0;have HT0:Hid (∀w1,Ps w1 p tb (t::r)→_):=fun w1 h1=>Aj p tb t r [98,114,101,97,107] w1 h1 n0
 have HN1:=Za n1;have HT1:Hid (∀w1,Ps w1 p tb (t::r)→_):=fun w1 h1=>Aj p tb t r [99,111,110,116,105,110,117,101] w1 h1 n1
 have HN2:=Za n2;have HT2:Hid (∀w1,Ps w1 p tb (t::r)→_):=fun w1 h1=>Aj p tb t r [114,101,116,117,114,110] w1 h1 n2
 have HN3:=Za n3;have HT3:Hid (∀w1,Ps w1 p tb (t::r)→_):=fun w1 h1=>Aj p tb t r [112,114,105,110,116] w1 h1 n3
 have HN4:=Za n4;have HT4:Hid (∀w1,Ps w1 p tb (t::r)→_):=fun w1 h1=>Aj p tb t r [116,114,97,112] w1 h1 n4
 rw[Zc]at hl;have HNM:Hid (∀w1,Ps w1 p tb (t::r)→_):=fun w1 h1=>Gd p tb (t::r) w1 h1
 have HNQ:=Za hnm;have hql:=Ih hnm;simp only[Zc]at hql;have HNO:=Za no;have HYI:=Za yi;have HTO:Hid (∀w1,Ps w1 p tb (u::q)→_):=fun w1 h1=>Aj p tb u q [40] w1 h1 no
 have HTI:Hid (∀w1,Ps w1 p tb (u::q)→_):=fun w1 h1=>Bq p tb u q [91] w1 h1 yi
 have hE:=(Ns f).2.1;have HC:Hid (∀q2 w1,4*q2.length+2≤f→Ps w1 p tb q2→_):=fun q2 w1 h0 h1=>hE q2 w1 p tb h0 h1
 have HLQ:Hid (4*(u::q).length+4≤f):=by show _≤_;simp only[Zc];omega
 clear no yi hE;clear hnm hql;clear hl n0 n1 n2 n3 n4;clear h;go_enter Zg,Zh
 go_wp2_with fail
 refine(HT0.o _ HP0.o).mono ?_;rintro e w1 ⟨rfl,hb⟩;have HF1:=Za (HF0.o.trans (Zb hb));have HP1:=Za (HP0.o.old hb);have HR1:=Za (HR0.o.old hb);clear hb;go_wp2_with fail
 refine(HT1.o _ HP1.o).mono ?_;rintro e w2 ⟨rfl,hb⟩;have HF2:=Za (HF1.o.trans (Zb hb));have HP2:=Za (HP1.o.old hb);have HR2:=Za (HR1.o.old hb);clear hb;go_wp2_with fail
 refine(HT2.o _ HP2.o).mono ?_;rintro e w3 ⟨rfl,hb⟩;have HF3:=Za (HF2.o.trans (Zb hb));have HP3:=Za (HP2.o.old hb);have HR3:=Za (HR2.o.old hb);clear hb;go_wp2_with fail
 refine(HT3.o _ HP3.o).mono ?_;rintro e w4 ⟨rfl,hb⟩;have HF4:=Za (HF3.o.trans (Zb hb));have HP4:=Za (HP3.o.old hb);have HR4:=Za (HR3.o.old hb);clear hb;go_wp2_with fail
 refine(HT4.o _ HP4.o).mono ?_;rintro e w5 ⟨rfl,hb⟩;have HF5:=Za (HF4.o.trans (Zb hb));have HP5:=Za (HP4.o.old hb);have HR5:=Za (HR4.o.old hb);clear hb;go_wp2_with fail
 refine(HNM.o _ HP5.o).mono ?_;intro e w6 he;rw[HNQ.o]at he;obtain⟨hf,v,rfl,hp,hv⟩:=he;have hv:v=.string (Aa s):=hv;subst hv;have HF6:=Za (HF5.o.trans hf);have HP6:=Za hp;have HR6:=Za (HR5.o.sfr hf HNE.o);clear hf hp;go_wp2_with fail
 refine(HTO.o _ HP6.o).mono ?_;rintro e w7 ⟨rfl,hb⟩;have HF7:=Za (HF6.o.trans (Zb hb));have HP7:=Za (HP6.o.old hb);have HR7:=Za (HR6.o.old hb);clear hb;go_wp2_with fail
 refine(HTI.o _ HP7.o).mono ?_;rintro e w8 ⟨rfl,hf,hp⟩;have HF8:=Za (HF7.o.trans hf);have HP8:=Za hp;have HR8:=Za (HR7.o.sfr hf HNE.o);clear hf hp;have hlq:4*q.length+2≤f:=by have:=HLQ.o;simp only[Zc]at this;omega
 go_wp2_with fail
 refine(HC.o q _ hlq HP8.o).mono ?_;intro e w9 he
 cases hA:Bf f 1 q with
 |error n=>
  rw[hA]at he;obtain⟨hf,rfl⟩:=he;have HF:=Za (HF8.o.trans hf);have e1:Av f (t::r)=.error n:=by unfold Av;rw[Af HN0.o];dsimp only;rw[Af HN1.o];dsimp only;rw[Af HN2.o];dsimp only;rw[Af HN3.o];dsimp only;rw[Af HN4.o];dsimp only;rw[HNQ.o];dsimp only;rw[Af HNO.o];dsimp only;rw[An HYI.o];dsimp only;rw[hA]
  have e2:=HRR.o.symm.trans e1;subst e2;clear e1 hf;unfold Bk;go_wp2_with fail
  exact⟨rfl,HF.o,rfl⟩
 |ok q=>
  obtain⟨x,r1⟩:=q;rw[hA]at he;obtain⟨hf,v,rfl,hp,hv⟩:=he;obtain⟨s3,rfl,hx,hn⟩:=hv;obtain⟨a1,a2,rfl⟩:=hx.shape;have HX9:=Za (hx.up (show w.heap.size+1≤w8.heap.size from HR8.o.lt));have HN:=Za hn;clear hx hn;have HF9:=Za (HF8.o.trans hf);have HP9:=Za hp;have HR9:=Za (HR8.o.sfr hf HNE.o);clear hf hp;have HA9:=Za hA;clear hA;clear hlq;go_upto_region 16 with(fail)
  obtain⟨W,hW⟩:∃W,w9.alloc (.cells #[.int .i64 x.kind,.int .i64 x.op,.int .i64 x.n,.string (Aa x.name),.slice a1 x.args.length a2] 27)=W:=⟨_,rfl⟩;rw[hW];have hba:Below w9.heap.size w9 W:=hW ▸ bA;have HF10:=Za (HF9.o.trans (Zb hba));have HP10:=Za (HP9.o.old hba);have HR10:=Za (HR9.o.old hba);have HX10:=Za (HX9.o.old hba);have HE10:=Za (hW ▸ Zd w9 [.int .i64 x.kind,.int .i64 x.op,.int .i64 x.n,.string (Aa x.name),.slice a1 x.args.length a2] 27);have HEP:Hid (w9.heap.size≠p):=by show _≠_;have:=HP9.o.lt;omega
  clear hba hW;obtain⟨w10,hWW⟩:∃w10,w10=W:=⟨_,rfl⟩;subst hWW;have hba:Below w10.heap.size w10 (w10.alloc (.cells #[.string ⟨#[93]⟩,.string ⟨#[61]⟩] 9)):=bA;have hwp:w10.heap.size≠p:=by have:=HP10.o.lt;omega
  have HF11:=Za (HF10.o.trans (Zb hba));have HP11:=Za (HP10.o.old hba);have HR11:=Za (HR10.o.old hba);have HE11:=Za (HE10.o.old hba);have HX11:=Za (HX10.o.old hba);have HWN:=Za (Rb p tb r1 [93] [61] _ HP11.o w10.heap.size 2 ((Zd w10 [.string ⟨#[93]⟩,.string ⟨#[61]⟩] 9).at 0 _ rfl) ((Zd w10 [.string ⟨#[93]⟩,.string ⟨#[61]⟩] 9).at 1 _ rfl) hwp);clear hba hwp;go_wp2_with fail
  refine(HWN.o).mono ?_;intro e w12 he
  cases hA:Ie [93] [61] r1 with
  |error n=>
   rw[hA]at he;obtain⟨hf,rfl⟩:=he;have HF:=Za (HF11.o.trans hf);have e1:Av f (t::r)=.error n:=by unfold Av;rw[Af HN0.o];dsimp only;rw[Af HN1.o];dsimp only;rw[Af HN2.o];dsimp only;rw[Af HN3.o];dsimp only;rw[Af HN4.o];dsimp only;rw[HNQ.o];dsimp only;rw[Af HNO.o];dsimp only;rw[An HYI.o];dsimp only;rw[HA9.o];dsimp only;unfold Ie at hA;cases hB:As [93] r1 with
    |error n=>rw[hB]at hA;injection hA with hA;subst hA;rfl
    |ok z=>rw[hB]at hA;dsimp only at hA ⊢;rw[hA]
   have e2:=HRR.o.symm.trans e1;subst e2;clear e1 hf;unfold Bk;go_wp2_with fail
   exact⟨rfl,HF.o,rfl⟩
  |ok q2=>
   rw[hA]at he;obtain⟨hf,rfl,hp⟩:=he;have HF12:=Za (HF11.o.trans hf);have HP12:=Za hp;have HR12:=Za (HR11.o.sfr hf HNE.o);have HE12:=Za (HE11.o.sfr hf HEP.o);have HX12:=Za (HX11.o.keep (hf.fresh (by have:=HPW.o;omega)));clear hf hp;have HA12:=Za hA;clear hA;clear HWN;go_upto_region 17 with(fail)
   have hlq:4*q2.length+2≤f:=by
    have h1:=(Fd f).1 _ _ _ _ HA9.o;have h2:=HLQ.o;have h3:=HA12.o;unfold Ie at h3
    cases hB:As [93] r1 with
    |error n=>rw[hB]at h3;cases h3
    |ok z=>
     rw[hB]at h3;have h4:=Bm hB;have h5:=Bm h3;simp only[Zc]at h2;omega
   have hw2:∃z,As [93] r1=.ok z∧As [61] z=.ok q2:=by
    have h3:=HA12.o;unfold Ie at h3
    cases hB:As [93] r1 with
    |error n=>rw[hB]at h3;cases h3
    |ok z=>rw[hB]at h3;exact⟨z,rfl,h3⟩
   obtain⟨z,hw1,hw2⟩:=hw2;have hbe:w.heap.size<w9.heap.size:=HR9.o.lt;have hcq:=fun w1 h1=>HC.o q2 w1 hlq h1
   cases hy:Bf f 1 q2 with
   |error n=>
    have e1:Av f (t::r)=.error n:=by unfold Av;rw[Af HN0.o];dsimp only;rw[Af HN1.o];dsimp only;rw[Af HN2.o];dsimp only;rw[Af HN3.o];dsimp only;rw[Af HN4.o];dsimp only;rw[HNQ.o];dsimp only;rw[Af HNO.o];dsimp only;rw[An HYI.o];dsimp only;rw[HA9.o];dsimp only;rw[hw1];dsimp only;rw[hw2];dsimp only;rw[hy]
    have e2:=HRR.o.symm.trans e1;subst e2;clear e1;have hreg:∀(K:Act→World→Prop) (Q:Exit→Act→World→Prop),True:=fun _ _=>trivial
    refine wp_mono (Q:=Exit.then (Met (RY2 p tb w.heap.size w9.heap.size s x x a1 a2 q2 [] (some n) w12 _ _ _ _ _ _ _ _ _ _ _ _ _ _ _ _ _ _ _ _ _ _ _ _ _ _ _ _ _ _ _ _ _ _ _ _ _ _ _ _ _ _ _ _ _ _ _ _ _ _ _ _ _ _ _)) _) (sP p tb w.heap.size w9.heap.size s x x a1 a2 q2 [] (some n) w12 HP12.o HE12.o HR12.o HX12.o HN.o HPW.o hbe (fun w1 h1=>by have h2:=hcq w1 h1;rw[hy]at h2;exact h2.mono (fun e w2 h=>⟨h.2,h.1⟩)) (fun e a' w'=> ∃n',e=.panic [{v:=.iface 110 (.agg #[.int .i64 n']),recovered:=false}]∧n=n'∧a'.defers=[]∧AFr p w.heap.size w12.heap.size w12 w') (fun n' a' w' hn hd hf=>by injection hn with hn;exact⟨n',rfl,hn,hd,hf⟩) _ _ _ _ _ _ _ _ _ _ _ _ _ _ _ _ _ _ _ _ _ _ _ _ _ _ _ _ _ _ _ _ _ _ _ _ _ _ _ _ _ _ _ _ _ _ _ _ _ _ _ _ _ _ _ _ _ _ _ _ _ _ _ (fun _ _ q=>q) (fun _ _ q=>q)) ?_;intro e a' w' hq
    cases e with
    |normal=>
     obtain⟨sa,sc,nb,⟨_,hp,_⟩,_⟩:=(show RY2 p tb w.heap.size w9.heap.size s x x a1 a2 q2 [] (some n) w12 _ _ _ _ _ _ _ _ _ _ _ _ _ _ _ _ _ _ _ _ _ _ _ _ _ _ _ _ _ _ _ _ _ _ _ _ _ _ _ _ _ _ _ _ _ _ _ _ _ _ _ _ _ _ _ a' w' from hq);exact hp.ends.elim
    |panic ch=>
     obtain⟨n2,he,rfl,hd,hf⟩:=hq;injection he with he
     subst he;exact⟨hd,Vo HF12.o hf (by have:=HR12.o.lt;omega) (Ze _),rfl⟩
    |_=>
     obtain⟨n2,he,_⟩:=hq
     cases he
   |ok qy=>
    obtain⟨y,r2⟩:=qy;have e1:Av f (t::r)=.ok (.mk 2 s [x,y] [] [],r2):=by unfold Av;rw[Af HN0.o];dsimp only;rw[Af HN1.o];dsimp only;rw[Af HN2.o];dsimp only;rw[Af HN3.o];dsimp only;rw[Af HN4.o];dsimp only;rw[HNQ.o];dsimp only;rw[Af HNO.o];dsimp only;rw[An HYI.o];dsimp only;rw[HA9.o];dsimp only;rw[hw1];dsimp only;rw[hw2];dsimp only;rw[hy]
    have e2:=HRR.o.symm.trans e1;subst e2;clear e1;refine wp_cut (fun a' w'=>RY2 p tb w.heap.size w9.heap.size s x y a1 a2 q2 r2 none w12 _ _ _ _ _ _ _ _ _ _ _ _ _ _ _ _ _ _ _ _ _ _ _ _ _ _ _ _ _ _ _ _ _ _ _ _ _ _ _ _ _ _ _ _ _ _ _ _ _ _ _ _ _ _ _ a' w') ?rest (fun J K' hJ hM=>sP p tb w.heap.size w9.heap.size s x y a1 a2 q2 r2 none w12 HP12.o HE12.o HR12.o HX12.o HN.o HPW.o hbe (fun w1 h1=>by have h2:=hcq w1 h1;rw[hy]at h2;exact h2.mono (fun e w2 h=>by obtain⟨hf,v,rfl,hp,s4,rfl,hs,hm⟩:=h;exact⟨s4,rfl,hf,hp,hs,hm⟩)) _ (fun n a1 w1 hn=>by cases hn) _ _ _ _ _ _ _ _ _ _ _ _ _ _ _ _ _ _ _ _ _ _ _ _ _ _ _ _ _ _ _ _ _ _ _ _ _ _ _ _ _ _ _ _ _ _ _ _ _ _ _ _ _ _ _ _ _ _ _ _ _ J K' hJ hM)
    case rest=>
     rintro a' w' ⟨sa,sc,nb,⟨hfr,hp,hr,hxy⟩,rfl⟩;have HSF:=Za (Vo HF12.o hfr (by have:=HR12.o.lt;omega) (Ze _));have HPP:=Za hp;have HXY:=Za hxy;obtain⟨⟨d0,d1,d2,d3,d4⟩,_⟩:=Bu hr;clear hfr hp hr hxy hlq hw1 hw2 hcq hy;go_wp2_with fail
     exact bodyPost_ret (v:=.agg #[.int .i64 2,.string (Aa s),.slice (some ⟨nb,0,none⟩) 2 2,.slice none 0 0,.slice none 0 0]) (by simp [results,Zj,go_sem,d0,d1,d2,d3,d4]) rfl ⟨HSF.o,_,rfl,HPP.o,_,_,_,rfl,HXY.o.up (by omega),Zi,Zi⟩
theorem oW(f:Nat):SimpleC f:=by
 intro l w p tb hl h;obtain⟨t,r,rfl⟩:=h.ends.ne
 cases h0:isP [98,114,101,97,107] t with
 |true=>exact kM f t r w p tb hl h h0
 |false=>
  cases h1:isP [99,111,110,116,105,110,117,101] t with
  |true=>exact iL f t r w p tb hl h h0 h1
  |false=>
   cases h2:isP [114,101,116,117,114,110] t with
   |true=>exact kX f t r w p tb hl h h0 h1 h2
   |false=>
    cases h3:isP [112,114,105,110,116] t with
    |true=>exact eJ f t r w p tb hl h h0 h1 h2 h3
    |false=>
     cases h4:isP [116,114,97,112] t with
     |true=>exact fY f t r w p tb hl h h0 h1 h2 h3 h4
     |false=>
      cases hnm:Fa (t::r)with
      |error n=>exact Yz f t r w p tb hl h h0 h1 h2 h3 h4 n hnm
      |ok q=>
       obtain⟨s,q⟩:=q;have hq:Kl q:=by
        have h5:=gY t r;rw[hnm]at h5
        by_cases hk:t.kind=1
        ·rw[if_pos hk]at h5
         injection h5 with h5
         injection h5 with _ h5
         rw[h5];exact h.ends.tail (by rw[hk];decide)
        ·rw[if_neg hk]at h5;cases h5
       obtain⟨u,q,rfl⟩:=hq.ne
       cases h5:isP [40] u with
       |true=>exact iG f t r w p tb hl h h0 h1 h2 h3 h4 s u q hnm h5
       |false=>
        cases h6:isP [91] u with
        |true=>exact eR f t r w p tb hl h h0 h1 h2 h3 h4 s u q hnm h5 h6
        |false=>exact lX f t r w p tb hl h h0 h1 h2 h3 h4 s u q hnm h5 h6
theorem lG {w V:World}{p tb:Nat}{l:List Tk}{k:Int}{nm:Bs}{xs:List Ex}{ts es:List St}{a t e:Value}(HF:SFr p w V)(HP:Ps V p tb l)(HA:Ag (w.heap.size+1≤ ·) V xs a)(HT:Ax (w.heap.size+1≤ ·) V ts t)(HE:Ax (w.heap.size+1≤ ·) V es e):
  Gu (StH w.heap.size) w p tb (.ok (.mk k nm xs ts es,l)) (.returned (.agg #[.int .i64 k,.string (Aa nm),a,t,e])) V:=
 ⟨HF,_,rfl,HP,_,_,_,rfl,HA.up (Zk _),HT.up (Zk _),HE.up (Zk _)⟩
theorem Pk {f:Nat}{t:Tk}{r:List Tk}(y:isP [105,102] t=true):Dl (f+1) (t::r)=match Cr f r with
  |.error e=>.error e
  |.ok (x,r)=>match Eo f r with
   |.error e=>.error e
   |.ok (a,r)=>match Bp [101,108,115,101] r with
    |none=>.ok (.mk 3 [] [x] a [],r)
    |some r=>match Eo f r with
     |.error e=>.error e
     |.ok (b,r)=>.ok (.mk 3 [] [x] a b,r):=by
 rw[Dl,An y];dsimp only
 cases Cr f r with
 |error e=>rfl
 |ok q=>
  obtain⟨x,q⟩:=q;dsimp only;unfold Eo
  cases As [123] q with
  |error e=>rfl
  |ok q=>
   dsimp only
   cases Dr f [] q with
   |error e=>rfl
   |ok q=>
    obtain⟨a,q⟩:=q;dsimp only
    cases Bp [101,108,115,101] q with
    |none=>rfl
    |some q=>
     dsimp only
     cases As [123] q with
     |error e=>rfl
     |ok q=>
      dsimp only
      cases Dr f [] q with
      |error e=>rfl
      |ok q=>rfl
theorem Ni {f:Nat}{t:Tk}{r:List Tk}(n:isP [105,102] t=false)(y:isP [119,104,105,108,101] t=true):Dl (f+1) (t::r)=match Cr f r with
  |.error e=>.error e
  |.ok (x,r)=>match Eo f r with
   |.error e=>.error e
   |.ok (a,r)=>.ok (.mk 4 [] [x] a [],r):=by
 rw[Dl,Af n];dsimp only;rw[An y];dsimp only
 cases Cr f r with
 |error e=>rfl
 |ok q=>
  obtain⟨x,q⟩:=q;dsimp only;unfold Eo
  cases As [123] q with
  |error e=>rfl
  |ok q=>
   dsimp only
   cases Dr f [] q with
   |error e=>rfl
   |ok q=>rfl
theorem Ma {f:Nat}{t:Tk}{r:List Tk}(n:isP [105,102] t=false)(n2:isP [119,104,105,108,101] t=false):Dl (f+1) (t::r)=match Av f (t::r)with
  |.error e=>.error e
  |.ok (x,r)=>match As [59] r with
   |.error e=>.error e
   |.ok r=>.ok (x,r):=by
 rw[Dl,Af n];dsimp only;rw[Af n2];rfl
theorem st_finx {w V:World}{p tb:Nat}{l:List Tk}{x:St}{a t e:Value}(HF:SFr p w V)(HP:Ps V p tb l)(HA:Ag (w.heap.size+1≤ ·) V x.args a)(HT:Ax (w.heap.size+1≤ ·) V x.thn t)(HE:Ax (w.heap.size+1≤ ·) V x.els e):
  Gu (StH w.heap.size) w p tb (.ok (x,l)) (.returned (.agg #[.int .i64 x.kind,.string (Aa x.name),a,t,e])) V:=
 ⟨HF,_,rfl,HP,_,_,_,rfl,HA.up (Zk _),HT.up (Zk _),HE.up (Zk _)⟩
theorem Ic {f:Nat}{l r:List Tk}{x:Ex}(h:Cr f l=.ok (x,r)):r.length<l.length:=by
 unfold Cr at h
 cases h1:As [40] l with
 |error e=>rw[h1]at h;cases h
 |ok q=>
  rw[h1]at h;dsimp only at h
  cases h2:Bf f 1 q with
  |error e=>rw[h2]at h;cases h
  |ok z=>
   obtain⟨y,z⟩:=z;rw[h2]at h;dsimp only at h
   cases h3:As [41] z with
   |error e=>rw[h3]at h;cases h
   |ok u=>
    rw[h3]at h;injection h with h;injection h with _ h;subst h
    have:=Bm h1;have:=(Fd f).1 _ _ _ _ h2;have:=Bm h3;omega
theorem qN(f:Nat)(hB:Tq f)(hBL:∀l x r,Eo f l=.ok (x,r)→r.length<l.length)(t:Tk)(r:List Tk)(w:World)(p tb:Nat)(hl:4*(t::r).length≤f)(h:Ps w p tb (t::r))(y:isP [105,102] t=true):
  Calls Zf 165 #[.pointer (some ⟨p,0,none⟩)] w (Gu (StH w.heap.size) w p tb (Dl (f+1) (t::r))):=by
 have HPW:=Za h.lt;have HNE:Hid (w.heap.size≠p):=by show _≠_;have:=h.lt;omega
 have hb0:Below w.heap.size w (w.alloc (.cells #[.int .i64 0,.string ⟨#[]⟩,.slice none 0 0,.slice none 0 0,.slice none 0 0] 60)):=bA;have HF0:Hid (SFr p w (w.alloc (.cells #[.int .i64 0,.string ⟨#[]⟩,.slice none 0 0,.slice none 0 0,.slice none 0 0] 60))):=Zb hb0;have HR0:=Za (Zd w [.int .i64 0,.string ⟨#[]⟩,.slice none 0 0,.slice none 0 0,.slice none 0 0] 60);have HP0:=Za (h.old hb0);clear hb0;obtain⟨R,hR⟩:∃R,Dl (f+1) (t::r)=R:=⟨_,rfl⟩;rw[hR];have HRR:=Za hR;clear hR;have HY:=Za y;have HV:Hid (∀w1,Ps w1 p tb (t::r)→_):=fun w1 h1=>Bq p tb t r [105,102] w1 h1 y
 rw[Zc]at hl;have hI:=Py f;have HC:Hid (∀w1,Ps w1 p tb r→_):=fun w1 h1=>hI r w1 p tb (by omega) h1
 have HL:=Za hl;have HB:=Za hB;have HBL:=Za hBL;clear hl hI y hB hBL;clear h;go_enter func165,ntmps165
 go_wp2_with fail
 refine(HV.o _ HP0.o).mono ?_;rintro e w1 ⟨rfl,hf,hp⟩;have HF1:=Za (HF0.o.trans hf);have HP1:=Za hp;have HR1:=Za (HR0.o.sfr hf HNE.o);clear hf hp;go_wp2_with fail
 refine(HC.o _ HP1.o).mono ?_;intro e w2 he
 cases hA:Cr f r with
 |error n=>
  rw[hA]at he;obtain⟨hf,rfl⟩:=he;have HF:=Za (HF1.o.trans hf);have e1:Dl (f+1) (t::r)=.error n:=by rw[Pk HY.o,hA]
  have e2:=HRR.o.symm.trans e1;subst e2;clear e1 hf;unfold Bk;go_wp2_with fail
  exact⟨rfl,HF.o,rfl⟩
 |ok q=>
  obtain⟨x,r1⟩:=q;rw[hA]at he;obtain⟨hf,v,rfl,hp,hv⟩:=he;have hv:Ag (w1.heap.size≤ ·) w2 [x] v:=hv;obtain⟨a1,a2,rfl⟩:=hv.shape;have HX2:=Za (hv.up (show w.heap.size+1≤w1.heap.size from HR1.o.lt));clear hv;have HF2:=Za (HF1.o.trans hf);have HP2:=Za hp;have HR2:=Za (HR1.o.sfr hf HNE.o);clear hf hp;have HA2:=Za hA;clear hA;obtain⟨⟨x0,x1,x2,x3,x4⟩,xf0,xf1,xf2,xf3,xf4⟩:=Bu HR2.o;have xlt:=HR2.o.lt;go_upto_region 3 with(fail)
  obtain⟨V,hV⟩:∃V,((w2.setCell ⟨w.heap.size,0,none⟩ (.int .i64 3)).setCell ⟨w.heap.size,2,none⟩ (.slice a1 1 a2))=V:=⟨_,rfl⟩;rw[hV];have HR3:=Za (hV ▸ ((HR2.o).set 0 (.int .i64 3)).set 2 (.slice a1 1 a2));have HF3:=Za (hV ▸ ((HF2.o).setNew (Ze _) 0 (.int .i64 3)).setNew (Ze _) 2 (.slice a1 1 a2));have HP3:=Za (hV ▸ ((HP2.o).other HPW.o 0 (.int .i64 3)).other HPW.o 2 (.slice a1 1 a2));have HX3:=Za (hV ▸ ((HX2.o).keep (Ai _ (by show ¬w.heap.size+1≤w.heap.size;omega) 0 (.int .i64 3))).keep (Ai _ (by show ¬w.heap.size+1≤w.heap.size;omega) 2 (.slice a1 1 a2)));clear hV;obtain⟨w3,hWW⟩:∃w3,w3=V:=⟨_,rfl⟩;subst hWW;clear x0 x1 x2 x3 x4 xf0 xf1 xf2 xf3 xf4 xlt;have hl1:4*r1.length≤f:=by have h1:=Ic HA2.o;have h2:=HL.o;omega
  obtain⟨⟨y0,y1,y2,y3,y4⟩,yf0,yf1,yf2,yf3,yf4⟩:=Bu HR3.o;have ylt:=HR3.o.lt;go_wp2_with fail
  refine(HB.o r1 _ p tb hl1 HP3.o).mono ?_;intro e w4 he
  cases hA:Eo f r1 with
  |error n=>
   rw[hA]at he;obtain⟨hf,rfl⟩:=he;have HF:=Za (HF3.o.trans hf);have e1:Dl (f+1) (t::r)=.error n:=by rw[Pk HY.o,HA2.o];dsimp only;rw[hA]
   have e2:=HRR.o.symm.trans e1;subst e2;clear e1 hf;unfold Bk;go_wp2_with fail
   exact⟨rfl,HF.o,rfl⟩
  |ok q=>
   obtain⟨ta,r2⟩:=q;rw[hA]at he;obtain⟨hf,v,rfl,hp,hv⟩:=he;have hv:Ax (w3.heap.size≤ ·) w4 ta v:=hv;obtain⟨b1,b2,rfl⟩:=hv.shape;have HT4:=Za (hv.up (show w.heap.size+1≤w3.heap.size from HR3.o.lt));clear hv hl1 y0 y1 y2 y3 y4 yf0 yf1 yf2 yf3 yf4 ylt;have HF4:=Za (HF3.o.trans hf);have HP4:=Za hp;have HR4:=Za (HR3.o.sfr hf HNE.o);have HX4:=Za (HX3.o.keep (hf.fresh (by have:=HPW.o;omega)));clear hf hp;have HA4:=Za hA;clear hA;obtain⟨⟨z0,z1,z2,z3,z4⟩,zf0,zf1,zf2,zf3,zf4⟩:=Bu HR4.o;have zlt:=HR4.o.lt;go_upto_region 4 with(fail)
   obtain⟨V,hV⟩:∃V,(w4.setCell ⟨w.heap.size,3,none⟩ (.slice b1 ta.length b2))=V:=⟨_,rfl⟩;rw[hV];have HR5:=Za (hV ▸ (HR4.o).set 3 (.slice b1 ta.length b2));have HF5:=Za (hV ▸ (HF4.o).setNew (Ze _) 3 (.slice b1 ta.length b2));have HP5:=Za (hV ▸ (HP4.o).other HPW.o 3 (.slice b1 ta.length b2));have HX5:=Za (hV ▸ (HX4.o).keep (Ai _ (by show ¬w.heap.size+1≤w.heap.size;omega) 3 (.slice b1 ta.length b2)));have HT5:=Za (hV ▸ (HT4.o).keep (Ai _ (by show ¬w.heap.size+1≤w.heap.size;omega) 3 (.slice b1 ta.length b2)));clear hV;obtain⟨w5,hWW⟩:∃w5,w5=V:=⟨_,rfl⟩;subst hWW;clear z0 z1 z2 z3 z4 zf0 zf1 zf2 zf3 zf4 zlt;obtain⟨u,r2,rfl⟩:=HP5.o.ends.ne
   cases he:isP [101,108,115,101] u with
   |false=>
    have HTE:=Za (Aj p tb u r2 [101,108,115,101] _ HP5.o he);have HNE2:=Za he;clear he;go_wp2_with fail
    refine(HTE.o).mono ?_;rintro e w6 ⟨rfl,hb⟩;have HF6:=Za (HF5.o.trans (Zb hb));have HP6:=Za (HP5.o.old hb);have HR6:=Za (HR5.o.old hb);have HX6:=Za (HX5.o.old hb);have HT6:=Za (HT5.o.old hb);clear hb;go_wp2_with fail
    have e1:Dl (f+1) (t::r)=.ok (.mk 3 [] [x] ta [],u::r2):=by rw[Pk HY.o,HA2.o];dsimp only;rw[HA4.o];dsimp only;rw[Af HNE2.o]
    have e2:=HRR.o.symm.trans e1;subst e2;obtain⟨⟨d0,d1,d2,d3,d4⟩,_⟩:=Bu HR6.o;exact bodyPost_ret (v:=.agg #[.int .i64 3,.string ⟨#[]⟩,.slice a1 1 a2,.slice b1 ta.length b2,.slice none 0 0]) (by simp [results,results165,go_sem,d0,d1,d2,d3,d4]) rfl (lG HF6.o HP6.o HX6.o HT6.o Zi)
   |true=>
    have HTE:=Za (Bq p tb u r2 [101,108,115,101] _ HP5.o he);have HYE:=Za he;have hl2:4*r2.length≤f:=by
     have h1:=Ic HA2.o;have h3:=HBL.o _ _ _ HA4.o;rw[Zc]at h3;have h2:=HL.o;omega
    clear he;go_wp2_with fail
    refine(HTE.o).mono ?_;rintro e w6 ⟨rfl,hf,hp⟩;have HF6:=Za (HF5.o.trans hf);have HP6:=Za hp;have HR6:=Za (HR5.o.sfr hf HNE.o);have HX6:=Za (HX5.o.keep (hf.fresh (by have:=HPW.o;omega)));have HT6:=Za (HT5.o.keep (hf.fresh (by have:=HPW.o;omega)));clear hf hp;go_wp2_with fail
    refine(HB.o r2 _ p tb hl2 HP6.o).mono ?_;intro e w7 he
    cases hA:Eo f r2 with
    |error n=>
     rw[hA]at he;obtain⟨hf,rfl⟩:=he;have HF:=Za (HF6.o.trans hf);have e1:Dl (f+1) (t::r)=.error n:=by rw[Pk HY.o,HA2.o];dsimp only;rw[HA4.o];dsimp only;rw[An HYE.o];dsimp only;rw[hA]
     have e2:=HRR.o.symm.trans e1;subst e2;clear e1 hf;unfold Bk;go_wp2_with fail
     exact⟨rfl,HF.o,rfl⟩
    |ok q=>
     obtain⟨eb,r3⟩:=q;rw[hA]at he;obtain⟨hf,v,rfl,hp,hv⟩:=he;have hv:Ax (w6.heap.size≤ ·) w7 eb v:=hv;obtain⟨g1,g2,rfl⟩:=hv.shape;have HE7:=Za (hv.up (show w.heap.size+1≤w6.heap.size from HR6.o.lt));clear hv hl2;have HF7:=Za (HF6.o.trans hf);have HP7:=Za hp;have HR7:=Za (HR6.o.sfr hf HNE.o);have HX7:=Za (HX6.o.keep (hf.fresh (by have:=HPW.o;omega)));have HT7:=Za (HT6.o.keep (hf.fresh (by have:=HPW.o;omega)));clear hf hp;have HA7:=Za hA;clear hA;obtain⟨⟨q0,q1,q2,q3,q4⟩,qf0,qf1,qf2,qf3,qf4⟩:=Bu HR7.o;have qlt:=HR7.o.lt;go_wp2_with fail
     have HRF:=Za (HR7.o.set 4 (.slice g1 eb.length g2));have HFF:=Za (HF7.o.setNew (Ze _) 4 (.slice g1 eb.length g2));have HPF:=Za (HP7.o.other HPW.o 4 (.slice g1 eb.length g2));have HXF:=Za (HX7.o.keep (Ai _ (by show ¬w.heap.size+1≤w.heap.size;omega) 4 (.slice g1 eb.length g2)));have HTF:=Za (HT7.o.keep (Ai _ (by show ¬w.heap.size+1≤w.heap.size;omega) 4 (.slice g1 eb.length g2)));have HEF:=Za (HE7.o.keep (Ai _ (by show ¬w.heap.size+1≤w.heap.size;omega) 4 (.slice g1 eb.length g2)));have e1:Dl (f+1) (t::r)=.ok (.mk 3 [] [x] ta eb,r3):=by rw[Pk HY.o,HA2.o];dsimp only;rw[HA4.o];dsimp only;rw[An HYE.o];dsimp only;rw[HA7.o]
     have e2:=HRR.o.symm.trans e1;subst e2;obtain⟨⟨d0,d1,d2,d3,d4⟩,_⟩:=Bu HRF.o;exact bodyPost_ret (v:=.agg #[.int .i64 3,.string ⟨#[]⟩,.slice a1 1 a2,.slice b1 ta.length b2,.slice g1 eb.length g2]) (by simp [results,results165,go_sem,d0,d1,d2,d3,d4]) rfl (lG HFF.o HPF.o HXF.o HTF.o HEF.o)
theorem dD(f:Nat)(hB:Tq f)(hBL:∀l x r,Eo f l=.ok (x,r)→r.length<l.length)(t:Tk)(r:List Tk)(w:World)(p tb:Nat)(hl:4*(t::r).length≤f)(h:Ps w p tb (t::r))(n:isP [105,102] t=false)(y:isP [119,104,105,108,101] t=true):
  Calls Zf 165 #[.pointer (some ⟨p,0,none⟩)] w (Gu (StH w.heap.size) w p tb (Dl (f+1) (t::r))):=by
 have HPW:=Za h.lt;have HNE:Hid (w.heap.size≠p):=by show _≠_;have:=h.lt;omega
 have hb0:Below w.heap.size w (w.alloc (.cells #[.int .i64 0,.string ⟨#[]⟩,.slice none 0 0,.slice none 0 0,.slice none 0 0] 60)):=bA;have HF0:Hid (SFr p w (w.alloc (.cells #[.int .i64 0,.string ⟨#[]⟩,.slice none 0 0,.slice none 0 0,.slice none 0 0] 60))):=Zb hb0;have HR0:=Za (Zd w [.int .i64 0,.string ⟨#[]⟩,.slice none 0 0,.slice none 0 0,.slice none 0 0] 60);have HP0:=Za (h.old hb0);clear hb0;obtain⟨R,hR⟩:∃R,Dl (f+1) (t::r)=R:=⟨_,rfl⟩;rw[hR];have HRR:=Za hR;clear hR;have HY:=Za y;have HV:Hid (∀w1,Ps w1 p tb (t::r)→_):=fun w1 h1=>Bq p tb t r [119,104,105,108,101] w1 h1 y
 rw[Zc]at hl;have hI:=Py f;have HC:Hid (∀w1,Ps w1 p tb r→_):=fun w1 h1=>hI r w1 p tb (by omega) h1
 have HL:=Za hl;have HB:=Za hB;have HBL:=Za hBL;have HN1:=Za n;have HT0:Hid (∀w1,Ps w1 p tb (t::r)→_):=fun w1 h1=>Aj p tb t r [105,102] w1 h1 n
 clear hl hI y hB hBL n;clear h;go_enter func165,ntmps165
 go_wp2_with fail
 refine(HT0.o _ HP0.o).mono ?_;rintro e w1 ⟨rfl,hb⟩;have HF1:=Za (HF0.o.trans (Zb hb));have HP1:=Za (HP0.o.old hb);have HR1:=Za (HR0.o.old hb);clear hb;go_wp2_with fail
 refine(HV.o _ HP1.o).mono ?_;rintro e w2 ⟨rfl,hf,hp⟩;have HF2:=Za (HF1.o.trans hf);have HP2:=Za hp;have HR2:=Za (HR1.o.sfr hf HNE.o);clear hf hp;go_wp2_with fail
 refine(HC.o _ HP2.o).mono ?_;intro e w3 he
 cases hA:Cr f r with
 |error n=>
  rw[hA]at he;obtain⟨hf,rfl⟩:=he;have HF:=Za (HF2.o.trans hf);have e1:Dl (f+1) (t::r)=.error n:=by rw[Ni HN1.o HY.o,hA]
  have e2:=HRR.o.symm.trans e1;subst e2;clear e1 hf;unfold Bk;go_wp2_with fail
  exact⟨rfl,HF.o,rfl⟩
 |ok q=>
  obtain⟨x,r1⟩:=q;rw[hA]at he;obtain⟨hf,v,rfl,hp,hv⟩:=he;have hv:Ag (w2.heap.size≤ ·) w3 [x] v:=hv;obtain⟨a1,a2,rfl⟩:=hv.shape;have HX3:=Za (hv.up (show w.heap.size+1≤w2.heap.size from HR2.o.lt));clear hv;have HF3:=Za (HF2.o.trans hf);have HP3:=Za hp;have HR3:=Za (HR2.o.sfr hf HNE.o);clear hf hp;have HA3:=Za hA;clear hA;obtain⟨⟨x0,x1,x2,x3,x4⟩,xf0,xf1,xf2,xf3,xf4⟩:=Bu HR3.o;have xlt:=HR3.o.lt;go_upto_region 8 with(fail)
  obtain⟨V,hV⟩:∃V,((w3.setCell ⟨w.heap.size,0,none⟩ (.int .i64 4)).setCell ⟨w.heap.size,2,none⟩ (.slice a1 1 a2))=V:=⟨_,rfl⟩;rw[hV];have HR4:=Za (hV ▸ ((HR3.o).set 0 (.int .i64 4)).set 2 (.slice a1 1 a2));have HF4:=Za (hV ▸ ((HF3.o).setNew (Ze _) 0 (.int .i64 4)).setNew (Ze _) 2 (.slice a1 1 a2));have HP4:=Za (hV ▸ ((HP3.o).other HPW.o 0 (.int .i64 4)).other HPW.o 2 (.slice a1 1 a2));have HX4:=Za (hV ▸ ((HX3.o).keep (Ai _ (by show ¬w.heap.size+1≤w.heap.size;omega) 0 (.int .i64 4))).keep (Ai _ (by show ¬w.heap.size+1≤w.heap.size;omega) 2 (.slice a1 1 a2)));clear hV;obtain⟨w4,hWW⟩:∃w4,w4=V:=⟨_,rfl⟩;subst hWW;clear x0 x1 x2 x3 x4 xf0 xf1 xf2 xf3 xf4 xlt;have hl1:4*r1.length≤f:=by have h1:=Ic HA3.o;have h2:=HL.o;omega
  obtain⟨⟨y0,y1,y2,y3,y4⟩,yf0,yf1,yf2,yf3,yf4⟩:=Bu HR4.o;have ylt:=HR4.o.lt;go_wp2_with fail
  refine(HB.o r1 _ p tb hl1 HP4.o).mono ?_;intro e w5 he
  cases hA:Eo f r1 with
  |error n=>
   rw[hA]at he;obtain⟨hf,rfl⟩:=he;have HF:=Za (HF4.o.trans hf);have e1:Dl (f+1) (t::r)=.error n:=by rw[Ni HN1.o HY.o,HA3.o];dsimp only;rw[hA]
   have e2:=HRR.o.symm.trans e1;subst e2;clear e1 hf;unfold Bk;go_wp2_with fail
   exact⟨rfl,HF.o,rfl⟩
  |ok q=>
   obtain⟨ta,r2⟩:=q;rw[hA]at he;obtain⟨hf,v,rfl,hp,hv⟩:=he;have hv:Ax (w4.heap.size≤ ·) w5 ta v:=hv;obtain⟨b1,b2,rfl⟩:=hv.shape;have HT5:=Za (hv.up (show w.heap.size+1≤w4.heap.size from HR4.o.lt));clear hv hl1 y0 y1 y2 y3 y4 yf0 yf1 yf2 yf3 yf4 ylt;have HF5:=Za (HF4.o.trans hf);have HP5:=Za hp;have HR5:=Za (HR4.o.sfr hf HNE.o);have HX5:=Za (HX4.o.keep (hf.fresh (by have:=HPW.o;omega)));clear hf hp;have HA5:=Za hA;clear hA;obtain⟨⟨z0,z1,z2,z3,z4⟩,zf0,zf1,zf2,zf3,zf4⟩:=Bu HR5.o;have zlt:=HR5.o.lt;go_wp2_with fail
   have HRF:=Za (HR5.o.set 3 (.slice b1 ta.length b2));have HFF:=Za (HF5.o.setNew (Ze _) 3 (.slice b1 ta.length b2));have HPF:=Za (HP5.o.other HPW.o 3 (.slice b1 ta.length b2));have HXF:=Za (HX5.o.keep (Ai _ (by show ¬w.heap.size+1≤w.heap.size;omega) 3 (.slice b1 ta.length b2)));have HTF:=Za (HT5.o.keep (Ai _ (by show ¬w.heap.size+1≤w.heap.size;omega) 3 (.slice b1 ta.length b2)));have e1:Dl (f+1) (t::r)=.ok (.mk 4 [] [x] ta [],r2):=by rw[Ni HN1.o HY.o,HA3.o];dsimp only;rw[HA5.o]
   have e2:=HRR.o.symm.trans e1;subst e2;obtain⟨⟨d0,d1,d2,d3,d4⟩,_⟩:=Bu HRF.o;exact bodyPost_ret (v:=.agg #[.int .i64 4,.string ⟨#[]⟩,.slice a1 1 a2,.slice b1 ta.length b2,.slice none 0 0]) (by simp [results,results165,go_sem,d0,d1,d2,d3,d4]) rfl (lG HFF.o HPF.o HXF.o HTF.o Zi)
theorem aL(f:Nat)(t:Tk)(r:List Tk)(w:World)(p tb:Nat)(hl:4*(t::r).length≤f)(h:Ps w p tb (t::r))(n:isP [105,102] t=false)(n2:isP [119,104,105,108,101] t=false):
  Calls Zf 165 #[.pointer (some ⟨p,0,none⟩)] w (Gu (StH w.heap.size) w p tb (Dl (f+1) (t::r))):=by
 have HPW:=Za h.lt;have HNE:Hid (w.heap.size≠p):=by show _≠_;have:=h.lt;omega
 have hb0:Below w.heap.size w (w.alloc (.cells #[.int .i64 0,.string ⟨#[]⟩,.slice none 0 0,.slice none 0 0,.slice none 0 0] 60)):=bA;have HF0:Hid (SFr p w (w.alloc (.cells #[.int .i64 0,.string ⟨#[]⟩,.slice none 0 0,.slice none 0 0,.slice none 0 0] 60))):=Zb hb0;have HR0:=Za (Zd w [.int .i64 0,.string ⟨#[]⟩,.slice none 0 0,.slice none 0 0,.slice none 0 0] 60);have HP0:=Za (h.old hb0);clear hb0;obtain⟨R,hR⟩:∃R,Dl (f+1) (t::r)=R:=⟨_,rfl⟩;rw[hR];have HRR:=Za hR;clear hR;have HN1:=Za n;have HN2:=Za n2;have HT0:Hid (∀w1,Ps w1 p tb (t::r)→_):=fun w1 h1=>Aj p tb t r [105,102] w1 h1 n
 have HT1:Hid (∀w1,Ps w1 p tb (t::r)→_):=fun w1 h1=>Aj p tb t r [119,104,105,108,101] w1 h1 n2
 have hS:=oW f;have HC:Hid (∀w1,Ps w1 p tb (t::r)→_):=fun w1 h1=>hS (t::r) w1 p tb hl h1
 clear hl hS n n2;clear h;go_enter func165,ntmps165
 go_wp2_with fail
 refine(HT0.o _ HP0.o).mono ?_;rintro e w1 ⟨rfl,hb⟩;have HF1:=Za (HF0.o.trans (Zb hb));have HP1:=Za (HP0.o.old hb);have HR1:=Za (HR0.o.old hb);clear hb;go_wp2_with fail
 refine(HT1.o _ HP1.o).mono ?_;rintro e w2 ⟨rfl,hb⟩;have HF2:=Za (HF1.o.trans (Zb hb));have HP2:=Za (HP1.o.old hb);have HR2:=Za (HR1.o.old hb);clear hb;go_wp2_with fail
 refine(HC.o _ HP2.o).mono ?_;intro e w3 he
 cases hA:Av f (t::r)with
 |error n=>
  rw[hA]at he;obtain⟨hf,rfl⟩:=he;have HF:=Za (HF2.o.trans hf);have e1:Dl (f+1) (t::r)=.error n:=by rw[Ma HN1.o HN2.o,hA]
  have e2:=HRR.o.symm.trans e1;subst e2;clear e1 hf;unfold Bk;go_wp2_with fail
  exact⟨rfl,HF.o,rfl⟩
 |ok q=>
  obtain⟨x,r2⟩:=q;rw[hA]at he;obtain⟨hf,v,rfl,hp,hv⟩:=he;obtain⟨va,vt,ve,rfl,hva,hvt,hve⟩:=hv;obtain⟨a1,a2,rfl⟩:=hva.shape;obtain⟨b1,b2,rfl⟩:=hvt.shape;obtain⟨g1,g2,rfl⟩:=hve.shape;have HX3:=Za (hva.up (show w.heap.size+1≤w2.heap.size from HR2.o.lt));have HT3:=Za (hvt.up (show w.heap.size+1≤w2.heap.size from HR2.o.lt));have HE3:=Za (hve.up (show w.heap.size+1≤w2.heap.size from HR2.o.lt));clear hva hvt hve;have HF3:=Za (HF2.o.trans hf);have HP3:=Za hp;have HR3:=Za (HR2.o.sfr hf HNE.o);clear hf hp;have HA3:=Za hA;clear hA;obtain⟨⟨x0,x1,x2,x3,x4⟩,xf0,xf1,xf2,xf3,xf4⟩:=Bu HR3.o;have xlt:=HR3.o.lt;go_upto_region 10 with(fail)
  obtain⟨V,hV⟩:∃V,(((((w3.setCell ⟨w.heap.size,0,none⟩ (.int .i64 x.kind)).setCell ⟨w.heap.size,1,none⟩ (.string (Aa x.name))).setCell ⟨w.heap.size,2,none⟩ (.slice a1 x.args.length a2)).setCell ⟨w.heap.size,3,none⟩ (.slice b1 x.thn.length b2)).setCell ⟨w.heap.size,4,none⟩ (.slice g1 x.els.length g2))=V:=⟨_,rfl⟩;rw[hV];have HR4:=Za (hV ▸ (((((HR3.o).set 0 (.int .i64 x.kind)).set 1 (.string (Aa x.name))).set 2 (.slice a1 x.args.length a2)).set 3 (.slice b1 x.thn.length b2)).set 4 (.slice g1 x.els.length g2));have HF4:=Za (hV ▸ (((((HF3.o).setNew (Ze _) 0 (.int .i64 x.kind)).setNew (Ze _) 1 (.string (Aa x.name))).setNew (Ze _) 2 (.slice a1 x.args.length a2)).setNew (Ze _) 3 (.slice b1 x.thn.length b2)).setNew (Ze _) 4 (.slice g1 x.els.length g2));have HP4:=Za (hV ▸ (((((HP3.o).other HPW.o 0 (.int .i64 x.kind)).other HPW.o 1 (.string (Aa x.name))).other HPW.o 2 (.slice a1 x.args.length a2)).other HPW.o 3 (.slice b1 x.thn.length b2)).other HPW.o 4 (.slice g1 x.els.length g2));have HX4:=Za (hV ▸ (((((HX3.o).keep (Ai _ (by show ¬w.heap.size+1≤w.heap.size;omega) 0 (.int .i64 x.kind))).keep (Ai _ (by show ¬w.heap.size+1≤w.heap.size;omega) 1 (.string (Aa x.name)))).keep (Ai _ (by show ¬w.heap.size+1≤w.heap.size;omega) 2 (.slice a1 x.args.length a2))).keep (Ai _ (by show ¬w.heap.size+1≤w.heap.size;omega) 3 (.slice b1 x.thn.length b2))).keep (Ai _ (by show ¬w.heap.size+1≤w.heap.size;omega) 4 (.slice g1 x.els.length g2)))
  have HT4:=Za (hV ▸ (((((HT3.o).keep (Ai _ (by show ¬w.heap.size+1≤w.heap.size;omega) 0 (.int .i64 x.kind))).keep (Ai _ (by show ¬w.heap.size+1≤w.heap.size;omega) 1 (.string (Aa x.name)))).keep (Ai _ (by show ¬w.heap.size+1≤w.heap.size;omega) 2 (.slice a1 x.args.length a2))).keep (Ai _ (by show ¬w.heap.size+1≤w.heap.size;omega) 3 (.slice b1 x.thn.length b2))).keep (Ai _ (by show ¬w.heap.size+1≤w.heap.size;omega) 4 (.slice g1 x.els.length g2)));have HE4:=Za (hV ▸ (((((HE3.o).keep (Ai _ (by show ¬w.heap.size+1≤w.heap.size;omega) 0 (.int .i64 x.kind))).keep (Ai _ (by show ¬w.heap.size+1≤w.heap.size;omega) 1 (.string (Aa x.name)))).keep (Ai _ (by show ¬w.heap.size+1≤w.heap.size;omega) 2 (.slice a1 x.args.length a2))).keep (Ai _ (by show ¬w.heap.size+1≤w.heap.size;omega) 3 (.slice b1 x.thn.length b2))).keep (Ai _ (by show ¬w.heap.size+1≤w.heap.size;omega) 4 (.slice g1 x.els.length g2)));clear hV;obtain⟨w4,hWW⟩:∃w4,w4=V:=⟨_,rfl⟩;subst hWW;have hba:Below w4.heap.size w4 (w4.alloc (.cells #[.string ⟨#[59]⟩] 9)):=bA;have HF5:=Za (HF4.o.trans (Zb hba));have HP5:=Za (HP4.o.old hba);have HR5:=Za (HR4.o.old hba);have HX5:=Za (HX4.o.old hba);have HT5:=Za (HT4.o.old hba);have HE5:=Za (HE4.o.old hba);have HWN:=Za (De p tb r2 [59] _ HP5.o w4.heap.size 1 ((Zd w4 [.string ⟨#[59]⟩] 9).at 0 _ rfl));clear hba;go_wp2_with fail
  refine(HWN.o).mono ?_;intro e w6 he
  cases hA:As [59] r2 with
  |error n=>
   rw[hA]at he;obtain⟨hf,rfl⟩:=he;have HF:=Za (HF5.o.trans hf);have e1:Dl (f+1) (t::r)=.error n:=by rw[Ma HN1.o HN2.o,HA3.o];dsimp only;rw[hA]
   have e2:=HRR.o.symm.trans e1;subst e2;clear e1 hf;unfold Bk;go_wp2_with fail
   exact⟨rfl,HF.o,rfl⟩
  |ok r3=>
   rw[hA]at he;obtain⟨hf,rfl,hp⟩:=he;have HF6:=Za (HF5.o.trans hf);have HP6:=Za hp;have HR6:=Za (HR5.o.sfr hf HNE.o);have HX6:=Za (HX5.o.keep (hf.fresh (by have:=HPW.o;omega)));have HT6:=Za (HT5.o.keep (hf.fresh (by have:=HPW.o;omega)));have HE6:=Za (HE5.o.keep (hf.fresh (by have:=HPW.o;omega)));clear hf hp;have HA6:=Za hA;clear hA;clear HWN;go_wp2_with fail
   have e1:Dl (f+1) (t::r)=.ok (x,r3):=by rw[Ma HN1.o HN2.o,HA3.o];dsimp only;rw[HA6.o]
   have e2:=HRR.o.symm.trans e1;subst e2;obtain⟨⟨d0,d1,d2,d3,d4⟩,_⟩:=Bu HR6.o;exact bodyPost_ret (v:=.agg #[.int .i64 x.kind,.string (Aa x.name),.slice a1 x.args.length a2,.slice b1 x.thn.length b2,.slice g1 x.els.length g2]) (by simp [results,results165,go_sem,d0,d1,d2,d3,d4]) rfl (st_finx HF6.o HP6.o HX6.o HT6.o HE6.o)
theorem jJ(f:Nat)(hB:Tq f)(hBL:∀l x r,Eo f l=.ok (x,r)→r.length<l.length):nM (f+1):=by
 intro l w p tb hl h;obtain⟨t,r,rfl⟩:=h.ends.ne
 cases h0:isP [105,102] t with
 |true=>exact qN f hB hBL t r w p tb (by omega) h h0
 |false=>
  cases h1:isP [119,104,105,108,101] t with
  |true=>exact dD f hB hBL t r w p tb (by omega) h h0 h1
  |false=>exact aL f t r w p tb (by omega) h h0 h1
end Go.Proofs.YtcfpfnoldgnloaaGreatDoor
