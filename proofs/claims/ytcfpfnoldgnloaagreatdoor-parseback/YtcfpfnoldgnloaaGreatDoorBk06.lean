/-
  simple: a statement that has no others in it.
-/
import Derived.Test.YtcfpfnoldgnloaaGreatDoorBk05
set_option linter.unusedVariables false
set_option linter.unusedSimpArgs false
namespace Go.Proofs.YtcfpfnoldgnloaaGreatDoor
open Go.RowKit
set_option maxHeartbeats 20000000
set_option maxRecDepth 100000
open Go.Lib renaming hid→Za
open SFr renaming of_below→Zb
open List renaming length_cons→Zc
open Go.Proofs.Tryz renaming prog→Zd,func204→Zf,ntmps204→Zg,results204→Zh
open aG renaming new→Ze
theorem qS {w W:World}{p tb:Nat}{l:List Tk}{k:Int}{nm:Bs}{xs:List Ex}{s:Value}(hp:p<w.heap.size)(HF:SFr p w W)(HP:Ps W p tb l)(HX:aJ (w.heap.size+1≤ ·) W xs s)(c0 c1 c2 c3 c4:Value):
  eH (StH w.heap.size) w p tb (.ok (.mk k nm xs [] [],l)) (.returned (.agg #[.int .i64 k,.string (aB nm),s,.slice none 0 0,.slice none 0 0])) (((((W.setCell ⟨w.heap.size,0,none⟩ c0).setCell ⟨w.heap.size,1,none⟩ c1).setCell ⟨w.heap.size,2,none⟩ c2).setCell ⟨w.heap.size,3,none⟩ c3).setCell ⟨w.heap.size,4,none⟩ c4):=
 ⟨yN HF (Nat.le_refl _) _ _ _ _ _,_,rfl,ps5 HP hp _ _ _ _ _,_,_,_,rfl,(HX.keep (gW W (by show ¬w.heap.size+1≤w.heap.size;omega) _ _ _ _ _)).mono (fun b hb=>by have:w.heap.size+1≤b:=hb;omega),aR.zero,aR.zero⟩
theorem pp {w W:World}{p tb:Nat}{l:List Tk}{k:Int}{nm:Bs}{x:Ex}{s:Value}(hp:p<w.heap.size)(HF:SFr p w W)(HP:Ps W p tb l)(HX:aJ (w.heap.size+1≤ ·) W x.args s)(hn:I64 x.n)(hlt:w.heap.size<W.heap.size)(c0 c1 c2 c3 c4:Value):
  eH (StH w.heap.size) w p tb (.ok (.mk k nm [x] [] [],l)) (.returned (.agg #[.int .i64 k,.string (aB nm),.slice (some ⟨W.heap.size,0,none⟩) 1 1,.slice none 0 0,.slice none 0 0])) ((((((W.setCell ⟨w.heap.size,0,none⟩ c0).setCell ⟨w.heap.size,1,none⟩ c1).setCell ⟨w.heap.size,2,none⟩ c2).setCell ⟨w.heap.size,3,none⟩ c3).setCell ⟨w.heap.size,4,none⟩ c4).alloc (.cells #[.int .i64 x.kind,.int .i64 x.op,.int .i64 x.n,.string (aB x.name),s] 27)):=by
 have h1:=HX.keep (gW W (show ¬w.heap.size+1≤w.heap.size by omega) c0 c1 c2 c3 c4);have h2:=tM h1 hn (by rw[iQ];omega);rw[iQ]at h2;exact⟨(yN HF (Nat.le_refl _) c0 c1 c2 c3 c4).trans (Zb (bA)),_,rfl,(ps5 HP hp c0 c1 c2 c3 c4).alloc _,_,_,_,rfl,h2.mono (fun b hb=>by have:w.heap.size+1≤b:=hb;omega),aR.zero,aR.zero⟩
theorem uY(f:Nat)(t:Tk)(r:List Tk)(w:World)(p tb:Nat)(hl:4*(t::r).length≤f)(h:Ps w p tb (t::r))(y:isP [98,114,101,97,107] t=true):
  Calls Zd 204 #[.pointer (some ⟨p,0,none⟩)] w (eH (StH w.heap.size) w p tb (aW f (t::r))):=by
 have HPW:=Za h.lt;have HNE:Hid (w.heap.size≠p):=by show _≠_;have:=h.lt;omega
 have hb0:Below w.heap.size w (w.alloc (.cells #[.int .i64 0,.string ⟨#[]⟩,.slice none 0 0,.slice none 0 0,.slice none 0 0] 60)):=bA;have HF0:Hid (SFr p w (w.alloc (.cells #[.int .i64 0,.string ⟨#[]⟩,.slice none 0 0,.slice none 0 0,.slice none 0 0] 60))):=Zb hb0;have HR0:=Za (Ze w [.int .i64 0,.string ⟨#[]⟩,.slice none 0 0,.slice none 0 0,.slice none 0 0] 60);have HP0:=Za (h.old hb0);clear hb0;obtain⟨R,hR⟩:∃R,aW f (t::r)=R:=⟨_,rfl⟩;rw[hR];have HRR:=Za hR;clear hR;have HY:=Za y;have HV:Hid (∀w1,Ps w1 p tb (t::r)→_):=fun w1 h1=>bE p tb t r [98,114,101,97,107] w1 h1 y
 rw[Zc]at hl;clear hl y;clear h;go_enter Zf,Zg
 go_wp2_with fail
 refine(HV.out _ HP0.out).mono ?_;rintro e w1 ⟨rfl,hf,hp⟩;have HF1:=Za (HF0.out.trans hf);have HP1:=Za hp;have HR1:=Za (HR0.out.sfr hf HNE.out);clear hf hp;obtain⟨⟨x0,x1,x2,x3,x4⟩,xf0,xf1,xf2,xf3,xf4⟩:=bL HR1.out;have xlt:=HR1.out.lt;go_wp2_with fail
 have e1:aW f (t::r)= .ok (.mk 5 [] [] [] [],r):=by unfold aW;rw[aQ HY.out]
 have e2:=HRR.out.symm.trans e1;subst e2;obtain⟨⟨d0,d1,d2,d3,d4⟩,_⟩:=bL (i7 HR1.out (.int .i64 5) (.string ⟨#[]⟩) (.slice none 0 0) (.slice none 0 0) (.slice none 0 0));exact bodyPost_ret (v:= .agg #[.int .i64 5,.string ⟨#[]⟩,.slice none 0 0,.slice none 0 0,.slice none 0 0]) (by simp [results,Zh,go_sem,d0,d1,d2,d3,d4]) rfl (qS HPW.out HF1.out HP1.out aJ.zero _ _ _ _ _)
theorem rr(f:Nat)(t:Tk)(r:List Tk)(w:World)(p tb:Nat)(hl:4*(t::r).length≤f)(h:Ps w p tb (t::r))(n0:isP [98,114,101,97,107] t=false)(y:isP [99,111,110,116,105,110,117,101] t=true):
  Calls Zd 204 #[.pointer (some ⟨p,0,none⟩)] w (eH (StH w.heap.size) w p tb (aW f (t::r))):=by
 have HPW:=Za h.lt;have HNE:Hid (w.heap.size≠p):=by show _≠_;have:=h.lt;omega
 have hb0:Below w.heap.size w (w.alloc (.cells #[.int .i64 0,.string ⟨#[]⟩,.slice none 0 0,.slice none 0 0,.slice none 0 0] 60)):=bA;have HF0:Hid (SFr p w (w.alloc (.cells #[.int .i64 0,.string ⟨#[]⟩,.slice none 0 0,.slice none 0 0,.slice none 0 0] 60))):=Zb hb0;have HR0:=Za (Ze w [.int .i64 0,.string ⟨#[]⟩,.slice none 0 0,.slice none 0 0,.slice none 0 0] 60);have HP0:=Za (h.old hb0);clear hb0;obtain⟨R,hR⟩:∃R,aW f (t::r)=R:=⟨_,rfl⟩;rw[hR];have HRR:=Za hR;clear hR;have HN0:=Za n0;have HT0:Hid (∀w1,Ps w1 p tb (t::r)→_):=fun w1 h1=>aO p tb t r [98,114,101,97,107] w1 h1 n0
 have HY:=Za y;have HV:Hid (∀w1,Ps w1 p tb (t::r)→_):=fun w1 h1=>bE p tb t r [99,111,110,116,105,110,117,101] w1 h1 y
 rw[Zc]at hl;clear hl n0 y;clear h;go_enter Zf,Zg
 go_wp2_with fail
 refine(HT0.out _ HP0.out).mono ?_;rintro e w1 ⟨rfl,hb⟩;have HF1:=Za (HF0.out.trans (Zb hb));have HP1:=Za (HP0.out.old hb);have HR1:=Za (HR0.out.old hb);clear hb;go_wp2_with fail
 refine(HV.out _ HP1.out).mono ?_;rintro e w2 ⟨rfl,hf,hp⟩;have HF2:=Za (HF1.out.trans hf);have HP2:=Za hp;have HR2:=Za (HR1.out.sfr hf HNE.out);clear hf hp;obtain⟨⟨x0,x1,x2,x3,x4⟩,xf0,xf1,xf2,xf3,xf4⟩:=bL HR2.out;have xlt:=HR2.out.lt;go_wp2_with fail
 have e1:aW f (t::r)= .ok (.mk 6 [] [] [] [],r):=by unfold aW;rw[aH HN0.out];dsimp only;rw[aQ HY.out]
 have e2:=HRR.out.symm.trans e1;subst e2;obtain⟨⟨d0,d1,d2,d3,d4⟩,_⟩:=bL (i7 HR2.out (.int .i64 6) (.string ⟨#[]⟩) (.slice none 0 0) (.slice none 0 0) (.slice none 0 0));exact bodyPost_ret (v:= .agg #[.int .i64 6,.string ⟨#[]⟩,.slice none 0 0,.slice none 0 0,.slice none 0 0]) (by simp [results,Zh,go_sem,d0,d1,d2,d3,d4]) rfl (qS HPW.out HF2.out HP2.out aJ.zero _ _ _ _ _)
theorem tF(f:Nat)(t:Tk)(r:List Tk)(w:World)(p tb:Nat)(hl:4*(t::r).length≤f)(h:Ps w p tb (t::r))(n0:isP [98,114,101,97,107] t=false)(n1:isP [99,111,110,116,105,110,117,101] t=false)(y:isP [114,101,116,117,114,110] t=true):
  Calls Zd 204 #[.pointer (some ⟨p,0,none⟩)] w (eH (StH w.heap.size) w p tb (aW f (t::r))):=by
 have HPW:=Za h.lt;have HNE:Hid (w.heap.size≠p):=by show _≠_;have:=h.lt;omega
 have hb0:Below w.heap.size w (w.alloc (.cells #[.int .i64 0,.string ⟨#[]⟩,.slice none 0 0,.slice none 0 0,.slice none 0 0] 60)):=bA;have HF0:Hid (SFr p w (w.alloc (.cells #[.int .i64 0,.string ⟨#[]⟩,.slice none 0 0,.slice none 0 0,.slice none 0 0] 60))):=Zb hb0;have HR0:=Za (Ze w [.int .i64 0,.string ⟨#[]⟩,.slice none 0 0,.slice none 0 0,.slice none 0 0] 60);have HP0:=Za (h.old hb0);clear hb0;obtain⟨R,hR⟩:∃R,aW f (t::r)=R:=⟨_,rfl⟩;rw[hR];have HRR:=Za hR;clear hR;have HN0:=Za n0;have HT0:Hid (∀w1,Ps w1 p tb (t::r)→_):=fun w1 h1=>aO p tb t r [98,114,101,97,107] w1 h1 n0
 have HN1:=Za n1;have HT1:Hid (∀w1,Ps w1 p tb (t::r)→_):=fun w1 h1=>aO p tb t r [99,111,110,116,105,110,117,101] w1 h1 n1
 have HY:=Za y;have HV:Hid (∀w1,Ps w1 p tb (t::r)→_):=fun w1 h1=>bE p tb t r [114,101,116,117,114,110] w1 h1 y
 rw[Zc]at hl;have hE:=(io f).2.1;have HC:Hid (∀w1,Ps w1 p tb r→_):=fun w1 h1=>hE r w1 p tb (by omega) h1
 clear hE;clear hl n0 n1 y;clear h;go_enter Zf,Zg
 go_wp2_with fail
 refine(HT0.out _ HP0.out).mono ?_;rintro e w1 ⟨rfl,hb⟩;have HF1:=Za (HF0.out.trans (Zb hb));have HP1:=Za (HP0.out.old hb);have HR1:=Za (HR0.out.old hb);clear hb;go_wp2_with fail
 refine(HT1.out _ HP1.out).mono ?_;rintro e w2 ⟨rfl,hb⟩;have HF2:=Za (HF1.out.trans (Zb hb));have HP2:=Za (HP1.out.old hb);have HR2:=Za (HR1.out.old hb);clear hb;go_wp2_with fail
 refine(HV.out _ HP2.out).mono ?_;rintro e w3 ⟨rfl,hf,hp⟩;have HF3:=Za (HF2.out.trans hf);have HP3:=Za hp;have HR3:=Za (HR2.out.sfr hf HNE.out);clear hf hp;go_wp2_with fail
 refine(HC.out _ HP3.out).mono ?_;intro e w4 he
 cases hA:ar f 1 r with
 |error n=>
  rw[hA]at he;obtain⟨hf,rfl⟩:=he;have HF:=Za (HF3.out.trans hf);have e1:aW f (t::r)= .error n:=by unfold aW;rw[aH HN0.out];dsimp only;rw[aH HN1.out];dsimp only;rw[aQ HY.out];dsimp only;rw[hA]
  have e2:=HRR.out.symm.trans e1;subst e2;clear e1 hf;unfold az;go_wp2_with fail
  exact⟨rfl,HF.out,rfl⟩
 |ok q=>
  obtain⟨x,r2⟩:=q;rw[hA]at he;obtain⟨hf,v,rfl,hp,hv⟩:=he;obtain⟨s3,rfl,hx,hn⟩:=hv;obtain⟨a1,a2,rfl⟩:=hx.shape;have HX4:=Za (hx.up (show w.heap.size+1≤w3.heap.size from HR3.out.lt));have HN:=Za hn;clear hx hn;have HF4:=Za (HF3.out.trans hf);have HP4:=Za hp;have HR4:=Za (HR3.out.sfr hf HNE.out);clear hf hp;have HA4:=Za hA;clear hA;obtain⟨⟨x0,x1,x2,x3,x4⟩,xf0,xf1,xf2,xf3,xf4⟩:=bL HR4.out;have xlt:=HR4.out.lt;go_wp2_with fail
  have e1:aW f (t::r)= .ok (.mk 7 [] [x] [] [],r2):=by unfold aW;rw[aH HN0.out];dsimp only;rw[aH HN1.out];dsimp only;rw[aQ HY.out];dsimp only;rw[HA4.out]
  have e2:=HRR.out.symm.trans e1;subst e2;obtain⟨⟨d0,d1,d2,d3,d4⟩,_⟩:=bL ((i7 HR4.out (.int .i64 7) (.string ⟨#[]⟩) (.slice (some ⟨w4.heap.size,0,none⟩) 1 1) (.slice none 0 0) (.slice none 0 0)).alloc (.cells #[.int .i64 x.kind,.int .i64 x.op,.int .i64 x.n,.string (aB x.name),.slice a1 x.args.length a2] 27));exact bodyPost_ret (v:= .agg #[.int .i64 7,.string ⟨#[]⟩,.slice (some ⟨w4.heap.size,0,none⟩) 1 1,.slice none 0 0,.slice none 0 0]) (by simp [results,Zh,go_sem,d0,d1,d2,d3,d4]) rfl (pp HPW.out HF4.out HP4.out HX4.out HN.out HR4.out.lt _ _ _ _ _)
theorem pz(f:Nat)(t:Tk)(r:List Tk)(w:World)(p tb:Nat)(hl:4*(t::r).length≤f)(h:Ps w p tb (t::r))(n0:isP [98,114,101,97,107] t=false)(n1:isP [99,111,110,116,105,110,117,101] t=false)(n2:isP [114,101,116,117,114,110] t=false)(y:isP [112,114,105,110,116] t=true):
  Calls Zd 204 #[.pointer (some ⟨p,0,none⟩)] w (eH (StH w.heap.size) w p tb (aW f (t::r))):=by
 have HPW:=Za h.lt;have HNE:Hid (w.heap.size≠p):=by show _≠_;have:=h.lt;omega
 have hb0:Below w.heap.size w (w.alloc (.cells #[.int .i64 0,.string ⟨#[]⟩,.slice none 0 0,.slice none 0 0,.slice none 0 0] 60)):=bA;have HF0:Hid (SFr p w (w.alloc (.cells #[.int .i64 0,.string ⟨#[]⟩,.slice none 0 0,.slice none 0 0,.slice none 0 0] 60))):=Zb hb0;have HR0:=Za (Ze w [.int .i64 0,.string ⟨#[]⟩,.slice none 0 0,.slice none 0 0,.slice none 0 0] 60);have HP0:=Za (h.old hb0);clear hb0;obtain⟨R,hR⟩:∃R,aW f (t::r)=R:=⟨_,rfl⟩;rw[hR];have HRR:=Za hR;clear hR;have HN0:=Za n0;have HT0:Hid (∀w1,Ps w1 p tb (t::r)→_):=fun w1 h1=>aO p tb t r [98,114,101,97,107] w1 h1 n0
 have HN1:=Za n1;have HT1:Hid (∀w1,Ps w1 p tb (t::r)→_):=fun w1 h1=>aO p tb t r [99,111,110,116,105,110,117,101] w1 h1 n1
 have HN2:=Za n2;have HT2:Hid (∀w1,Ps w1 p tb (t::r)→_):=fun w1 h1=>aO p tb t r [114,101,116,117,114,110] w1 h1 n2
 have HY:=Za y;have HV:Hid (∀w1,Ps w1 p tb (t::r)→_):=fun w1 h1=>bE p tb t r [112,114,105,110,116] w1 h1 y
 rw[Zc]at hl;have hE:=jl f;have HC:Hid (∀w1,Ps w1 p tb r→_):=fun w1 h1=>hE r w1 p tb (by omega) h1
 clear hE;clear hl n0 n1 n2 y;clear h;go_enter Zf,Zg
 go_wp2_with fail
 refine(HT0.out _ HP0.out).mono ?_;rintro e w1 ⟨rfl,hb⟩;have HF1:=Za (HF0.out.trans (Zb hb));have HP1:=Za (HP0.out.old hb);have HR1:=Za (HR0.out.old hb);clear hb;go_wp2_with fail
 refine(HT1.out _ HP1.out).mono ?_;rintro e w2 ⟨rfl,hb⟩;have HF2:=Za (HF1.out.trans (Zb hb));have HP2:=Za (HP1.out.old hb);have HR2:=Za (HR1.out.old hb);clear hb;go_wp2_with fail
 refine(HT2.out _ HP2.out).mono ?_;rintro e w3 ⟨rfl,hb⟩;have HF3:=Za (HF2.out.trans (Zb hb));have HP3:=Za (HP2.out.old hb);have HR3:=Za (HR2.out.old hb);clear hb;go_wp2_with fail
 refine(HV.out _ HP3.out).mono ?_;rintro e w4 ⟨rfl,hf,hp⟩;have HF4:=Za (HF3.out.trans hf);have HP4:=Za hp;have HR4:=Za (HR3.out.sfr hf HNE.out);clear hf hp;go_wp2_with fail
 refine(HC.out _ HP4.out).mono ?_;intro e w5 he
 cases hA:bq f r with
 |error n=>
  rw[hA]at he;obtain⟨hf,rfl⟩:=he;have HF:=Za (HF4.out.trans hf);have e1:aW f (t::r)= .error n:=by unfold aW;rw[aH HN0.out];dsimp only;rw[aH HN1.out];dsimp only;rw[aH HN2.out];dsimp only;rw[aQ HY.out];dsimp only;rw[hA]
  have e2:=HRR.out.symm.trans e1;subst e2;clear e1 hf;unfold az;go_wp2_with fail
  exact⟨rfl,HF.out,rfl⟩
 |ok q=>
  obtain⟨x,r2⟩:=q;rw[hA]at he;obtain⟨hf,v,rfl,hp,hv⟩:=he;have hv:aJ (w4.heap.size≤ ·) w5 [x] v:=hv;obtain⟨a1,a2,rfl⟩:=hv.shape;have HX5:=Za (hv.up (show w.heap.size+1≤w4.heap.size from HR4.out.lt));clear hv;have HF5:=Za (HF4.out.trans hf);have HP5:=Za hp;have HR5:=Za (HR4.out.sfr hf HNE.out);clear hf hp;have HA5:=Za hA;clear hA;obtain⟨⟨x0,x1,x2,x3,x4⟩,xf0,xf1,xf2,xf3,xf4⟩:=bL HR5.out;have xlt:=HR5.out.lt;go_wp2_with fail
  have e1:aW f (t::r)= .ok (.mk 8 [] [x] [] [],r2):=by unfold aW;rw[aH HN0.out];dsimp only;rw[aH HN1.out];dsimp only;rw[aH HN2.out];dsimp only;rw[aQ HY.out];dsimp only;rw[HA5.out]
  have e2:=HRR.out.symm.trans e1;subst e2;obtain⟨⟨d0,d1,d2,d3,d4⟩,_⟩:=bL (i7 HR5.out (.int .i64 8) (.string ⟨#[]⟩) (.slice a1 1 a2) (.slice none 0 0) (.slice none 0 0));exact bodyPost_ret (v:= .agg #[.int .i64 8,.string ⟨#[]⟩,.slice a1 1 a2,.slice none 0 0,.slice none 0 0]) (by simp [results,Zh,go_sem,d0,d1,d2,d3,d4]) rfl (qS HPW.out HF5.out HP5.out HX5.out _ _ _ _ _)
theorem rX(f:Nat)(t:Tk)(r:List Tk)(w:World)(p tb:Nat)(hl:4*(t::r).length≤f)(h:Ps w p tb (t::r))(n0:isP [98,114,101,97,107] t=false)(n1:isP [99,111,110,116,105,110,117,101] t=false)(n2:isP [114,101,116,117,114,110] t=false)(n3:isP [112,114,105,110,116] t=false)(y:isP [116,114,97,112] t=true):
  Calls Zd 204 #[.pointer (some ⟨p,0,none⟩)] w (eH (StH w.heap.size) w p tb (aW f (t::r))):=by
 have HPW:=Za h.lt;have HNE:Hid (w.heap.size≠p):=by show _≠_;have:=h.lt;omega
 have hb0:Below w.heap.size w (w.alloc (.cells #[.int .i64 0,.string ⟨#[]⟩,.slice none 0 0,.slice none 0 0,.slice none 0 0] 60)):=bA;have HF0:Hid (SFr p w (w.alloc (.cells #[.int .i64 0,.string ⟨#[]⟩,.slice none 0 0,.slice none 0 0,.slice none 0 0] 60))):=Zb hb0;have HR0:=Za (Ze w [.int .i64 0,.string ⟨#[]⟩,.slice none 0 0,.slice none 0 0,.slice none 0 0] 60);have HP0:=Za (h.old hb0);clear hb0;obtain⟨R,hR⟩:∃R,aW f (t::r)=R:=⟨_,rfl⟩;rw[hR];have HRR:=Za hR;clear hR;have HN0:=Za n0;have HT0:Hid (∀w1,Ps w1 p tb (t::r)→_):=fun w1 h1=>aO p tb t r [98,114,101,97,107] w1 h1 n0
 have HN1:=Za n1;have HT1:Hid (∀w1,Ps w1 p tb (t::r)→_):=fun w1 h1=>aO p tb t r [99,111,110,116,105,110,117,101] w1 h1 n1
 have HN2:=Za n2;have HT2:Hid (∀w1,Ps w1 p tb (t::r)→_):=fun w1 h1=>aO p tb t r [114,101,116,117,114,110] w1 h1 n2
 have HN3:=Za n3;have HT3:Hid (∀w1,Ps w1 p tb (t::r)→_):=fun w1 h1=>aO p tb t r [112,114,105,110,116] w1 h1 n3
 have HY:=Za y;have HV:Hid (∀w1,Ps w1 p tb (t::r)→_):=fun w1 h1=>bE p tb t r [116,114,97,112] w1 h1 y
 rw[Zc]at hl;have hE:=jl f;have HC:Hid (∀w1,Ps w1 p tb r→_):=fun w1 h1=>hE r w1 p tb (by omega) h1
 clear hE;clear hl n0 n1 n2 n3 y;clear h;go_enter Zf,Zg
 go_wp2_with fail
 refine(HT0.out _ HP0.out).mono ?_;rintro e w1 ⟨rfl,hb⟩;have HF1:=Za (HF0.out.trans (Zb hb));have HP1:=Za (HP0.out.old hb);have HR1:=Za (HR0.out.old hb);clear hb;go_wp2_with fail
 refine(HT1.out _ HP1.out).mono ?_;rintro e w2 ⟨rfl,hb⟩;have HF2:=Za (HF1.out.trans (Zb hb));have HP2:=Za (HP1.out.old hb);have HR2:=Za (HR1.out.old hb);clear hb;go_wp2_with fail
 refine(HT2.out _ HP2.out).mono ?_;rintro e w3 ⟨rfl,hb⟩;have HF3:=Za (HF2.out.trans (Zb hb));have HP3:=Za (HP2.out.old hb);have HR3:=Za (HR2.out.old hb);clear hb;go_wp2_with fail
 refine(HT3.out _ HP3.out).mono ?_;rintro e w4 ⟨rfl,hb⟩;have HF4:=Za (HF3.out.trans (Zb hb));have HP4:=Za (HP3.out.old hb);have HR4:=Za (HR3.out.old hb);clear hb;go_wp2_with fail
 refine(HV.out _ HP4.out).mono ?_;rintro e w5 ⟨rfl,hf,hp⟩;have HF5:=Za (HF4.out.trans hf);have HP5:=Za hp;have HR5:=Za (HR4.out.sfr hf HNE.out);clear hf hp;go_wp2_with fail
 refine(HC.out _ HP5.out).mono ?_;intro e w6 he
 cases hA:bq f r with
 |error n=>
  rw[hA]at he;obtain⟨hf,rfl⟩:=he;have HF:=Za (HF5.out.trans hf);have e1:aW f (t::r)= .error n:=by unfold aW;rw[aH HN0.out];dsimp only;rw[aH HN1.out];dsimp only;rw[aH HN2.out];dsimp only;rw[aH HN3.out];dsimp only;rw[aQ HY.out];dsimp only;rw[hA]
  have e2:=HRR.out.symm.trans e1;subst e2;clear e1 hf;unfold az;go_wp2_with fail
  exact⟨rfl,HF.out,rfl⟩
 |ok q=>
  obtain⟨x,r2⟩:=q;rw[hA]at he;obtain⟨hf,v,rfl,hp,hv⟩:=he;have hv:aJ (w5.heap.size≤ ·) w6 [x] v:=hv;obtain⟨a1,a2,rfl⟩:=hv.shape;have HX6:=Za (hv.up (show w.heap.size+1≤w5.heap.size from HR5.out.lt));clear hv;have HF6:=Za (HF5.out.trans hf);have HP6:=Za hp;have HR6:=Za (HR5.out.sfr hf HNE.out);clear hf hp;have HA6:=Za hA;clear hA;obtain⟨⟨x0,x1,x2,x3,x4⟩,xf0,xf1,xf2,xf3,xf4⟩:=bL HR6.out;have xlt:=HR6.out.lt;go_wp2_with fail
  have e1:aW f (t::r)= .ok (.mk 9 [] [x] [] [],r2):=by unfold aW;rw[aH HN0.out];dsimp only;rw[aH HN1.out];dsimp only;rw[aH HN2.out];dsimp only;rw[aH HN3.out];dsimp only;rw[aQ HY.out];dsimp only;rw[HA6.out]
  have e2:=HRR.out.symm.trans e1;subst e2;obtain⟨⟨d0,d1,d2,d3,d4⟩,_⟩:=bL (i7 HR6.out (.int .i64 9) (.string ⟨#[]⟩) (.slice a1 1 a2) (.slice none 0 0) (.slice none 0 0));exact bodyPost_ret (v:= .agg #[.int .i64 9,.string ⟨#[]⟩,.slice a1 1 a2,.slice none 0 0,.slice none 0 0]) (by simp [results,Zh,go_sem,d0,d1,d2,d3,d4]) rfl (qS HPW.out HF6.out HP6.out HX6.out _ _ _ _ _)
theorem oe(f:Nat)(t:Tk)(r:List Tk)(w:World)(p tb:Nat)(hl:4*(t::r).length≤f)(h:Ps w p tb (t::r))(n0:isP [98,114,101,97,107] t=false)(n1:isP [99,111,110,116,105,110,117,101] t=false)(n2:isP [114,101,116,117,114,110] t=false)(n3:isP [112,114,105,110,116] t=false)(n4:isP [116,114,97,112] t=false)(n:Int)(hnm:dK (t::r)= .error n):
  Calls Zd 204 #[.pointer (some ⟨p,0,none⟩)] w (eH (StH w.heap.size) w p tb (aW f (t::r))):=by
 have HPW:=Za h.lt;have HNE:Hid (w.heap.size≠p):=by show _≠_;have:=h.lt;omega
 have hb0:Below w.heap.size w (w.alloc (.cells #[.int .i64 0,.string ⟨#[]⟩,.slice none 0 0,.slice none 0 0,.slice none 0 0] 60)):=bA;have HF0:Hid (SFr p w (w.alloc (.cells #[.int .i64 0,.string ⟨#[]⟩,.slice none 0 0,.slice none 0 0,.slice none 0 0] 60))):=Zb hb0;have HR0:=Za (Ze w [.int .i64 0,.string ⟨#[]⟩,.slice none 0 0,.slice none 0 0,.slice none 0 0] 60);have HP0:=Za (h.old hb0);clear hb0;obtain⟨R,hR⟩:∃R,aW f (t::r)=R:=⟨_,rfl⟩;rw[hR];have HRR:=Za hR;clear hR;have HN0:=Za n0;have HT0:Hid (∀w1,Ps w1 p tb (t::r)→_):=fun w1 h1=>aO p tb t r [98,114,101,97,107] w1 h1 n0
 have HN1:=Za n1;have HT1:Hid (∀w1,Ps w1 p tb (t::r)→_):=fun w1 h1=>aO p tb t r [99,111,110,116,105,110,117,101] w1 h1 n1
 have HN2:=Za n2;have HT2:Hid (∀w1,Ps w1 p tb (t::r)→_):=fun w1 h1=>aO p tb t r [114,101,116,117,114,110] w1 h1 n2
 have HN3:=Za n3;have HT3:Hid (∀w1,Ps w1 p tb (t::r)→_):=fun w1 h1=>aO p tb t r [112,114,105,110,116] w1 h1 n3
 have HN4:=Za n4;have HT4:Hid (∀w1,Ps w1 p tb (t::r)→_):=fun w1 h1=>aO p tb t r [116,114,97,112] w1 h1 n4
 rw[Zc]at hl;have HNM:Hid (∀w1,Ps w1 p tb (t::r)→_):=fun w1 h1=>dl p tb (t::r) w1 h1
 have HNE2:=Za hnm;clear hnm;clear hl n0 n1 n2 n3 n4;clear h;go_enter Zf,Zg
 go_wp2_with fail
 refine(HT0.out _ HP0.out).mono ?_;rintro e w1 ⟨rfl,hb⟩;have HF1:=Za (HF0.out.trans (Zb hb));have HP1:=Za (HP0.out.old hb);have HR1:=Za (HR0.out.old hb);clear hb;go_wp2_with fail
 refine(HT1.out _ HP1.out).mono ?_;rintro e w2 ⟨rfl,hb⟩;have HF2:=Za (HF1.out.trans (Zb hb));have HP2:=Za (HP1.out.old hb);have HR2:=Za (HR1.out.old hb);clear hb;go_wp2_with fail
 refine(HT2.out _ HP2.out).mono ?_;rintro e w3 ⟨rfl,hb⟩;have HF3:=Za (HF2.out.trans (Zb hb));have HP3:=Za (HP2.out.old hb);have HR3:=Za (HR2.out.old hb);clear hb;go_wp2_with fail
 refine(HT3.out _ HP3.out).mono ?_;rintro e w4 ⟨rfl,hb⟩;have HF4:=Za (HF3.out.trans (Zb hb));have HP4:=Za (HP3.out.old hb);have HR4:=Za (HR3.out.old hb);clear hb;go_wp2_with fail
 refine(HT4.out _ HP4.out).mono ?_;rintro e w5 ⟨rfl,hb⟩;have HF5:=Za (HF4.out.trans (Zb hb));have HP5:=Za (HP4.out.old hb);have HR5:=Za (HR4.out.old hb);clear hb;go_wp2_with fail
 refine(HNM.out _ HP5.out).mono ?_;intro e w6 he;rw[HNE2.out]at he;obtain⟨hf,rfl⟩:=he;have HF:=Za (HF5.out.trans hf);have e1:aW f (t::r)= .error n:=by unfold aW;rw[aH HN0.out];dsimp only;rw[aH HN1.out];dsimp only;rw[aH HN2.out];dsimp only;rw[aH HN3.out];dsimp only;rw[aH HN4.out];dsimp only;rw[HNE2.out]
 have e2:=HRR.out.symm.trans e1;subst e2;clear e1 hf;unfold az;go_wp2_with fail
 exact⟨rfl,HF.out,rfl⟩
theorem qu(f:Nat)(t:Tk)(r:List Tk)(w:World)(p tb:Nat)(hl:4*(t::r).length≤f)(h:Ps w p tb (t::r))(n0:isP [98,114,101,97,107] t=false)(n1:isP [99,111,110,116,105,110,117,101] t=false)(n2:isP [114,101,116,117,114,110] t=false)(n3:isP [112,114,105,110,116] t=false)(n4:isP [116,114,97,112] t=false)(s:Bs)(u:Tk)(q:List Tk)(hnm:dK (t::r)= .ok (s,u::q))(yo:isP [40] u=true):
  Calls Zd 204 #[.pointer (some ⟨p,0,none⟩)] w (eH (StH w.heap.size) w p tb (aW f (t::r))):=by
 have HPW:=Za h.lt;have HNE:Hid (w.heap.size≠p):=by show _≠_;have:=h.lt;omega
 have hb0:Below w.heap.size w (w.alloc (.cells #[.int .i64 0,.string ⟨#[]⟩,.slice none 0 0,.slice none 0 0,.slice none 0 0] 60)):=bA;have HF0:Hid (SFr p w (w.alloc (.cells #[.int .i64 0,.string ⟨#[]⟩,.slice none 0 0,.slice none 0 0,.slice none 0 0] 60))):=Zb hb0;have HR0:=Za (Ze w [.int .i64 0,.string ⟨#[]⟩,.slice none 0 0,.slice none 0 0,.slice none 0 0] 60);have HP0:=Za (h.old hb0);clear hb0;obtain⟨R,hR⟩:∃R,aW f (t::r)=R:=⟨_,rfl⟩;rw[hR];have HRR:=Za hR;clear hR;have HN0:=Za n0;have HT0:Hid (∀w1,Ps w1 p tb (t::r)→_):=fun w1 h1=>aO p tb t r [98,114,101,97,107] w1 h1 n0
 have HN1:=Za n1;have HT1:Hid (∀w1,Ps w1 p tb (t::r)→_):=fun w1 h1=>aO p tb t r [99,111,110,116,105,110,117,101] w1 h1 n1
 have HN2:=Za n2;have HT2:Hid (∀w1,Ps w1 p tb (t::r)→_):=fun w1 h1=>aO p tb t r [114,101,116,117,114,110] w1 h1 n2
 have HN3:=Za n3;have HT3:Hid (∀w1,Ps w1 p tb (t::r)→_):=fun w1 h1=>aO p tb t r [112,114,105,110,116] w1 h1 n3
 have HN4:=Za n4;have HT4:Hid (∀w1,Ps w1 p tb (t::r)→_):=fun w1 h1=>aO p tb t r [116,114,97,112] w1 h1 n4
 rw[Zc]at hl;have HNM:Hid (∀w1,Ps w1 p tb (t::r)→_):=fun w1 h1=>dl p tb (t::r) w1 h1
 have HNQ:=Za hnm;have hql:=fD hnm;simp only[Zc]at hql;have HYO:=Za yo;have HTO:Hid (∀w1,Ps w1 p tb (u::q)→_):=fun w1 h1=>bE p tb u q [40] w1 h1 yo
 have hA:=(io f).2.2.2.2;have HC:Hid (∀w1,Ps w1 p tb q→_):=fun w1 h1=>hA q w1 p tb (by omega) h1
 clear yo hA;clear hnm hql;clear hl n0 n1 n2 n3 n4;clear h;go_enter Zf,Zg
 go_wp2_with fail
 refine(HT0.out _ HP0.out).mono ?_;rintro e w1 ⟨rfl,hb⟩;have HF1:=Za (HF0.out.trans (Zb hb));have HP1:=Za (HP0.out.old hb);have HR1:=Za (HR0.out.old hb);clear hb;go_wp2_with fail
 refine(HT1.out _ HP1.out).mono ?_;rintro e w2 ⟨rfl,hb⟩;have HF2:=Za (HF1.out.trans (Zb hb));have HP2:=Za (HP1.out.old hb);have HR2:=Za (HR1.out.old hb);clear hb;go_wp2_with fail
 refine(HT2.out _ HP2.out).mono ?_;rintro e w3 ⟨rfl,hb⟩;have HF3:=Za (HF2.out.trans (Zb hb));have HP3:=Za (HP2.out.old hb);have HR3:=Za (HR2.out.old hb);clear hb;go_wp2_with fail
 refine(HT3.out _ HP3.out).mono ?_;rintro e w4 ⟨rfl,hb⟩;have HF4:=Za (HF3.out.trans (Zb hb));have HP4:=Za (HP3.out.old hb);have HR4:=Za (HR3.out.old hb);clear hb;go_wp2_with fail
 refine(HT4.out _ HP4.out).mono ?_;rintro e w5 ⟨rfl,hb⟩;have HF5:=Za (HF4.out.trans (Zb hb));have HP5:=Za (HP4.out.old hb);have HR5:=Za (HR4.out.old hb);clear hb;go_wp2_with fail
 refine(HNM.out _ HP5.out).mono ?_;intro e w6 he;rw[HNQ.out]at he;obtain⟨hf,v,rfl,hp,hv⟩:=he;have hv:v= .string (aB s):=hv;subst hv;have HF6:=Za (HF5.out.trans hf);have HP6:=Za hp;have HR6:=Za (HR5.out.sfr hf HNE.out);clear hf hp;go_wp2_with fail
 refine(HTO.out _ HP6.out).mono ?_;rintro e w7 ⟨rfl,hf,hp⟩;have HF7:=Za (HF6.out.trans hf);have HP7:=Za hp;have HR7:=Za (HR6.out.sfr hf HNE.out);clear hf hp;go_wp2_with fail
 refine(HC.out _ HP7.out).mono ?_;intro e w8 he
 cases hA:eP f q with
 |error n=>
  rw[hA]at he;obtain⟨hf,rfl⟩:=he;have HF:=Za (HF7.out.trans hf);have e1:aW f (t::r)= .error n:=by unfold aW;rw[aH HN0.out];dsimp only;rw[aH HN1.out];dsimp only;rw[aH HN2.out];dsimp only;rw[aH HN3.out];dsimp only;rw[aH HN4.out];dsimp only;rw[HNQ.out];dsimp only;rw[aQ HYO.out];dsimp only;rw[hA]
  have e2:=HRR.out.symm.trans e1;subst e2;clear e1 hf;unfold az;go_wp2_with fail
  exact⟨rfl,HF.out,rfl⟩
 |ok q=>
  obtain⟨xs,r2⟩:=q;rw[hA]at he;obtain⟨hf,v,rfl,hp,hv⟩:=he;have hv:aJ (w7.heap.size≤ ·) w8 xs v:=hv;obtain⟨a1,a2,rfl⟩:=hv.shape;have HX8:=Za (hv.up (show w.heap.size+1≤w7.heap.size from HR7.out.lt));clear hv;have HF8:=Za (HF7.out.trans hf);have HP8:=Za hp;have HR8:=Za (HR7.out.sfr hf HNE.out);clear hf hp;have HA8:=Za hA;clear hA;obtain⟨⟨x0,x1,x2,x3,x4⟩,xf0,xf1,xf2,xf3,xf4⟩:=bL HR8.out;have xlt:=HR8.out.lt;go_wp2_with fail
  have e1:aW f (t::r)= .ok (.mk 10 [] [.mk 5 0 0 s xs] [] [],r2):=by unfold aW;rw[aH HN0.out];dsimp only;rw[aH HN1.out];dsimp only;rw[aH HN2.out];dsimp only;rw[aH HN3.out];dsimp only;rw[aH HN4.out];dsimp only;rw[HNQ.out];dsimp only;rw[aQ HYO.out];dsimp only;rw[HA8.out]
  have e2:=HRR.out.symm.trans e1;subst e2;obtain⟨⟨d0,d1,d2,d3,d4⟩,_⟩:=bL ((i7 HR8.out (.int .i64 10) (.string ⟨#[]⟩) (.slice (some ⟨w8.heap.size,0,none⟩) 1 1) (.slice none 0 0) (.slice none 0 0)).alloc (.cells #[.int .i64 5,.int .i64 0,.int .i64 0,.string (aB s),.slice a1 xs.length a2] 27));exact bodyPost_ret (v:= .agg #[.int .i64 10,.string ⟨#[]⟩,.slice (some ⟨w8.heap.size,0,none⟩) 1 1,.slice none 0 0,.slice none 0 0]) (by simp [results,Zh,go_sem,d0,d1,d2,d3,d4]) rfl (pp (x:= .mk 5 0 0 s xs) HPW.out HF8.out HP8.out HX8.out dz HR8.out.lt _ _ _ _ _)
theorem tZ(f:Nat)(t:Tk)(r:List Tk)(w:World)(p tb:Nat)(hl:4*(t::r).length≤f)(h:Ps w p tb (t::r))(n0:isP [98,114,101,97,107] t=false)(n1:isP [99,111,110,116,105,110,117,101] t=false)(n2:isP [114,101,116,117,114,110] t=false)(n3:isP [112,114,105,110,116] t=false)(n4:isP [116,114,97,112] t=false)(s:Bs)(u:Tk)(q:List Tk)(hnm:dK (t::r)= .ok (s,u::q))(no:isP [40] u=false)(ni:isP [91] u=false):
  Calls Zd 204 #[.pointer (some ⟨p,0,none⟩)] w (eH (StH w.heap.size) w p tb (aW f (t::r))):=by
 have HPW:=Za h.lt;have HNE:Hid (w.heap.size≠p):=by show _≠_;have:=h.lt;omega
 have hb0:Below w.heap.size w (w.alloc (.cells #[.int .i64 0,.string ⟨#[]⟩,.slice none 0 0,.slice none 0 0,.slice none 0 0] 60)):=bA;have HF0:Hid (SFr p w (w.alloc (.cells #[.int .i64 0,.string ⟨#[]⟩,.slice none 0 0,.slice none 0 0,.slice none 0 0] 60))):=Zb hb0;have HR0:=Za (Ze w [.int .i64 0,.string ⟨#[]⟩,.slice none 0 0,.slice none 0 0,.slice none 0 0] 60);have HP0:=Za (h.old hb0);clear hb0;obtain⟨R,hR⟩:∃R,aW f (t::r)=R:=⟨_,rfl⟩;rw[hR];have HRR:=Za hR;clear hR;have HN0:=Za n0;have HT0:Hid (∀w1,Ps w1 p tb (t::r)→_):=fun w1 h1=>aO p tb t r [98,114,101,97,107] w1 h1 n0
 have HN1:=Za n1;have HT1:Hid (∀w1,Ps w1 p tb (t::r)→_):=fun w1 h1=>aO p tb t r [99,111,110,116,105,110,117,101] w1 h1 n1
 have HN2:=Za n2;have HT2:Hid (∀w1,Ps w1 p tb (t::r)→_):=fun w1 h1=>aO p tb t r [114,101,116,117,114,110] w1 h1 n2
 have HN3:=Za n3;have HT3:Hid (∀w1,Ps w1 p tb (t::r)→_):=fun w1 h1=>aO p tb t r [112,114,105,110,116] w1 h1 n3
 have HN4:=Za n4;have HT4:Hid (∀w1,Ps w1 p tb (t::r)→_):=fun w1 h1=>aO p tb t r [116,114,97,112] w1 h1 n4
 rw[Zc]at hl;have HNM:Hid (∀w1,Ps w1 p tb (t::r)→_):=fun w1 h1=>dl p tb (t::r) w1 h1
 have HNQ:=Za hnm;have hql:=fD hnm;simp only[Zc]at hql;have HNO:=Za no;have HNI:=Za ni;have HTO:Hid (∀w1,Ps w1 p tb (u::q)→_):=fun w1 h1=>aO p tb u q [40] w1 h1 no
 have HTI:Hid (∀w1,Ps w1 p tb (u::q)→_):=fun w1 h1=>aO p tb u q [91] w1 h1 ni
 have hE:=(io f).2.1;have HC:Hid (∀q2 w1,4*q2.length+2≤f→Ps w1 p tb q2→_):=fun q2 w1 h0 h1=>hE q2 w1 p tb h0 h1
 have HLQ:Hid (4*(u::q).length+4≤f):=by show _≤_;simp only[Zc];omega
 clear no ni hE;clear hnm hql;clear hl n0 n1 n2 n3 n4;clear h;go_enter Zf,Zg
 go_wp2_with fail
 refine(HT0.out _ HP0.out).mono ?_;rintro e w1 ⟨rfl,hb⟩;have HF1:=Za (HF0.out.trans (Zb hb));have HP1:=Za (HP0.out.old hb);have HR1:=Za (HR0.out.old hb);clear hb;go_wp2_with fail
 refine(HT1.out _ HP1.out).mono ?_;rintro e w2 ⟨rfl,hb⟩;have HF2:=Za (HF1.out.trans (Zb hb));have HP2:=Za (HP1.out.old hb);have HR2:=Za (HR1.out.old hb);clear hb;go_wp2_with fail
 refine(HT2.out _ HP2.out).mono ?_;rintro e w3 ⟨rfl,hb⟩;have HF3:=Za (HF2.out.trans (Zb hb));have HP3:=Za (HP2.out.old hb);have HR3:=Za (HR2.out.old hb);clear hb;go_wp2_with fail
 refine(HT3.out _ HP3.out).mono ?_;rintro e w4 ⟨rfl,hb⟩;have HF4:=Za (HF3.out.trans (Zb hb));have HP4:=Za (HP3.out.old hb);have HR4:=Za (HR3.out.old hb);clear hb;go_wp2_with fail
 refine(HT4.out _ HP4.out).mono ?_;rintro e w5 ⟨rfl,hb⟩;have HF5:=Za (HF4.out.trans (Zb hb));have HP5:=Za (HP4.out.old hb);have HR5:=Za (HR4.out.old hb);clear hb;go_wp2_with fail
 refine(HNM.out _ HP5.out).mono ?_;intro e w6 he;rw[HNQ.out]at he;obtain⟨hf,v,rfl,hp,hv⟩:=he;have hv:v= .string (aB s):=hv;subst hv;have HF6:=Za (HF5.out.trans hf);have HP6:=Za hp;have HR6:=Za (HR5.out.sfr hf HNE.out);clear hf hp;go_wp2_with fail
 refine(HTO.out _ HP6.out).mono ?_;rintro e w7 ⟨rfl,hb⟩;have HF7:=Za (HF6.out.trans (Zb hb));have HP7:=Za (HP6.out.old hb);have HR7:=Za (HR6.out.old hb);clear hb;go_wp2_with fail
 refine(HTI.out _ HP7.out).mono ?_;rintro e w8 ⟨rfl,hb⟩;have HF8:=Za (HF7.out.trans (Zb hb));have HP8:=Za (HP7.out.old hb);have HR8:=Za (HR7.out.old hb);clear hb;go_upto_region 18 with(fail)
 have hba:Below w8.heap.size w8 (w8.alloc (.cells #[.string ⟨#[61]⟩] 9)):=bA;have HF9:=Za (HF8.out.trans (Zb hba));have HP9:=Za (HP8.out.old hba);have HR9:=Za (HR8.out.old hba);have HWN:=Za (cM p tb (u::q) [61] _ HP9.out w8.heap.size 1 ((Ze w8 [.string ⟨#[61]⟩] 9).at 0 _ rfl));clear hba;go_wp2_with fail
 refine(HWN.out).mono ?_;intro e w10 he
 cases hA:aV [61] (u::q)with
 |error n=>
  rw[hA]at he;obtain⟨hf,rfl⟩:=he;have HF:=Za (HF9.out.trans hf);have e1:aW f (t::r)= .error n:=by unfold aW;rw[aH HN0.out];dsimp only;rw[aH HN1.out];dsimp only;rw[aH HN2.out];dsimp only;rw[aH HN3.out];dsimp only;rw[aH HN4.out];dsimp only;rw[HNQ.out];dsimp only;rw[aH HNO.out];dsimp only;rw[aH HNI.out];dsimp only;rw[hA]
  have e2:=HRR.out.symm.trans e1;subst e2;clear e1 hf;unfold az;go_wp2_with fail
  exact⟨rfl,HF.out,rfl⟩
 |ok q2=>
  rw[hA]at he;obtain⟨hf,rfl,hp⟩:=he;have HF10:=Za (HF9.out.trans hf);have HP10:=Za hp;have HR10:=Za (HR9.out.sfr hf HNE.out);clear hf hp;have HA10:=Za hA;clear hA;clear HWN;have hlq:4*q2.length+2≤f:=by have h1:=bC HA10.out;have h2:=HLQ.out;omega
  go_wp2_with fail
  refine(HC.out q2 _ hlq HP10.out).mono ?_;intro e w11 he
  cases hA:ar f 1 q2 with
  |error n=>
   rw[hA]at he;obtain⟨hf,rfl⟩:=he;have HF:=Za (HF10.out.trans hf);have e1:aW f (t::r)= .error n:=by unfold aW;rw[aH HN0.out];dsimp only;rw[aH HN1.out];dsimp only;rw[aH HN2.out];dsimp only;rw[aH HN3.out];dsimp only;rw[aH HN4.out];dsimp only;rw[HNQ.out];dsimp only;rw[aH HNO.out];dsimp only;rw[aH HNI.out];dsimp only;rw[HA10.out];dsimp only;rw[hA]
   have e2:=HRR.out.symm.trans e1;subst e2;clear e1 hf;unfold az;go_wp2_with fail
   exact⟨rfl,HF.out,rfl⟩
  |ok q=>
   obtain⟨x,r2⟩:=q;rw[hA]at he;obtain⟨hf,v,rfl,hp,hv⟩:=he;obtain⟨s3,rfl,hx,hn⟩:=hv;obtain⟨a1,a2,rfl⟩:=hx.shape;have HX11:=Za (hx.up (show w.heap.size+1≤w10.heap.size from HR10.out.lt));have HN:=Za hn;clear hx hn;have HF11:=Za (HF10.out.trans hf);have HP11:=Za hp;have HR11:=Za (HR10.out.sfr hf HNE.out);clear hf hp;have HA11:=Za hA;clear hA;clear hlq;obtain⟨⟨x0,x1,x2,x3,x4⟩,xf0,xf1,xf2,xf3,xf4⟩:=bL HR11.out;have xlt:=HR11.out.lt;go_wp2_with fail
   have e1:aW f (t::r)= .ok (.mk 1 s [x] [] [],r2):=by unfold aW;rw[aH HN0.out];dsimp only;rw[aH HN1.out];dsimp only;rw[aH HN2.out];dsimp only;rw[aH HN3.out];dsimp only;rw[aH HN4.out];dsimp only;rw[HNQ.out];dsimp only;rw[aH HNO.out];dsimp only;rw[aH HNI.out];dsimp only;rw[HA10.out];dsimp only;rw[HA11.out]
   have e2:=HRR.out.symm.trans e1;subst e2;obtain⟨⟨d0,d1,d2,d3,d4⟩,_⟩:=bL ((i7 HR11.out (.int .i64 1) (.string (aB s)) (.slice (some ⟨w11.heap.size,0,none⟩) 1 1) (.slice none 0 0) (.slice none 0 0)).alloc (.cells #[.int .i64 x.kind,.int .i64 x.op,.int .i64 x.n,.string (aB x.name),.slice a1 x.args.length a2] 27));exact bodyPost_ret (v:= .agg #[.int .i64 1,.string (aB s),.slice (some ⟨w11.heap.size,0,none⟩) 1 1,.slice none 0 0,.slice none 0 0]) (by simp [results,Zh,go_sem,d0,d1,d2,d3,d4]) rfl (pp HPW.out HF11.out HP11.out HX11.out HN.out HR11.out.lt _ _ _ _ _)
structure VY2 (p tb b0 be:Nat)(nm:Bs)(x y:Ex)(xa:Option Addr)(xc:Nat)(l r2:List Tk)(err:Option Int)(W:World)(L:Nat→Bool)(sa:Option Addr)(sc:Nat)(nb:Nat)(z51 z52 z53 z54 z55 z56:Value)(wx:World):Prop where
 ord:L 6=true→∀j,j<6→L j=true
 p4_3:L 4=true→L 3=true
 p5_4:L 5=true→L 4=true
 p6_4:L 6=true→L 4=true
 c0:L 0=true→z51= .string (aB nm)
 c1:L 1=true→z52=exV x (.slice xa x.args.length xc)
 c2:L 2=true→z53= .pointer (some ⟨p,0,none⟩)
 c3:L 3=true→z54=exV y (.slice sa y.args.length sc)
 c4:L 4=true→z55= .slice (some ⟨nb,0,none⟩) 2 2
 c5:L 5=true→z56= .agg #[.int .i64 2,.string (aB nm),.slice (some ⟨nb,0,none⟩) 2 2,.slice none 0 0,.slice none 0 0]
 fr:AFr p b0 W.heap.size W wx
 pa:L 3=false→Ps wx p tb l
 pb:L 3=true→Ps wx p tb r2
 e:aG wx be [.int .i64 x.kind,.int .i64 x.op,.int .i64 x.n,.string (aB x.name),.slice xa x.args.length xc] 27
 r0:L 6=false→aG wx b0 [.int .i64 0,.string ⟨#[]⟩,.slice none 0 0,.slice none 0 0,.slice none 0 0] 60
 r1:L 6=true→aG wx b0 [.int .i64 2,.string (aB nm),.slice (some ⟨nb,0,none⟩) 2 2,.slice none 0 0,.slice none 0 0] 60
 xx:aJ (b0+1≤ ·) wx x.args (.slice xa x.args.length xc)
 ya:L 3=true→aJ (b0+1≤ ·) wx y.args (.slice sa y.args.length sc)
 yn:L 3=true→I64 y.n
 xy:L 4=true→aJ (b0+1≤ ·) wx [x,y] (.slice (some ⟨nb,0,none⟩) 2 2)
def IY2(p tb b0 be:Nat)(nm:Bs)(x y:Ex)(xa:Option Addr)(xc:Nat)(l r2:List Tk)(err:Option Int)(W:World)(q1 q5 q6 q7 q8 q9 q10 q11 q12 q13 q14 q15 q16 q17 q18 q19 q20 q21 q22 q23 q24 q25 q26 q27 q28 q29 q30 q31 q32 q33 q34 q35 q36 q37 q38 q39 q40 q41 q42 q43 q44 q45 q46 q47 q48 q49 q50 q57 q58 q59 q60 q61 q62 q63 q64:Value)(L:Nat→Bool)(a':Act)(w':World):Prop:=
 ∃sa:Option Addr,∃sc:Nat,∃nb:Nat,∃z51 z52 z53 z54 z55 z56:Value,VY2 p tb b0 be nm x y xa xc l r2 err W L sa sc nb z51 z52 z53 z54 z55 z56 w'∧a'=⟨[.pointer (some ⟨p,0,none⟩),q1,.pointer (some ⟨b0,0,none⟩),.string (aB nm),.pointer (some ⟨be,0,none⟩),q5,q6,q7,q8,q9,q10,q11,q12,q13,q14,q15,q16,q17,q18,q19,q20,q21,q22,q23,q24,q25,q26,q27,q28,q29,q30,q31,q32,q33,q34,q35,q36,q37,q38,q39,q40,q41,q42,q43,q44,q45,q46,q47,q48,q49,q50,z51,z52,z53,z54,z55,z56,q57,q58,q59,q60,q61,q62,q63,q64].toArray,[]⟩
def RY2(p tb b0 be:Nat)(nm:Bs)(x y:Ex)(xa:Option Addr)(xc:Nat)(l r2:List Tk)(err:Option Int)(W:World)(q1 q5 q6 q7 q8 q9 q10 q11 q12 q13 q14 q15 q16 q17 q18 q19 q20 q21 q22 q23 q24 q25 q26 q27 q28 q29 q30 q31 q32 q33 q34 q35 q36 q37 q38 q39 q40 q41 q42 q43 q44 q45 q46 q47 q48 q49 q50 q57 q58 q59 q60 q61 q62 q63 q64:Value)(a':Act)(w':World):Prop:=
 ∃sa:Option Addr,∃sc:Nat,∃nb:Nat,(AFr p b0 W.heap.size W w'∧Ps w' p tb r2∧aG w' b0 [.int .i64 2,.string (aB nm),.slice (some ⟨nb,0,none⟩) 2 2,.slice none 0 0,.slice none 0 0] 60∧aJ (b0+1≤ ·) w' [x,y] (.slice (some ⟨nb,0,none⟩) 2 2))∧a'=⟨[.pointer (some ⟨p,0,none⟩),q1,.pointer (some ⟨b0,0,none⟩),.string (aB nm),.pointer (some ⟨be,0,none⟩),q5,q6,q7,q8,q9,q10,q11,q12,q13,q14,q15,q16,q17,q18,q19,q20,q21,q22,q23,q24,q25,q26,q27,q28,q29,q30,q31,q32,q33,q34,q35,q36,q37,q38,q39,q40,q41,q42,q43,q44,q45,q46,q47,q48,q49,q50,.string (aB nm),exV x (.slice xa x.args.length xc),.pointer (some ⟨p,0,none⟩),exV y (.slice sa y.args.length sc),.slice (some ⟨nb,0,none⟩) 2 2,.agg #[.int .i64 2,.string (aB nm),.slice (some ⟨nb,0,none⟩) 2 2,.slice none 0 0,.slice none 0 0],q57,q58,q59,q60,q61,q62,q63,q64].toArray,[]⟩
theorem xP(p tb b0 be:Nat)(nm:Bs)(x y:Ex)(xa:Option Addr)(xc:Nat)(l r2:List Tk)(err:Option Int)(W:World)(hps:Ps W p tb l)(he:aG W be [.int .i64 x.kind,.int .i64 x.op,.int .i64 x.n,.string (aB x.name),.slice xa x.args.length xc] 27)(hr:aG W b0 [.int .i64 0,.string ⟨#[]⟩,.slice none 0 0,.slice none 0 0,.slice none 0 0] 60)(hx:aJ (b0+1≤ ·) W x.args (.slice xa x.args.length xc))(hxn:I64 x.n)(hpb:p<b0)(hbe:b0<be)(HE:Hid (∀w1,Ps w1 p tb l→Calls Zd 27 #[.pointer (some ⟨p,0,none⟩)] w1 fun e w'=>match err with|some n=>e=az n∧SFr p w1 w'|none=> ∃s,e= .returned (exV y s)∧SFr p w1 w'∧Ps w' p tb r2∧aJ (w1.heap.size≤ ·) w' y.args s∧I64 y.n))(Q:Exit→Act→World→Prop)(hQ:∀n a' w',err=some n→a'.defers=[]→AFr p b0 W.heap.size W w'→Q (.panic [{v:= .iface 110 (.agg #[.int .i64 n]),recovered:=false}]) a' w')(q1 q5 q6 q7 q8 q9 q10 q11 q12 q13 q14 q15 q16 q17 q18 q19 q20 q21 q22 q23 q24 q25 q26 q27 q28 q29 q30 q31 q32 q33 q34 q35 q36 q37 q38 q39 q40 q41 q42 q43 q44 q45 q46 q47 q48 q49 q50 q51 q52 q53 q54 q55 q56 q57 q58 q59 q60 q61 q62 q63 q64:Value)(J K':Act→World→Prop)(hJ:∀a' w',RY2 p tb b0 be nm x y xa xc l r2 err W q1 q5 q6 q7 q8 q9 q10 q11 q12 q13 q14 q15 q16 q17 q18 q19 q20 q21 q22 q23 q24 q25 q26 q27 q28 q29 q30 q31 q32 q33 q34 q35 q36 q37 q38 q39 q40 q41 q42 q43 q44 q45 q46 q47 q48 q49 q50 q57 q58 q59 q60 q61 q62 q63 q64 a' w'→J a' w')(hM:∀a' w',Met J a' w'→K' a' w'):
  Code.wp Zd ((Tryz.f204.body.bind (gZ 17)).getD .skip) (Exit.then K' Q) ⟨[.pointer (some ⟨p,0,none⟩),q1,.pointer (some ⟨b0,0,none⟩),.string (aB nm),.pointer (some ⟨be,0,none⟩),q5,q6,q7,q8,q9,q10,q11,q12,q13,q14,q15,q16,q17,q18,q19,q20,q21,q22,q23,q24,q25,q26,q27,q28,q29,q30,q31,q32,q33,q34,q35,q36,q37,q38,q39,q40,q41,q42,q43,q44,q45,q46,q47,q48,q49,q50,q51,q52,q53,q54,q55,q56,q57,q58,q59,q60,q61,q62,q63,q64].toArray,[]⟩ W:=by
 have HPS:=Za hps;have HEX:=Za he;have HRO:=Za hr;have HXX:=Za hx;have HXN:=Za hxn;have HQ:=Za hQ;have hew:be<W.heap.size:=he.lt;clear hps he hr hx hxn hQ
 conv=>arg 2;whnf
 (try dsimp only);refine db (by kernel_rfl) (by kernel_rfl) (IY2 p tb b0 be nm x y xa xc l r2 err W q1 q5 q6 q7 q8 q9 q10 q11 q12 q13 q14 q15 q16 q17 q18 q19 q20 q21 q22 q23 q24 q25 q26 q27 q28 q29 q30 q31 q32 q33 q34 q35 q36 q37 q38 q39 q40 q41 q42 q43 q44 q45 q46 q47 q48 q49 q50 q57 q58 q59 q60 q61 q62 q63 q64) ?_ ?_ ?_
 ·exact⟨none,0,0,q51,q52,q53,q54,q55,q56,⟨(fun h=>by cases h),(fun h=>by cases h),(fun h=>by cases h),(fun h=>by cases h),(fun h=>by cases h),(fun h=>by cases h),(fun h=>by cases h),(fun h=>by cases h),(fun h=>by cases h),(fun h=>by cases h),((AFr.refl p b0 W.heap.size W).old (Below.refl _ _).drew),(fun _=>HPS.out.old (Below.refl _ _).drew),(fun h=>by cases h),(HEX.out.old (Below.refl _ _).drew),(fun _=>HRO.out.old (Below.refl _ _).drew),(fun h=>by cases h),(HXX.out.old (Below.refl _ _).drew),(fun h=>by cases h),(fun h=>by cases h),(fun h=>by cases h)⟩,rfl⟩
 ·intro L act wx k hI hk hl hd
  obtain⟨sa,sc,nb,z51,z52,z53,z54,z55,z56,hV,rfl⟩:=hI;have hk:k=0∨k=1∨k=2∨k=3∨k=4∨k=5∨k=6:=by
   have:k<7:=hk;omega
  rcases hk with rfl|rfl|rfl|rfl|rfl|rfl|rfl
  ·have nl:=kf hV.ord hl
   refine am _ rfl rfl (fun K' hK=> ?_)
   conv=>arg 2;whnf
   go_wp2_with fail
   exact⟨sa,sc,nb,.string (aB nm),z52,z53,z54,z55,z56,⟨kl nl,kq hV.p4_3,kq hV.p5_4,kq hV.p6_4,(fun _=>rfl),kc hV.c1,kc hV.c2,kc hV.c3,kc hV.c4,kc hV.c5,hV.fr,(fun h0=>hV.pa (kb h0)),kc hV.pb,hV.e,(fun h0=>hV.r0 (kb h0)),kl nl,hV.xx,kc hV.ya,kc hV.yn,kc hV.xy⟩,rfl⟩
  ·have nl:=kf hV.ord hl
   have hx:=hV.e;have e0:=hx.at 0 _ rfl;have e1:=hx.at 1 _ rfl;have e2:=hx.at 2 _ rfl;have e3:=hx.at 3 _ rfl;have e4:=hx.at 4 _ rfl;refine am _ rfl rfl (fun K' hK=> ?_)
   conv=>arg 2;whnf
   go_wp2_with fail
   exact⟨sa,sc,nb,z51,exV x (.slice xa x.args.length xc),z53,z54,z55,z56,⟨kl nl,kq hV.p4_3,kq hV.p5_4,kq hV.p6_4,kc hV.c0,(fun _=>rfl),kc hV.c2,kc hV.c3,kc hV.c4,kc hV.c5,hV.fr,(fun h0=>hV.pa (kb h0)),kc hV.pb,hV.e,(fun h0=>hV.r0 (kb h0)),kl nl,hV.xx,kc hV.ya,kc hV.yn,kc hV.xy⟩,rfl⟩
  ·have nl:=kf hV.ord hl
   refine am _ rfl rfl (fun K' hK=> ?_)
   conv=>arg 2;whnf
   go_wp2_with fail
   exact⟨sa,sc,nb,z51,z52,.pointer (some ⟨p,0,none⟩),z54,z55,z56,⟨kl nl,kq hV.p4_3,kq hV.p5_4,kq hV.p6_4,kc hV.c0,kc hV.c1,(fun _=>rfl),kc hV.c3,kc hV.c4,kc hV.c5,hV.fr,(fun h0=>hV.pa (kb h0)),kc hV.pb,hV.e,(fun h0=>hV.r0 (kb h0)),kl nl,hV.xx,kc hV.ya,kc hV.yn,kc hV.xy⟩,rfl⟩
  ·have nl:=kf hV.ord hl
   have d2:L 2=true:=hd _ rfl ⟨2,.data⟩ (by simp) rfl;obtain rfl:=(hV.c2 d2).symm;have hps:=hV.pa hl;refine am _ rfl rfl (fun K' hK=> ?_)
   conv=>arg 2;whnf
   have HPX:=Za hps;have HFX:=Za hV.fr;clear hps;go_wp2_with fail
   refine(HE.out _ HPX.out).mono ?_;intro e w7 he
   cases err with
   |some n=>
    obtain⟨rfl,hf⟩:=he;unfold az;have HF:=Za (HFX.out.trans (AFr.of_sfr hf));clear hf hK hV;go_wp2_with fail
    exact HQ.out n _ _ rfl rfl HF.out
   |none=>
   obtain⟨s1,rfl,hf7,hp7,hx7,hn7⟩:=he;obtain⟨a7,c7,rfl⟩:=hx7.shape;go_wp2_with fail
   exact⟨a7,c7,nb,z51,z52,.pointer (some ⟨p,0,none⟩),exV y (.slice (a7) y.args.length (c7)),z55,z56,⟨kl nl,(fun _=>ak L 3),kq hV.p5_4,kq hV.p6_4,kc hV.c0,kc hV.c1,kc hV.c2,(fun _=>rfl),kc hV.c4,kc hV.c5,(hV.fr.trans (AFr.of_sfr hf7)),(ks),(fun _=>hp7),(hV.e.sfr hf7 (by omega)),(fun h=>(hV.r0 (kb h)).sfr hf7 (by omega)),kl nl,(hV.xx.keep (hf7.fresh (by omega))),(fun _=>hx7.mono (fun b hb=>by have h1:wx.heap.size≤b:=hb;have h2:=hV.fr.size;omega)),(fun _=>hn7),(kn hV.p4_3 hl)⟩,rfl⟩
  ·have nl:=kf hV.ord hl
   have d1:L 1=true:=hd _ rfl ⟨1,.data⟩ (by simp) rfl;obtain rfl:=(hV.c1 d1).symm;have d3:L 3=true:=hd _ rfl ⟨3,.data⟩ (by simp) rfl;obtain rfl:=(hV.c3 d3).symm;have hal:Below wx.heap.size wx (wx.alloc (.cells #[.int .i64 x.kind,.int .i64 x.op,.int .i64 x.n,.string (aB x.name),.slice xa x.args.length xc,.int .i64 y.kind,.int .i64 y.op,.int .i64 y.n,.string (aB y.name),.slice sa y.args.length sc] 27)):=bA;have hfs:=hV.fr.size;refine am _ rfl rfl (fun K' hK=> ?_)
   conv=>arg 2;whnf
   go_wp2_with fail
   exact⟨sa,sc,wx.heap.size,z51,exV x (.slice xa x.args.length xc),z53,exV y (.slice sa y.args.length sc),.slice (some ⟨(wx.heap.size),0,none⟩) 2 2,z56,⟨kl nl,(kd (d3)),(fun _=>ak L 4),(fun _=>ak L 4),kc hV.c0,kc hV.c1,kc hV.c2,kc hV.c3,(fun _=>rfl),(kn hV.p5_4 hl),(AFr.old (hV.fr) hal),(fun h0=>Ps.old (hV.pa (kb h0)) hal),(fun h0=>Ps.old (hV.pb (kb h0)) hal),(aG.old (hV.e) hal),(fun h0=>aG.old (hV.r0 (kb h0)) hal),kl nl,(aJ.old hal (hV.xx)),(fun h0=>aJ.old hal (hV.ya (kb h0))),(fun h0=>(hV.yn (kb h0))),(fun _=>ex_box2 hV.xx HXN.out (hV.ya d3) (hV.yn d3) (by omega))⟩,rfl⟩
  ·have nl:=kf hV.ord hl
   have d0:L 0=true:=hd _ rfl ⟨0,.data⟩ (by simp) rfl;obtain rfl:=(hV.c0 d0).symm;have d4:L 4=true:=hd _ rfl ⟨4,.data⟩ (by simp) rfl;obtain rfl:=(hV.c4 d4).symm;refine am _ rfl rfl (fun K' hK=> ?_)
   conv=>arg 2;whnf
   go_wp2_with fail
   exact⟨sa,sc,nb,.string (aB nm),z52,z53,z54,.slice (some ⟨nb,0,none⟩) 2 2,.agg #[.int .i64 2,.string (aB nm),.slice (some ⟨nb,0,none⟩) 2 2,.slice none 0 0,.slice none 0 0],⟨kl nl,kq hV.p4_3,(kd (d4)),kq hV.p6_4,kc hV.c0,kc hV.c1,kc hV.c2,kc hV.c3,kc hV.c4,(fun _=>rfl),hV.fr,(fun h0=>hV.pa (kb h0)),kc hV.pb,hV.e,(fun h0=>hV.r0 (kb h0)),kl nl,hV.xx,kc hV.ya,kc hV.yn,kc hV.xy⟩,rfl⟩
  ·have before:∀j,j<6→L j=true:=fun j hj=>by
    have hj:j=0∨j=1∨j=2∨j=3∨j=4∨j=5:=by omega
    rcases hj with rfl|rfl|rfl|rfl|rfl|rfl
    ·exact hd _ rfl ⟨0,.phase⟩ (by simp) rfl
    ·exact hd _ rfl ⟨1,.phase⟩ (by simp) rfl
    ·exact hd _ rfl ⟨2,.phase⟩ (by simp) rfl
    ·exact hd _ rfl ⟨3,.chain⟩ (by simp) rfl
    ·exact hd _ rfl ⟨4,.phase⟩ (by simp) rfl
    ·exact hd _ rfl ⟨5,.data⟩ (by simp) rfl
   have d3:L 3=true:=hd _ rfl ⟨3,.chain⟩ (by simp) rfl;have d5:L 5=true:=hd _ rfl ⟨5,.data⟩ (by simp) rfl;obtain rfl:=(hV.c5 d5).symm;have hr:=hV.r0 hl;have x0:=hr.at 0 _ rfl;have x1:=hr.at 1 _ rfl;have x2:=hr.at 2 _ rfl;have x3:=hr.at 3 _ rfl;have x4:=hr.at 4 _ rfl;have f0:=hr.fz 0;have f1:=hr.fz 1;have f2:=hr.fz 2;have f3:=hr.fz 3;have f4:=hr.fz 4;have hrl:=hr.lt;refine am _ rfl rfl (fun K' hK=> ?_)
   conv=>arg 2;whnf
   go_wp2_with fail
   exact⟨sa,sc,nb,z51,z52,z53,z54,z55,.agg #[.int .i64 2,.string (aB nm),.slice (some ⟨nb,0,none⟩) 2 2,.slice none 0 0,.slice none 0 0],⟨(fun _ j hj=>by rw[aI L (show j≠6 by omega)];exact before j hj),kq hV.p4_3,kq hV.p5_4,(kd (before 4 (by decide))),kc hV.c0,kc hV.c1,kc hV.c2,kc hV.c3,kc hV.c4,kc hV.c5,(((((hV.fr.set _ _).set _ _).set _ _).set _ _).set _ _),(fun h=>by rw[aI L (by decide)]at h;rw[d3]at h;cases h),(fun _=>ps5 (hV.pb d3) hpb _ _ _ _ _),(((((hV.e.other (by omega) _ _).other (by omega) _ _).other (by omega) _ _).other (by omega) _ _).other (by omega) _ _),(ks),(fun _=>i7 hr _ _ _ _ _),(hV.xx.keep (gW _ (by show ¬b0+1≤b0;omega) _ _ _ _ _)),(fun _=>(hV.ya d3).keep (gW _ (by show ¬b0+1≤b0;omega) _ _ _ _ _)),(fun _=>hV.yn d3),(fun _=>(hV.xy (before 4 (by decide))).keep (gW _ (by show ¬b0+1≤b0;omega) _ _ _ _ _))⟩,rfl⟩
 ·intro L act wx hI hall
  obtain⟨sa,sc,nb,z51,z52,z53,z54,z55,z56,hV,rfl⟩:=hI;obtain rfl:=(hV.c0 (hall 0 (by decide))).symm;obtain rfl:=(hV.c1 (hall 1 (by decide))).symm;obtain rfl:=(hV.c2 (hall 2 (by decide))).symm;obtain rfl:=(hV.c3 (hall 3 (by decide))).symm;obtain rfl:=(hV.c4 (hall 4 (by decide))).symm;obtain rfl:=(hV.c5 (hall 5 (by decide))).symm;exact hM _ _ (Met.intro (hJ _ _ ⟨sa,sc,nb,⟨hV.fr,hV.pb (hall 3 (by decide)),hV.r1 (hall 6 (by decide)),hV.xy (hall 4 (by decide))⟩,rfl⟩))
end Go.Proofs.YtcfpfnoldgnloaaGreatDoor
