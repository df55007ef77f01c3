/-
  function's closure, and commas with it: a function's parameters. Conditions: the parser and the variables lie in memory.
-/
import Derived.Test.YtcfpfnoldgnloaaGreatDoorPn05
set_option linter.unusedVariables false
set_option linter.unusedSimpArgs false
namespace Go.Proofs.YtcfpfnoldgnloaaGreatDoor
open Go.RowKit
set_option maxHeartbeats 20000000
set_option maxRecDepth 100000
open Go.Lib renaming hid→Za
open Go.Proofs.Tryz renaming prog→Zb
open List renaming length_cons→Zc,getElem?_eq_getElem→Zi,getD_eq_getElem?_getD→Zj
open Nat renaming le_refl→Zd,le_succ→Zh
open SFr renaming of_below→Ze
open Below renaming refl→Zf
open Ac renaming new→Zg
theorem Wv {w V:World}{p tb:Nat}{l:List Tk}{k:Int}{nm:Bs}{xs:List Ex}{ts es:List St}{a t e:Value}(HF:SFr p w V)(HP:Ps V p tb l)(HA:Ag (w.heap.size+1≤ ·) V xs a)(HT:Bn (w.heap.size+1≤ ·) V ts t)(HE:Bn (w.heap.size+1≤ ·) V es e):
  Dt (StH w.heap.size) w p tb (.ok (.mk k nm xs ts es,l)) (.returned (.agg #[.int .i64 k,.string (Aa nm),a,t,e])) V:=
 ⟨HF,_,rfl,HP,_,_,_,rfl,HA.up (Zh _),HT.up (Zh _),HE.up (Zh _)⟩
theorem Jz {f:Nat}{t:Tk}{r:List Tk}(y:isP [105,102] t=true):Da (f+1) (t::r)=match Bz f r with
  | .error e=> .error e
  | .ok (x,r)=>match Cx f r with
   | .error e=> .error e
   | .ok (a,r)=>match Bk [101,108,115,101] r with
    |none=> .ok (.mk 3 [] [x] a [],r)
    |some r=>match Cx f r with
     | .error e=> .error e
     | .ok (b,r)=> .ok (.mk 3 [] [x] a b,r):=by
 rw[Da,Ao y];dsimp only
 cases Bz f r with
 |error e=>rfl
 |ok q=>
  obtain⟨x,q⟩:=q;dsimp only;unfold Cx
  cases Ak [123] q with
  |error e=>rfl
  |ok q=>
   dsimp only
   cases Cz f [] q with
   |error e=>rfl
   |ok q=>
    obtain⟨a,q⟩:=q;dsimp only
    cases Bk [101,108,115,101] q with
    |none=>rfl
    |some q=>
     dsimp only
     cases Ak [123] q with
     |error e=>rfl
     |ok q=>
      dsimp only
      cases Cz f [] q with
      |error e=>rfl
      |ok q=>rfl
theorem Im {f:Nat}{t:Tk}{r:List Tk}(n:isP [105,102] t=false)(y:isP [119,104,105,108,101] t=true):Da (f+1) (t::r)=match Bz f r with
  | .error e=> .error e
  | .ok (x,r)=>match Cx f r with
   | .error e=> .error e
   | .ok (a,r)=> .ok (.mk 4 [] [x] a [],r):=by
 rw[Da,Ad n];dsimp only;rw[Ao y];dsimp only
 cases Bz f r with
 |error e=>rfl
 |ok q=>
  obtain⟨x,q⟩:=q;dsimp only;unfold Cx
  cases Ak [123] q with
  |error e=>rfl
  |ok q=>
   dsimp only
   cases Cz f [] q with
   |error e=>rfl
   |ok q=>rfl
theorem Hs {f:Nat}{t:Tk}{r:List Tk}(n:isP [105,102] t=false)(n2:isP [119,104,105,108,101] t=false):Da (f+1) (t::r)=match An f (t::r)with
  | .error e=> .error e
  | .ok (x,r)=>match Ak [59] r with
   | .error e=> .error e
   | .ok r=> .ok (x,r):=by
 rw[Da,Ad n];dsimp only;rw[Ad n2];rfl
theorem st_finx {w V:World}{p tb:Nat}{l:List Tk}{x:St}{a t e:Value}(HF:SFr p w V)(HP:Ps V p tb l)(HA:Ag (w.heap.size+1≤ ·) V x.args a)(HT:Bn (w.heap.size+1≤ ·) V x.thn t)(HE:Bn (w.heap.size+1≤ ·) V x.els e):
  Dt (StH w.heap.size) w p tb (.ok (x,l)) (.returned (.agg #[.int .i64 x.kind,.string (Aa x.name),a,t,e])) V:=
 ⟨HF,_,rfl,HP,_,_,_,rfl,HA.up (Zh _),HT.up (Zh _),HE.up (Zh _)⟩
theorem Er {f:Nat}{l r:List Tk}{x:Ex}(h:Bz f l= .ok (x,r)):r.length<l.length:=by
 unfold Bz at h
 cases h1:Ak [40] l with
 |error e=>rw[h1]at h;cases h
 |ok q=>
  rw[h1]at h;dsimp only at h
  cases h2:Aq f 1 q with
  |error e=>rw[h2]at h;cases h
  |ok z=>
   obtain⟨y,z⟩:=z;rw[h2]at h;dsimp only at h
   cases h3:Ak [41] z with
   |error e=>rw[h3]at h;cases h
   |ok u=>
    rw[h3]at h;injection h with h;injection h with _ h;subst h
    have:=Az h1;have:=(Db f).1 _ _ _ _ h2;have:=Az h3;omega
theorem bQ(f:Nat)(hB:Mk f)(hBL:∀l x r,Cx f l= .ok (x,r)→r.length<l.length)(t:Tk)(r:List Tk)(w:World)(p tb:Nat)(hl:4*(t::r).length≤f)(h:Ps w p tb (t::r))(y:isP [105,102] t=true):
  Calls Zb 165 #[.pointer (some ⟨p,0,none⟩)] w (Dt (StH w.heap.size) w p tb (Da (f+1) (t::r))):=by
 have HPW:=Za h.lt;have HNE:Hid (w.heap.size≠p):=by show _≠_;have:=h.lt;omega
 have hb0:Below w.heap.size w (w.alloc (.cells #[.int .i64 0,.string ⟨#[]⟩,.slice none 0 0,.slice none 0 0,.slice none 0 0] 60)):=bA;have HF0:Hid (SFr p w (w.alloc (.cells #[.int .i64 0,.string ⟨#[]⟩,.slice none 0 0,.slice none 0 0,.slice none 0 0] 60))):=Ze hb0;have HR0:=Za (Zg w [.int .i64 0,.string ⟨#[]⟩,.slice none 0 0,.slice none 0 0,.slice none 0 0] 60);have HP0:=Za (h.old hb0);clear hb0;obtain⟨R,hR⟩:∃R,Da (f+1) (t::r)=R:=⟨_,rfl⟩;rw[hR];have HRR:=Za hR;clear hR;have HY:=Za y;have HV:Hid (∀w1,Ps w1 p tb (t::r)→_):=fun w1 h1=>Bc p tb t r [105,102] w1 h1 y
 rw[Zc]at hl;have hI:=Kd f;have HC:Hid (∀w1,Ps w1 p tb r→_):=fun w1 h1=>hI r w1 p tb (by omega) h1
 have HL:=Za hl;have HB:=Za hB;have HBL:=Za hBL;clear hl hI y hB hBL;clear h;go_enter Tryz.func165,Tryz.ntmps165
 go_wp2_with fail
 refine(HV.out _ HP0.out).mono ?_;rintro e w1 ⟨rfl,hf,hp⟩;have HF1:=Za (HF0.out.trans hf);have HP1:=Za hp;have HR1:=Za (HR0.out.sfr hf HNE.out);clear hf hp;go_wp2_with fail
 refine(HC.out _ HP1.out).mono ?_;intro e w2 he
 cases hA:Bz f r with
 |error n=>
  rw[hA]at he;obtain⟨hf,rfl⟩:=he;have HF:=Za (HF1.out.trans hf);have e1:Da (f+1) (t::r)= .error n:=by rw[Jz HY.out,hA]
  have e2:=HRR.out.symm.trans e1;subst e2;clear e1 hf;unfold Ay;go_wp2_with fail
  exact⟨rfl,HF.out,rfl⟩
 |ok q=>
  obtain⟨x,r1⟩:=q;rw[hA]at he;obtain⟨hf,v,rfl,hp,hv⟩:=he;have hv:Ag (w1.heap.size≤ ·) w2 [x] v:=hv;obtain⟨a1,a2,rfl⟩:=hv.shape;have HX2:=Za (hv.up (show w.heap.size+1≤w1.heap.size from HR1.out.lt));clear hv;have HF2:=Za (HF1.out.trans hf);have HP2:=Za hp;have HR2:=Za (HR1.out.sfr hf HNE.out);clear hf hp;have HA2:=Za hA;clear hA;obtain⟨⟨x0,x1,x2,x3,x4⟩,xf0,xf1,xf2,xf3,xf4⟩:=Bf HR2.out;have xlt:=HR2.out.lt;go_upto_region 3 with(fail)
  obtain⟨V,hV⟩:∃V,((w2.setCell ⟨w.heap.size,0,none⟩ (.int .i64 3)).setCell ⟨w.heap.size,2,none⟩ (.slice a1 1 a2))=V:=⟨_,rfl⟩;rw[hV];have HR3:=Za (hV ▸ ((HR2.out).set 0 (.int .i64 3)).set 2 (.slice a1 1 a2));have HF3:=Za (hV ▸ ((HF2.out).setNew (Zd _) 0 (.int .i64 3)).setNew (Zd _) 2 (.slice a1 1 a2));have HP3:=Za (hV ▸ ((HP2.out).other HPW.out 0 (.int .i64 3)).other HPW.out 2 (.slice a1 1 a2));have HX3:=Za (hV ▸ ((HX2.out).keep (Am _ (by show ¬w.heap.size+1≤w.heap.size;omega) 0 (.int .i64 3))).keep (Am _ (by show ¬w.heap.size+1≤w.heap.size;omega) 2 (.slice a1 1 a2)));clear hV;obtain⟨w3,hWW⟩:∃w3,w3=V:=⟨_,rfl⟩;subst hWW;clear x0 x1 x2 x3 x4 xf0 xf1 xf2 xf3 xf4 xlt;have hl1:4*r1.length≤f:=by have h1:=Er HA2.out;have h2:=HL.out;omega
  obtain⟨⟨y0,y1,y2,y3,y4⟩,yf0,yf1,yf2,yf3,yf4⟩:=Bf HR3.out;have ylt:=HR3.out.lt;go_wp2_with fail
  refine(HB.out r1 _ p tb hl1 HP3.out).mono ?_;intro e w4 he
  cases hA:Cx f r1 with
  |error n=>
   rw[hA]at he;obtain⟨hf,rfl⟩:=he;have HF:=Za (HF3.out.trans hf);have e1:Da (f+1) (t::r)= .error n:=by rw[Jz HY.out,HA2.out];dsimp only;rw[hA]
   have e2:=HRR.out.symm.trans e1;subst e2;clear e1 hf;unfold Ay;go_wp2_with fail
   exact⟨rfl,HF.out,rfl⟩
  |ok q=>
   obtain⟨ta,r2⟩:=q;rw[hA]at he;obtain⟨hf,v,rfl,hp,hv⟩:=he;have hv:Bn (w3.heap.size≤ ·) w4 ta v:=hv;obtain⟨b1,b2,rfl⟩:=hv.shape;have HT4:=Za (hv.up (show w.heap.size+1≤w3.heap.size from HR3.out.lt));clear hv hl1 y0 y1 y2 y3 y4 yf0 yf1 yf2 yf3 yf4 ylt;have HF4:=Za (HF3.out.trans hf);have HP4:=Za hp;have HR4:=Za (HR3.out.sfr hf HNE.out);have HX4:=Za (HX3.out.keep (hf.fresh (by have:=HPW.out;omega)));clear hf hp;have HA4:=Za hA;clear hA;obtain⟨⟨z0,z1,z2,z3,z4⟩,zf0,zf1,zf2,zf3,zf4⟩:=Bf HR4.out;have zlt:=HR4.out.lt;go_upto_region 4 with(fail)
   obtain⟨V,hV⟩:∃V,(w4.setCell ⟨w.heap.size,3,none⟩ (.slice b1 ta.length b2))=V:=⟨_,rfl⟩;rw[hV];have HR5:=Za (hV ▸ (HR4.out).set 3 (.slice b1 ta.length b2));have HF5:=Za (hV ▸ (HF4.out).setNew (Zd _) 3 (.slice b1 ta.length b2));have HP5:=Za (hV ▸ (HP4.out).other HPW.out 3 (.slice b1 ta.length b2));have HX5:=Za (hV ▸ (HX4.out).keep (Am _ (by show ¬w.heap.size+1≤w.heap.size;omega) 3 (.slice b1 ta.length b2)));have HT5:=Za (hV ▸ (HT4.out).keep (Am _ (by show ¬w.heap.size+1≤w.heap.size;omega) 3 (.slice b1 ta.length b2)));clear hV;obtain⟨w5,hWW⟩:∃w5,w5=V:=⟨_,rfl⟩;subst hWW;clear z0 z1 z2 z3 z4 zf0 zf1 zf2 zf3 zf4 zlt;obtain⟨u,r2,rfl⟩:=HP5.out.ends.ne
   cases he:isP [101,108,115,101] u with
   |false=>
    have HTE:=Za (Ai p tb u r2 [101,108,115,101] _ HP5.out he);have HNE2:=Za he;clear he;go_wp2_with fail
    refine(HTE.out).mono ?_;rintro e w6 ⟨rfl,hb⟩;have HF6:=Za (HF5.out.trans (Ze hb));have HP6:=Za (HP5.out.old hb);have HR6:=Za (HR5.out.old hb);have HX6:=Za (HX5.out.old hb);have HT6:=Za (HT5.out.old hb);clear hb;go_wp2_with fail
    have e1:Da (f+1) (t::r)= .ok (.mk 3 [] [x] ta [],u::r2):=by rw[Jz HY.out,HA2.out];dsimp only;rw[HA4.out];dsimp only;rw[Ad HNE2.out]
    have e2:=HRR.out.symm.trans e1;subst e2;obtain⟨⟨d0,d1,d2,d3,d4⟩,_⟩:=Bf HR6.out;exact bodyPost_ret (v:= .agg #[.int .i64 3,.string ⟨#[]⟩,.slice a1 1 a2,.slice b1 ta.length b2,.slice none 0 0]) (by simp [results,Tryz.results165,go_sem,d0,d1,d2,d3,d4]) rfl (Wv HF6.out HP6.out HX6.out HT6.out Bn.zero)
   |true=>
    have HTE:=Za (Bc p tb u r2 [101,108,115,101] _ HP5.out he);have HYE:=Za he;have hl2:4*r2.length≤f:=by
     have h1:=Er HA2.out;have h3:=HBL.out _ _ _ HA4.out;rw[Zc]at h3;have h2:=HL.out;omega
    clear he;go_wp2_with fail
    refine(HTE.out).mono ?_;rintro e w6 ⟨rfl,hf,hp⟩;have HF6:=Za (HF5.out.trans hf);have HP6:=Za hp;have HR6:=Za (HR5.out.sfr hf HNE.out);have HX6:=Za (HX5.out.keep (hf.fresh (by have:=HPW.out;omega)));have HT6:=Za (HT5.out.keep (hf.fresh (by have:=HPW.out;omega)));clear hf hp;go_wp2_with fail
    refine(HB.out r2 _ p tb hl2 HP6.out).mono ?_;intro e w7 he
    cases hA:Cx f r2 with
    |error n=>
     rw[hA]at he;obtain⟨hf,rfl⟩:=he;have HF:=Za (HF6.out.trans hf);have e1:Da (f+1) (t::r)= .error n:=by rw[Jz HY.out,HA2.out];dsimp only;rw[HA4.out];dsimp only;rw[Ao HYE.out];dsimp only;rw[hA]
     have e2:=HRR.out.symm.trans e1;subst e2;clear e1 hf;unfold Ay;go_wp2_with fail
     exact⟨rfl,HF.out,rfl⟩
    |ok q=>
     obtain⟨eb,r3⟩:=q;rw[hA]at he;obtain⟨hf,v,rfl,hp,hv⟩:=he;have hv:Bn (w6.heap.size≤ ·) w7 eb v:=hv;obtain⟨g1,g2,rfl⟩:=hv.shape;have HE7:=Za (hv.up (show w.heap.size+1≤w6.heap.size from HR6.out.lt));clear hv hl2;have HF7:=Za (HF6.out.trans hf);have HP7:=Za hp;have HR7:=Za (HR6.out.sfr hf HNE.out);have HX7:=Za (HX6.out.keep (hf.fresh (by have:=HPW.out;omega)));have HT7:=Za (HT6.out.keep (hf.fresh (by have:=HPW.out;omega)));clear hf hp;have HA7:=Za hA;clear hA;obtain⟨⟨q0,q1,q2,q3,q4⟩,qf0,qf1,qf2,qf3,qf4⟩:=Bf HR7.out;have qlt:=HR7.out.lt;go_wp2_with fail
     have HRF:=Za (HR7.out.set 4 (.slice g1 eb.length g2));have HFF:=Za (HF7.out.setNew (Zd _) 4 (.slice g1 eb.length g2));have HPF:=Za (HP7.out.other HPW.out 4 (.slice g1 eb.length g2));have HXF:=Za (HX7.out.keep (Am _ (by show ¬w.heap.size+1≤w.heap.size;omega) 4 (.slice g1 eb.length g2)));have HTF:=Za (HT7.out.keep (Am _ (by show ¬w.heap.size+1≤w.heap.size;omega) 4 (.slice g1 eb.length g2)));have HEF:=Za (HE7.out.keep (Am _ (by show ¬w.heap.size+1≤w.heap.size;omega) 4 (.slice g1 eb.length g2)));have e1:Da (f+1) (t::r)= .ok (.mk 3 [] [x] ta eb,r3):=by rw[Jz HY.out,HA2.out];dsimp only;rw[HA4.out];dsimp only;rw[Ao HYE.out];dsimp only;rw[HA7.out]
     have e2:=HRR.out.symm.trans e1;subst e2;obtain⟨⟨d0,d1,d2,d3,d4⟩,_⟩:=Bf HRF.out;exact bodyPost_ret (v:= .agg #[.int .i64 3,.string ⟨#[]⟩,.slice a1 1 a2,.slice b1 ta.length b2,.slice g1 eb.length g2]) (by simp [results,Tryz.results165,go_sem,d0,d1,d2,d3,d4]) rfl (Wv HFF.out HPF.out HXF.out HTF.out HEF.out)
theorem So(f:Nat)(hB:Mk f)(hBL:∀l x r,Cx f l= .ok (x,r)→r.length<l.length)(t:Tk)(r:List Tk)(w:World)(p tb:Nat)(hl:4*(t::r).length≤f)(h:Ps w p tb (t::r))(n:isP [105,102] t=false)(y:isP [119,104,105,108,101] t=true):
  Calls Zb 165 #[.pointer (some ⟨p,0,none⟩)] w (Dt (StH w.heap.size) w p tb (Da (f+1) (t::r))):=by
 have HPW:=Za h.lt;have HNE:Hid (w.heap.size≠p):=by show _≠_;have:=h.lt;omega
 have hb0:Below w.heap.size w (w.alloc (.cells #[.int .i64 0,.string ⟨#[]⟩,.slice none 0 0,.slice none 0 0,.slice none 0 0] 60)):=bA;have HF0:Hid (SFr p w (w.alloc (.cells #[.int .i64 0,.string ⟨#[]⟩,.slice none 0 0,.slice none 0 0,.slice none 0 0] 60))):=Ze hb0;have HR0:=Za (Zg w [.int .i64 0,.string ⟨#[]⟩,.slice none 0 0,.slice none 0 0,.slice none 0 0] 60);have HP0:=Za (h.old hb0);clear hb0;obtain⟨R,hR⟩:∃R,Da (f+1) (t::r)=R:=⟨_,rfl⟩;rw[hR];have HRR:=Za hR;clear hR;have HY:=Za y;have HV:Hid (∀w1,Ps w1 p tb (t::r)→_):=fun w1 h1=>Bc p tb t r [119,104,105,108,101] w1 h1 y
 rw[Zc]at hl;have hI:=Kd f;have HC:Hid (∀w1,Ps w1 p tb r→_):=fun w1 h1=>hI r w1 p tb (by omega) h1
 have HL:=Za hl;have HB:=Za hB;have HBL:=Za hBL;have HN1:=Za n;have HT0:Hid (∀w1,Ps w1 p tb (t::r)→_):=fun w1 h1=>Ai p tb t r [105,102] w1 h1 n
 clear hl hI y hB hBL n;clear h;go_enter Tryz.func165,Tryz.ntmps165
 go_wp2_with fail
 refine(HT0.out _ HP0.out).mono ?_;rintro e w1 ⟨rfl,hb⟩;have HF1:=Za (HF0.out.trans (Ze hb));have HP1:=Za (HP0.out.old hb);have HR1:=Za (HR0.out.old hb);clear hb;go_wp2_with fail
 refine(HV.out _ HP1.out).mono ?_;rintro e w2 ⟨rfl,hf,hp⟩;have HF2:=Za (HF1.out.trans hf);have HP2:=Za hp;have HR2:=Za (HR1.out.sfr hf HNE.out);clear hf hp;go_wp2_with fail
 refine(HC.out _ HP2.out).mono ?_;intro e w3 he
 cases hA:Bz f r with
 |error n=>
  rw[hA]at he;obtain⟨hf,rfl⟩:=he;have HF:=Za (HF2.out.trans hf);have e1:Da (f+1) (t::r)= .error n:=by rw[Im HN1.out HY.out,hA]
  have e2:=HRR.out.symm.trans e1;subst e2;clear e1 hf;unfold Ay;go_wp2_with fail
  exact⟨rfl,HF.out,rfl⟩
 |ok q=>
  obtain⟨x,r1⟩:=q;rw[hA]at he;obtain⟨hf,v,rfl,hp,hv⟩:=he;have hv:Ag (w2.heap.size≤ ·) w3 [x] v:=hv;obtain⟨a1,a2,rfl⟩:=hv.shape;have HX3:=Za (hv.up (show w.heap.size+1≤w2.heap.size from HR2.out.lt));clear hv;have HF3:=Za (HF2.out.trans hf);have HP3:=Za hp;have HR3:=Za (HR2.out.sfr hf HNE.out);clear hf hp;have HA3:=Za hA;clear hA;obtain⟨⟨x0,x1,x2,x3,x4⟩,xf0,xf1,xf2,xf3,xf4⟩:=Bf HR3.out;have xlt:=HR3.out.lt;go_upto_region 8 with(fail)
  obtain⟨V,hV⟩:∃V,((w3.setCell ⟨w.heap.size,0,none⟩ (.int .i64 4)).setCell ⟨w.heap.size,2,none⟩ (.slice a1 1 a2))=V:=⟨_,rfl⟩;rw[hV];have HR4:=Za (hV ▸ ((HR3.out).set 0 (.int .i64 4)).set 2 (.slice a1 1 a2));have HF4:=Za (hV ▸ ((HF3.out).setNew (Zd _) 0 (.int .i64 4)).setNew (Zd _) 2 (.slice a1 1 a2));have HP4:=Za (hV ▸ ((HP3.out).other HPW.out 0 (.int .i64 4)).other HPW.out 2 (.slice a1 1 a2));have HX4:=Za (hV ▸ ((HX3.out).keep (Am _ (by show ¬w.heap.size+1≤w.heap.size;omega) 0 (.int .i64 4))).keep (Am _ (by show ¬w.heap.size+1≤w.heap.size;omega) 2 (.slice a1 1 a2)));clear hV;obtain⟨w4,hWW⟩:∃w4,w4=V:=⟨_,rfl⟩;subst hWW;clear x0 x1 x2 x3 x4 xf0 xf1 xf2 xf3 xf4 xlt;have hl1:4*r1.length≤f:=by have h1:=Er HA3.out;have h2:=HL.out;omega
  obtain⟨⟨y0,y1,y2,y3,y4⟩,yf0,yf1,yf2,yf3,yf4⟩:=Bf HR4.out;have ylt:=HR4.out.lt;go_wp2_with fail
  refine(HB.out r1 _ p tb hl1 HP4.out).mono ?_;intro e w5 he
  cases hA:Cx f r1 with
  |error n=>
   rw[hA]at he;obtain⟨hf,rfl⟩:=he;have HF:=Za (HF4.out.trans hf);have e1:Da (f+1) (t::r)= .error n:=by rw[Im HN1.out HY.out,HA3.out];dsimp only;rw[hA]
   have e2:=HRR.out.symm.trans e1;subst e2;clear e1 hf;unfold Ay;go_wp2_with fail
   exact⟨rfl,HF.out,rfl⟩
  |ok q=>
   obtain⟨ta,r2⟩:=q;rw[hA]at he;obtain⟨hf,v,rfl,hp,hv⟩:=he;have hv:Bn (w4.heap.size≤ ·) w5 ta v:=hv;obtain⟨b1,b2,rfl⟩:=hv.shape;have HT5:=Za (hv.up (show w.heap.size+1≤w4.heap.size from HR4.out.lt));clear hv hl1 y0 y1 y2 y3 y4 yf0 yf1 yf2 yf3 yf4 ylt;have HF5:=Za (HF4.out.trans hf);have HP5:=Za hp;have HR5:=Za (HR4.out.sfr hf HNE.out);have HX5:=Za (HX4.out.keep (hf.fresh (by have:=HPW.out;omega)));clear hf hp;have HA5:=Za hA;clear hA;obtain⟨⟨z0,z1,z2,z3,z4⟩,zf0,zf1,zf2,zf3,zf4⟩:=Bf HR5.out;have zlt:=HR5.out.lt;go_wp2_with fail
   have HRF:=Za (HR5.out.set 3 (.slice b1 ta.length b2));have HFF:=Za (HF5.out.setNew (Zd _) 3 (.slice b1 ta.length b2));have HPF:=Za (HP5.out.other HPW.out 3 (.slice b1 ta.length b2));have HXF:=Za (HX5.out.keep (Am _ (by show ¬w.heap.size+1≤w.heap.size;omega) 3 (.slice b1 ta.length b2)));have HTF:=Za (HT5.out.keep (Am _ (by show ¬w.heap.size+1≤w.heap.size;omega) 3 (.slice b1 ta.length b2)));have e1:Da (f+1) (t::r)= .ok (.mk 4 [] [x] ta [],r2):=by rw[Im HN1.out HY.out,HA3.out];dsimp only;rw[HA5.out]
   have e2:=HRR.out.symm.trans e1;subst e2;obtain⟨⟨d0,d1,d2,d3,d4⟩,_⟩:=Bf HRF.out;exact bodyPost_ret (v:= .agg #[.int .i64 4,.string ⟨#[]⟩,.slice a1 1 a2,.slice b1 ta.length b2,.slice none 0 0]) (by simp [results,Tryz.results165,go_sem,d0,d1,d2,d3,d4]) rfl (Wv HFF.out HPF.out HXF.out HTF.out Bn.zero)
theorem Qm(f:Nat)(t:Tk)(r:List Tk)(w:World)(p tb:Nat)(hl:4*(t::r).length≤f)(h:Ps w p tb (t::r))(n:isP [105,102] t=false)(n2:isP [119,104,105,108,101] t=false):
  Calls Zb 165 #[.pointer (some ⟨p,0,none⟩)] w (Dt (StH w.heap.size) w p tb (Da (f+1) (t::r))):=by
 have HPW:=Za h.lt;have HNE:Hid (w.heap.size≠p):=by show _≠_;have:=h.lt;omega
 have hb0:Below w.heap.size w (w.alloc (.cells #[.int .i64 0,.string ⟨#[]⟩,.slice none 0 0,.slice none 0 0,.slice none 0 0] 60)):=bA;have HF0:Hid (SFr p w (w.alloc (.cells #[.int .i64 0,.string ⟨#[]⟩,.slice none 0 0,.slice none 0 0,.slice none 0 0] 60))):=Ze hb0;have HR0:=Za (Zg w [.int .i64 0,.string ⟨#[]⟩,.slice none 0 0,.slice none 0 0,.slice none 0 0] 60);have HP0:=Za (h.old hb0);clear hb0;obtain⟨R,hR⟩:∃R,Da (f+1) (t::r)=R:=⟨_,rfl⟩;rw[hR];have HRR:=Za hR;clear hR;have HN1:=Za n;have HN2:=Za n2;have HT0:Hid (∀w1,Ps w1 p tb (t::r)→_):=fun w1 h1=>Ai p tb t r [105,102] w1 h1 n
 have HT1:Hid (∀w1,Ps w1 p tb (t::r)→_):=fun w1 h1=>Ai p tb t r [119,104,105,108,101] w1 h1 n2
 have hS:=bW f;have HC:Hid (∀w1,Ps w1 p tb (t::r)→_):=fun w1 h1=>hS (t::r) w1 p tb hl h1
 clear hl hS n n2;clear h;go_enter Tryz.func165,Tryz.ntmps165
 go_wp2_with fail
 refine(HT0.out _ HP0.out).mono ?_;rintro e w1 ⟨rfl,hb⟩;have HF1:=Za (HF0.out.trans (Ze hb));have HP1:=Za (HP0.out.old hb);have HR1:=Za (HR0.out.old hb);clear hb;go_wp2_with fail
 refine(HT1.out _ HP1.out).mono ?_;rintro e w2 ⟨rfl,hb⟩;have HF2:=Za (HF1.out.trans (Ze hb));have HP2:=Za (HP1.out.old hb);have HR2:=Za (HR1.out.old hb);clear hb;go_wp2_with fail
 refine(HC.out _ HP2.out).mono ?_;intro e w3 he
 cases hA:An f (t::r)with
 |error n=>
  rw[hA]at he;obtain⟨hf,rfl⟩:=he;have HF:=Za (HF2.out.trans hf);have e1:Da (f+1) (t::r)= .error n:=by rw[Hs HN1.out HN2.out,hA]
  have e2:=HRR.out.symm.trans e1;subst e2;clear e1 hf;unfold Ay;go_wp2_with fail
  exact⟨rfl,HF.out,rfl⟩
 |ok q=>
  obtain⟨x,r2⟩:=q;rw[hA]at he;obtain⟨hf,v,rfl,hp,hv⟩:=he;obtain⟨va,vt,ve,rfl,hva,hvt,hve⟩:=hv;obtain⟨a1,a2,rfl⟩:=hva.shape;obtain⟨b1,b2,rfl⟩:=hvt.shape;obtain⟨g1,g2,rfl⟩:=hve.shape;have HX3:=Za (hva.up (show w.heap.size+1≤w2.heap.size from HR2.out.lt));have HT3:=Za (hvt.up (show w.heap.size+1≤w2.heap.size from HR2.out.lt));have HE3:=Za (hve.up (show w.heap.size+1≤w2.heap.size from HR2.out.lt));clear hva hvt hve;have HF3:=Za (HF2.out.trans hf);have HP3:=Za hp;have HR3:=Za (HR2.out.sfr hf HNE.out);clear hf hp;have HA3:=Za hA;clear hA;obtain⟨⟨x0,x1,x2,x3,x4⟩,xf0,xf1,xf2,xf3,xf4⟩:=Bf HR3.out;have xlt:=HR3.out.lt;go_upto_region 10 with(fail)
  obtain⟨V,hV⟩:∃V,(((((w3.setCell ⟨w.heap.size,0,none⟩ (.int .i64 x.kind)).setCell ⟨w.heap.size,1,none⟩ (.string (Aa x.name))).setCell ⟨w.heap.size,2,none⟩ (.slice a1 x.args.length a2)).setCell ⟨w.heap.size,3,none⟩ (.slice b1 x.thn.length b2)).setCell ⟨w.heap.size,4,none⟩ (.slice g1 x.els.length g2))=V:=⟨_,rfl⟩;rw[hV];have HR4:=Za (hV ▸ (((((HR3.out).set 0 (.int .i64 x.kind)).set 1 (.string (Aa x.name))).set 2 (.slice a1 x.args.length a2)).set 3 (.slice b1 x.thn.length b2)).set 4 (.slice g1 x.els.length g2));have HF4:=Za (hV ▸ (((((HF3.out).setNew (Zd _) 0 (.int .i64 x.kind)).setNew (Zd _) 1 (.string (Aa x.name))).setNew (Zd _) 2 (.slice a1 x.args.length a2)).setNew (Zd _) 3 (.slice b1 x.thn.length b2)).setNew (Zd _) 4 (.slice g1 x.els.length g2));have HP4:=Za (hV ▸ (((((HP3.out).other HPW.out 0 (.int .i64 x.kind)).other HPW.out 1 (.string (Aa x.name))).other HPW.out 2 (.slice a1 x.args.length a2)).other HPW.out 3 (.slice b1 x.thn.length b2)).other HPW.out 4 (.slice g1 x.els.length g2));have HX4:=Za (hV ▸ (((((HX3.out).keep (Am _ (by show ¬w.heap.size+1≤w.heap.size;omega) 0 (.int .i64 x.kind))).keep (Am _ (by show ¬w.heap.size+1≤w.heap.size;omega) 1 (.string (Aa x.name)))).keep (Am _ (by show ¬w.heap.size+1≤w.heap.size;omega) 2 (.slice a1 x.args.length a2))).keep (Am _ (by show ¬w.heap.size+1≤w.heap.size;omega) 3 (.slice b1 x.thn.length b2))).keep (Am _ (by show ¬w.heap.size+1≤w.heap.size;omega) 4 (.slice g1 x.els.length g2)))
  have HT4:=Za (hV ▸ (((((HT3.out).keep (Am _ (by show ¬w.heap.size+1≤w.heap.size;omega) 0 (.int .i64 x.kind))).keep (Am _ (by show ¬w.heap.size+1≤w.heap.size;omega) 1 (.string (Aa x.name)))).keep (Am _ (by show ¬w.heap.size+1≤w.heap.size;omega) 2 (.slice a1 x.args.length a2))).keep (Am _ (by show ¬w.heap.size+1≤w.heap.size;omega) 3 (.slice b1 x.thn.length b2))).keep (Am _ (by show ¬w.heap.size+1≤w.heap.size;omega) 4 (.slice g1 x.els.length g2)));have HE4:=Za (hV ▸ (((((HE3.out).keep (Am _ (by show ¬w.heap.size+1≤w.heap.size;omega) 0 (.int .i64 x.kind))).keep (Am _ (by show ¬w.heap.size+1≤w.heap.size;omega) 1 (.string (Aa x.name)))).keep (Am _ (by show ¬w.heap.size+1≤w.heap.size;omega) 2 (.slice a1 x.args.length a2))).keep (Am _ (by show ¬w.heap.size+1≤w.heap.size;omega) 3 (.slice b1 x.thn.length b2))).keep (Am _ (by show ¬w.heap.size+1≤w.heap.size;omega) 4 (.slice g1 x.els.length g2)));clear hV;obtain⟨w4,hWW⟩:∃w4,w4=V:=⟨_,rfl⟩;subst hWW;have hba:Below w4.heap.size w4 (w4.alloc (.cells #[.string ⟨#[59]⟩] 9)):=bA;have HF5:=Za (HF4.out.trans (Ze hba));have HP5:=Za (HP4.out.old hba);have HR5:=Za (HR4.out.old hba);have HX5:=Za (HX4.out.old hba);have HT5:=Za (HT4.out.old hba);have HE5:=Za (HE4.out.old hba);have HWN:=Za (Cd p tb r2 [59] _ HP5.out w4.heap.size 1 ((Zg w4 [.string ⟨#[59]⟩] 9).at 0 _ rfl));clear hba;go_wp2_with fail
  refine(HWN.out).mono ?_;intro e w6 he
  cases hA:Ak [59] r2 with
  |error n=>
   rw[hA]at he;obtain⟨hf,rfl⟩:=he;have HF:=Za (HF5.out.trans hf);have e1:Da (f+1) (t::r)= .error n:=by rw[Hs HN1.out HN2.out,HA3.out];dsimp only;rw[hA]
   have e2:=HRR.out.symm.trans e1;subst e2;clear e1 hf;unfold Ay;go_wp2_with fail
   exact⟨rfl,HF.out,rfl⟩
  |ok r3=>
   rw[hA]at he;obtain⟨hf,rfl,hp⟩:=he;have HF6:=Za (HF5.out.trans hf);have HP6:=Za hp;have HR6:=Za (HR5.out.sfr hf HNE.out);have HX6:=Za (HX5.out.keep (hf.fresh (by have:=HPW.out;omega)));have HT6:=Za (HT5.out.keep (hf.fresh (by have:=HPW.out;omega)));have HE6:=Za (HE5.out.keep (hf.fresh (by have:=HPW.out;omega)));clear hf hp;have HA6:=Za hA;clear hA;clear HWN;go_wp2_with fail
   have e1:Da (f+1) (t::r)= .ok (x,r3):=by rw[Hs HN1.out HN2.out,HA3.out];dsimp only;rw[HA6.out]
   have e2:=HRR.out.symm.trans e1;subst e2;obtain⟨⟨d0,d1,d2,d3,d4⟩,_⟩:=Bf HR6.out;exact bodyPost_ret (v:= .agg #[.int .i64 x.kind,.string (Aa x.name),.slice a1 x.args.length a2,.slice b1 x.thn.length b2,.slice g1 x.els.length g2]) (by simp [results,Tryz.results165,go_sem,d0,d1,d2,d3,d4]) rfl (st_finx HF6.out HP6.out HX6.out HT6.out HE6.out)
theorem Xe(f:Nat)(hB:Mk f)(hBL:∀l x r,Cx f l= .ok (x,r)→r.length<l.length):Yk (f+1):=by
 intro l w p tb hl h;obtain⟨t,r,rfl⟩:=h.ends.ne
 cases h0:isP [105,102] t with
 |true=>exact bQ f hB hBL t r w p tb (by omega) h h0
 |false=>
  cases h1:isP [119,104,105,108,101] t with
  |true=>exact So f hB hBL t r w p tb (by omega) h h0 h1
  |false=>exact Qm f t r w p tb (by omega) h h0 h1
theorem Uo {f:Nat}{l r:List Tk}{x:St}(h:An f l= .ok (x,r)):r.length<l.length:=by
 have hE:=fun {lv:Int} {a b:List Tk} {y:Ex} (q:Aq f lv a= .ok (y,b))=>(Db f).1 _ _ _ _ q
 have hA:=fun {a b:List Tk} {y:List Ex} (q:Ei f a= .ok (y,b))=>(Db f).2.2.2.2.1 _ _ _ q
 unfold An at h
 cases h1:Bk [98,114,101,97,107] l with
 |some q=>rw[h1]at h;injection h with h;injection h with _ h;subst h;exact Br h1
 |none=>
 rw[h1]at h;dsimp only at h
 cases h2:Bk [99,111,110,116,105,110,117,101] l with
 |some q=>rw[h2]at h;injection h with h;injection h with _ h;subst h;exact Br h2
 |none=>
 rw[h2]at h;dsimp only at h
 cases h3:Bk [114,101,116,117,114,110] l with
 |some q=>
  rw[h3]at h;dsimp only at h;have h0:=Br h3
  cases h4:Aq f 1 q with
  |error e=>rw[h4]at h;cases h
  |ok z=>obtain⟨y,z⟩:=z;rw[h4]at h;injection h with h;injection h with _ h;subst h;have:=hE h4;omega
 |none=>
 rw[h3]at h;dsimp only at h
 cases h4:Bk [112,114,105,110,116] l with
 |some q=>
  rw[h4]at h;dsimp only at h;have h0:=Br h4
  cases h5:Bz f q with
  |error e=>rw[h5]at h;cases h
  |ok z=>obtain⟨y,z⟩:=z;rw[h5]at h;injection h with h;injection h with _ h;subst h;have:=Er h5;omega
 |none=>
 rw[h4]at h;dsimp only at h
 cases h5:Bk [116,114,97,112] l with
 |some q=>
  rw[h5]at h;dsimp only at h;have h0:=Br h5
  cases h6:Bz f q with
  |error e=>rw[h6]at h;cases h
  |ok z=>obtain⟨y,z⟩:=z;rw[h6]at h;injection h with h;injection h with _ h;subst h;have:=Er h6;omega
 |none=>
 rw[h5]at h;dsimp only at h
 cases h6:Dg l with
 |error e=>rw[h6]at h;cases h
 |ok z=>
 obtain⟨s,q⟩:=z;rw[h6]at h;dsimp only at h;have h0:=Fb h6
 cases h7:Bk [40] q with
 |some q2=>
  rw[h7]at h;dsimp only at h;have h8:=Br h7
  cases h9:Ei f q2 with
  |error e=>rw[h9]at h;cases h
  |ok z=>obtain⟨y,z⟩:=z;rw[h9]at h;injection h with h;injection h with _ h;subst h;have:=hA h9;omega
 |none=>
 rw[h7]at h;dsimp only at h
 cases h8:Bk [91] q with
 |some q2=>
  rw[h8]at h;dsimp only at h;have k1:=Br h8
  cases h9:Aq f 1 q2 with
  |error e=>rw[h9]at h;cases h
  |ok z=>
   obtain⟨y,z⟩:=z;rw[h9]at h;dsimp only at h;have k2:=hE h9
   cases g1:Ak [93] z with
   |error e=>rw[g1]at h;cases h
   |ok z2=>
    rw[g1]at h;dsimp only at h;have k3:=Az g1
    cases g2:Ak [61] z2 with
    |error e=>rw[g2]at h;cases h
    |ok z3=>
     rw[g2]at h;dsimp only at h;have k4:=Az g2
     cases g3:Aq f 1 z3 with
     |error e=>rw[g3]at h;cases h
     |ok z4=>obtain⟨y4,z4⟩:=z4;rw[g3]at h;injection h with h;injection h with _ h;subst h;have:=hE g3;omega
 |none=>
 rw[h8]at h;dsimp only at h
 cases g2:Ak [61] q with
 |error e=>rw[g2]at h;cases h
 |ok z3=>
  rw[g2]at h;dsimp only at h;have k4:=Az g2
  cases g3:Aq f 1 z3 with
  |error e=>rw[g3]at h;cases h
  |ok z4=>obtain⟨y4,z4⟩:=z4;rw[g3]at h;injection h with h;injection h with _ h;subst h;have:=hE g3;omega
theorem Km {f:Nat}(h:∀a l x r,Cz f a l= .ok (x,r)→r.length<l.length):∀l x r,Cx f l= .ok (x,r)→r.length<l.length:=by
 intro l x r hb;unfold Cx at hb
 cases h1:Ak [123] l with
 |error e=>rw[h1]at hb;cases hb
 |ok q=>rw[h1]at hb;have:=Az h1;have:=h _ _ _ _ hb;omega
theorem Ig:∀f:Nat,(∀l x r,Da f l= .ok (x,r)→r.length<l.length)∧(∀a l x r,Cz f a l= .ok (x,r)→r.length<l.length)
 |0=>⟨fun l x r h=>(by cases h),fun a l x r h=>(by cases h)⟩
 |f+1=>by
  obtain⟨i1,i2⟩:=Ig f;have ib:=Km i2;refine⟨fun l x r h=> ?_,fun a l x r h=> ?_⟩
  ·cases l with
   |nil=>
    have:Da (f+1) []= .error (Hp []):=by
     rw[Da];dsimp only[Bk];have hs:An f []= .error (Hp []):=rfl;rw[hs]
    rw[this]at h;cases h
   |cons t l=>
    cases h0:isP [105,102] t with
    |true=>
     rw[Jz h0]at h
     cases h1:Bz f l with
     |error e=>rw[h1]at h;cases h
     |ok q=>
      obtain⟨y,q⟩:=q;rw[h1]at h;dsimp only at h;have k1:=Er h1
      cases h2:Cx f q with
      |error e=>rw[h2]at h;cases h
      |ok z=>
       obtain⟨a,z⟩:=z;rw[h2]at h;dsimp only at h;have k2:=ib _ _ _ h2
       cases h3:Bk [101,108,115,101] z with
       |none=>rw[h3]at h;injection h with h;injection h with _ h;subst h;rw[Zc];omega
       |some u=>
        rw[h3]at h;dsimp only at h;have k3:=Br h3
        cases h4:Cx f u with
        |error e=>rw[h4]at h;cases h
        |ok v=>obtain⟨b,v⟩:=v;rw[h4]at h;injection h with h;injection h with _ h;subst h;have:=ib _ _ _ h4;rw[Zc];omega
    |false=>
     cases h1:isP [119,104,105,108,101] t with
     |true=>
      rw[Im h0 h1]at h
      cases h2:Bz f l with
      |error e=>rw[h2]at h;cases h
      |ok q=>
       obtain⟨y,q⟩:=q;rw[h2]at h;dsimp only at h;have k1:=Er h2
       cases h3:Cx f q with
       |error e=>rw[h3]at h;cases h
       |ok z=>obtain⟨a,z⟩:=z;rw[h3]at h;injection h with h;injection h with _ h;subst h;have:=ib _ _ _ h3;rw[Zc];omega
     |false=>
      rw[Hs h0 h1]at h
      cases h2:An f (t::l)with
      |error e=>rw[h2]at h;cases h
      |ok q=>
       obtain⟨y,q⟩:=q;rw[h2]at h;dsimp only at h;have k1:=Uo h2
       cases h3:Ak [59] q with
       |error e=>rw[h3]at h;cases h
       |ok z=>rw[h3]at h;injection h with h;injection h with _ h;subst h;have:=Az h3;omega
  ·rw[Cz]at h
   cases h1:Bk [125] l with
   |some q=>rw[h1]at h;injection h with h;injection h with _ h;subst h;exact Br h1
   |none=>
    rw[h1]at h;dsimp only at h
    cases h2:Da f l with
    |error e=>rw[h2]at h;cases h
    |ok q=>obtain⟨y,q⟩:=q;rw[h2]at h;dsimp only at h;have:=i1 _ _ _ h2;have:=i2 _ _ _ _ h;omega
theorem Ac.newsY {w:World}{b:Nat}{cs:List Value}{T:TypeId}(h:Ac w b cs T):∀j u,cs[j]? =some u→w.cell? ((⟨b,0,none⟩:Addr).add j)=some u:=by
 intro j u hu;have h2:(⟨b,0,none⟩:Addr).add j=⟨b,j,none⟩:=by unfold Addr.add;split<;>simp_all
 rw[h2];exact h.at j u hu
theorem SFr.grown {p:Nat}{w w1 w2:World}(h:SFr p w w1){row:Option Nat}(hg:w1.grownBy w2 row)(hr:∀k,row=some k→w.heap.size≤k):SFr p w w2:=
 ⟨hg.os.trans h.os,hg.tape.trans h.tape,hg.output.trans h.output,Nat.le_trans h.size hg.size,fun k hk hp=>(hg.block k (Nat.lt_of_lt_of_le hk h.size) (fun e=>by have:=hr k e.symm;omega)).trans (h.block k hk hp)⟩
theorem Dp.rowGe {w:World}{base:Nat}{ps:List StV}{v:Value}(h:Dp w base ps v):∀k,v.ownBlock=some k→base≤k:=fun k e=>(World.ownsRow.lt h.1 k e).1
structure StsI (w:World)(p tb:Nat)(f:Nat)(R:PR (List St))(g:Nat)(va:Option Addr)(vc:Nat)(ps:List StV)(l:List Tk)(wr:World):Prop where
 sfr:SFr p w wr
 par:Ps wr p tb l
 row:Dp wr w.heap.size ps (.slice va ps.length vc)
 len:ps.length+l.length≤1000000
 fuel:4*l.length+2≤g
 le:g≤f
 res:Cz g (ps.map (·.x)) l=R
theorem Jm(f:Nat)(ih:∀g,g<f→Yk g):Sm f:=by
 intro l w p tb hl h;obtain⟨R,hR⟩:∃R,Cz f [] l=R:=⟨_,rfl⟩;rw[hR];have hlen:l.length≤1000000:=by obtain⟨_,_,h2⟩:=h;exact h2.fit
 have HPW:=Za h.lt;have HI0:Hid (StsI w p tb f R f none 0 [] l w):=⟨SFr.refl p w,h,Dp.zero _ _,by simpa using hlen,hl,Zd _,hR⟩;have IH:=Za ih;obtain⟨i0,hi,hz0,hz1,hz2⟩:=info_parts infoSt;have HIF:=Za hi;have HZ0:=Za hz0;have HZ1:=Za hz1;have HZ2:=Za hz2;clear hl h hR hlen ih hi hz0 hz1 hz2;go_enter Tryz.func127,Tryz.ntmps127
 go_wp2_with fail
 go_loopw [2] (fun s2 wr=> ∃(g:Nat) (va:Option Addr) (vc:Nat) (ps:List StV) (l:List Tk),s2= .slice va ps.length vc∧Hid (StsI w p tb f R g va vc ps l wr)) (fun _ wr=>Cn p wr)
 case atStart=>exact⟨f,none,0,[],l,rfl,HI0⟩
 case round=>
  obtain⟨g,va,vc,ps,l,rfl,HI⟩:=hrel;clear HI0;obtain⟨u,l,rfl⟩:=HI.out.par.ends.ne;obtain⟨g',hg'⟩:∃g',g=g'+1:=⟨g - 1,by have:=HI.out.fuel;omega⟩;subst hg'
  cases hu:isP [125] u with
  |true=>
   have HTK:=Za (Bc p tb u l [125] wr HI.out.par hu);have hres:Except.ok (ps.map (·.x),l)=R:=by
    have h1:=HI.out.res;rw[Cz,Ao hu]at h1;exact h1
   subst hres;clear hu;go_wp2_with fail
   refine HTK.out.mono ?_;rintro e w3 ⟨rfl,hf,hp⟩;have HF:=Za (HI.out.sfr.trans hf);have HP:=Za hp;have HR:=Za ((HI.out.row.sfr hf HPW.out).sts (show ps.length≤140737488355328 by have:=HI.out.len;omega));clear hf hp;go_wp2_with fail
   go_ret
   exact⟨HF.out,_,rfl,HP.out,HR.out⟩
  |false=>
   have HTK:=Za (Ai p tb u l [125] wr HI.out.par hu);have hres:(match Da g' (u::l)with| .error e=> .error e| .ok (x,r)=>Cz g' (ps.map (·.x)++[x]) r)=R:=by
    have h1:=HI.out.res;rw[Cz,Ad hu]at h1;exact h1
   have HRES:=Za hres;clear hu hres;go_wp2_with fail
   refine HTK.out.mono ?_;rintro e w3 ⟨rfl,hb⟩;have HP3:=Za (HI.out.par.old hb);have HF3:=Za (HI.out.sfr.trans (Ze hb));have HR3:=Za (HI.out.row.sfr (Ze (s:=p) hb) HPW.out);have HC:=Za (IH.out g' (by have:=HI.out.le;omega) (u::l) w3 p tb (by have:=HI.out.fuel;omega) (HI.out.par.old hb));clear hb;go_wp2_with fail
   refine HC.out.mono ?_;intro e w4 he
   cases hA:Da g' (u::l)with
   |error n=>
    rw[hA]at he;obtain⟨hf,rfl⟩:=he;have HF:=Za (HF3.out.trans hf);have e2:=HRES.out;rw[hA]at e2;dsimp only at e2;subst e2;clear hf hA;unfold Ay;go_wp2_with fail
    exact⟨rfl,HF.out,rfl⟩
   |ok q=>
    obtain⟨x,r⟩:=q;rw[hA]at he;obtain⟨hf,v,rfl,hp,xa,xt,xe,rfl,ha,ht,hE⟩:=he;obtain⟨a1,a2,rfl⟩:=ha.shape;obtain⟨t1,t2,rfl⟩:=ht.shape;obtain⟨e1,e2,rfl⟩:=hE.shape;have hr4:=HR3.out.sfr hf HPW.out;have hf4:=HF3.out.trans hf;have hlt3:∀k,(Value.slice va ps.length vc).ownBlock=some k→k<w3.heap.size:=fun k e=>(World.ownsRow.lt HR3.out.1 k e).2
    have hsz:=HF3.out.size;have hpar:Dr (fun b=>w.heap.size≤b∧(Value.slice va ps.length vc).ownBlock≠some b) w4 ⟨x,.slice a1 x.args.length a2,.slice t1 x.thn.length t2,.slice e1 x.els.length e2⟩:=by
     have hD:∀b,w3.heap.size≤b→w.heap.size≤b∧(Value.slice va ps.length vc).ownBlock≠some b:=fun b hb=>⟨by omega,fun e=>by have:=hlt3 b e;omega⟩
     exact⟨ha.mono hD,ht.mono hD,hE.mono hD⟩
    have hal:Below w4.heap.size w4 (w4.alloc (.cells #[.int .i64 x.kind,.string (Aa x.name),.slice a1 x.args.length a2,.slice t1 x.thn.length t2,.slice e1 x.els.length e2] 60)):=bA;have HR5:=Za (hr4.sfr (Ze (s:=p) hal) HPW.out);have HF5:=Za (hf4.trans (Ze hal));have HP5:=Za (hp.old hal);have HPR5:=Za (hpar.keep (Ba hal));have HNEW:=Za (Zg w4 (Ez x (.slice a1 x.args.length a2) (.slice t1 x.thn.length t2) (.slice e1 x.els.length e2)) 60);have hlen:=HI.out.len;rw[Zc]at hlen;have hless:=(Ig g').1 _ _ _ hA;rw[Zc]at hless;have hfu:=HI.out.fuel;rw[Zc]at hfu;have hRES:=HRES.out;rw[hA]at hRES;dsimp only at hRES;have HRS:=Za hRES;have HLE:Hid (g'≤f):=by show _≤_;have:=HI.out.le;omega
    have HFU:Hid (4*r.length+2≤g'):=by show _≤_;omega
    have HLN:Hid (ps.length+1+r.length≤1000000):=by show _≤_;omega
    have hps:ps.length≤1000000:=by omega
    have HLS:Hid (r.length<l.length+1):=hless;have HSZ:Hid (w.heap.size≤(w4.alloc (.cells #[.int .i64 x.kind,.string (Aa x.name),.slice a1 x.args.length a2,.slice t1 x.thn.length t2,.slice e1 x.els.length e2] 60)).heap.size):=HF5.out.size;clear hf hp ha ht hE hr4 hf4 hlt3 hsz hpar hal hlen hless hfu hRES hA;go_wp2_with (at_builtin;(refine wpList_append_lies (P:=Zb) _ rfl _ _ 56 rfl w.heap.size 60 i0 _ 5 96 Tryz.underlying56 HIF.out HZ0.out HZ1.out HZ2.out rfl (by decide) (.slice va ps.length vc) ps.length (Gj ps) rfl HR5.out.1 ⟨w4.heap.size,0,none⟩ 1 1 (Ez x (.slice a1 x.args.length a2) (.slice t1 x.thn.length t2) (.slice e1 x.els.length e2)) rfl rfl HNEW.out.newsY (st_one _ _ _ _ _ _ _ _ _ _) (by decide) (by unfold maxLen;omega) (by omega) HSZ.out _ rfl ?_;intro gb cap w11 hown hgrow hat hlt11;have HR11:=Za (HR5.out.snoc ⟨x,.slice a1 x.args.length a2,.slice t1 x.thn.length t2,.slice e1 x.els.length e2⟩ HPR5.out hown hgrow hat);have HF11:=Za (HF5.out.grown hgrow HR5.out.rowGe);have HP11:=Za (HP5.out.grown hgrow HR5.out.rowGe HPW.out);clear hown hgrow hat))
    have HI11:Hid (StsI w p tb f R g' (some ⟨gb,0,none⟩) cap (ps++[⟨x,.slice a1 x.args.length a2,.slice t1 x.thn.length t2,.slice e1 x.els.length e2⟩]) r w11):=⟨HF11.out,HP11.out,by have:=HR11.out;rw[List.length_append];exact this,by rw[List.length_append];exact HLN.out,HFU.out,HLE.out,by rw[List.map_append];exact HRS.out⟩;have hm:Cn p w11<Cn p wr:=by
     rw[HI11.out.par.len,HI.out.par.len,Zc];exact HLS.out
    have HM:=Za hm;clear hm;go_roundw
    case rel=>exact⟨g',_,_,_,r,by rw[List.length_append];rfl,HI11⟩
    case measure=>exact HM.out
theorem Yu:∀f:Nat,Yk f∧Sm f∧Mk f
 |0=>⟨fun l w p tb h=>by omega,Jm 0 (fun g hg=>by omega),Uu 0 (Jm 0 (fun g hg=>by omega))⟩
 |f+1=>by
  have ih:∀g,g<f+1→Yk g∧Sm g∧Mk g:=fun g hg=>Yu g
  have h1:=Jm (f+1) (fun g hg=>(ih g hg).1);exact⟨Xe f (ih f (Nat.lt_succ_self _)).2.2 (Km (Ig f).2),h1,Uu (f+1) h1⟩
def El {α:Type}(e:TypeId)(cf:α→List Value)(k:Nat)(w:World)(base:Nat)(L:List α)(v:Value):Prop:=w.ownsRow base e k v L.length (L.flatMap cf)
section
variable {α:Type} {e:TypeId} {cf:α→List Value} {k:Nat} {w w':World} {base:Nat} {L:List α} {v:Value}
theorem El.zero(e:TypeId)(cf:α→List Value)(k:Nat)(w:World)(base:Nat):El e cf k w base [] (.slice none 0 0):=World.ownsRow_nil _ _ _ _
theorem El.lt(h:El e cf k w base L v):∀g,v.ownBlock=some g→base≤g∧g<w.heap.size:=World.ownsRow.lt h
theorem El.grown(h:El e cf k w base L v){row:Option Nat}(hg:w.grownBy w' row)(hne:v.ownBlock=none∨v.ownBlock≠row):El e cf k w' base L v:=World.ownsRow.kept h hg hne
theorem El.sfr(h:El e cf k w base L v){p:Nat}(hf:SFr p w w')(hp:p<base):El e cf k w' base L v:=by
 refine⟨h.1,?_⟩;rcases h.2 with hn|⟨g,cap,cur,rfl,hg,hh,r⟩
 ·exact .inl hn
 ·refine .inr ⟨g,cap,cur,rfl,hg,?_,r⟩
  rw[hf.block g (by
   rcases Nat.lt_or_ge g w.heap.size with h'|h'
   ·exact h'
   ·simp [Array.getElem?_eq_none h']at hh) (by omega)]
  exact hh
theorem El.old(h:El e cf k w base L v)(hb:Below w.heap.size w w'):El e cf k w' base L v:=by
 refine⟨h.1,?_⟩;rcases h.2 with hn|⟨g,cap,cur,rfl,hg,hh,r⟩
 ·exact .inl hn
 ·refine .inr ⟨g,cap,cur,rfl,hg,?_,r⟩
  rw[hb.block g (by
   rcases Nat.lt_or_ge g w.heap.size with h'|h'
   ·exact h'
   ·simp [Array.getElem?_eq_none h']at hh)]
  exact hh
theorem El.low(h:El e cf k w base L v){b:Nat}(hb:b<base)(i:Nat)(x:Value):El e cf k (w.setCell ⟨b,i,none⟩ x) base L v:=by
 refine⟨h.1,?_⟩;rcases h.2 with hn|⟨g,cap,cur,rfl,hg,hh,r⟩
 ·exact .inl hn
 ·refine .inr ⟨g,cap,cur,rfl,hg,?_,r⟩
  rw[Below.heap_setCell _ _ _ _ (show g≠b by omega)];exact hh
theorem El.shape(h:El e cf k w base L v):∃a cap,v= .slice a L.length cap:=by
 rcases h.2 with⟨h1,h2⟩|⟨g,cap,cur,rfl,_⟩
 ·exact⟨none,0,by rw[h1,h2]⟩
 ·exact⟨_,_,rfl⟩
end
section
variable (w:World) {o:Oper} {a:Act} {K:Act→World→Prop} {Q:Exit→Act→World→Prop}
theorem Vv {α:Type}(s x:Operand)(t:TypeId)(ho:o.op= .call {callee:= .builtin .append,args:= #[s,x],argTypes:= #[t,t]})
  (e:TypeId) (ht:Tryz.prog.underlying t=some (.slice e)) (z:Value) (k bytes:Nat) (hinfo:(Tryz.prog.info? e).map (fun i=>(i.zero,i.size,i.bytes))=some (some z,k,bytes)) (hzs:z.cells.size=k) (hk:0<k)
  (cf:α→List Value) (hf:∀x,(cf x).length=k) (h1:∀x u,u∈cf x→u.oneCell'=true)
  (base:Nat) (L:List α) (v:Value) (hs:a.eval s=v) (hown:El e cf k w base L v) (y:α) (b c:Nat) (hx:a.eval x= .slice (some ⟨b,0,none⟩) 1 c) (hnew:Ac w b (cf y) e)
  (hlen:(L.length+1)*bytes≤140737488355328) (hl2:L.length+1≤140737488355328) (hbase:base≤w.heap.size)
  (h:∀g cap w',El e cf k w' base (L++[y]) (.slice (some ⟨g,0,none⟩) (L.length+1) cap)→w.grownBy w' v.ownBlock→(v.ownBlock=some g∨g=w.heap.size)→g<w'.heap.size→K (a.put o.dst (.slice (some ⟨g,0,none⟩) (L.length+1) cap)) w'):o.wp Zb a w K Q:=by
 obtain⟨i0,hi,hz0,hz1,hz2⟩:=info_parts hinfo;refine wp_append_lies (P:=Zb) w s x t ho base e i0 z k bytes ht hi hz0 hz1 hz2 hzs hk v L.length (L.flatMap cf) hs hown ⟨b,0,none⟩ 1 c (cf y) hx (by rw[hf,Nat.one_mul]) hnew.newsY (h1 y) (by decide) (by unfold maxLen;omega) hlen hbase _ rfl ?_;intro g cap w' hown' hg hat hlt;refine h g cap w' ?_ hg hat hlt;unfold El;simpa using hown'
end
theorem infoYS:(Tryz.prog.info? 9).map (fun i=>(i.zero,i.size,i.bytes))=some (some (.string ⟨#[]⟩),1,16):=by kernel_rfl
theorem infoYA:(Tryz.prog.info? 85).map (fun i=>(i.zero,i.size,i.bytes))=some (some (.agg #[.string ⟨#[]⟩,.int .i64 0]),2,24):=by kernel_rfl
theorem infoYF:(Tryz.prog.info? 58).map (fun i=>(i.zero,i.size,i.bytes))=some (some (.agg #[.string ⟨#[]⟩,.slice none 0 0,.slice none 0 0,.slice none 0 0]),4,88):=by kernel_rfl
def Ga(s:Bs):List Value:=[.string (Aa s)]
def Fv(x:Ar):List Value:=[.string (Aa x.name),.int .i64 x.size]
abbrev Hr(w:World)(base:Nat)(L:List Bs)(v:Value):Prop:=El 9 Ga 1 w base L v
abbrev Qg(w:World)(base:Nat)(L:List Ar)(v:Value):Prop:=El 85 Fv 2 w base L v
theorem ys_one(x:Bs):∀u,u∈Ga x→u.oneCell'=true:=by
 intro u hu;simp only[Ga,List.mem_cons,List.not_mem_nil,or_false]at hu;subst hu;rfl
theorem ya_one(x:Ar):∀u,u∈Fv x→u.oneCell'=true:=by
 intro u hu;simp only[Fv,List.mem_cons,List.not_mem_nil,or_false]at hu;rcases hu with rfl|rfl<;>rfl
section
variable (w:World) {o:Oper} {a:Act} {K:Act→World→Prop} {Q:Exit→Act→World→Prop}
theorem Yn(s x:Operand)(ho:o.op= .call {callee:= .builtin .append,args:= #[s,x],argTypes:= #[24,24]})
  (base:Nat) (L:List Bs) (v:Value) (hs:a.eval s=v) (hown:Hr w base L v) (y:Bs) (b c:Nat) (hx:a.eval x= .slice (some ⟨b,0,none⟩) 1 c) (hnew:Ac w b (Ga y) 9)
  (hlen:L.length≤1000000) (hbase:base≤w.heap.size)
  (h:∀g cap w',Hr w' base (L++[y]) (.slice (some ⟨g,0,none⟩) (L.length+1) cap)→w.grownBy w' v.ownBlock→(v.ownBlock=some g∨g=w.heap.size)→g<w'.heap.size→K (a.put o.dst (.slice (some ⟨g,0,none⟩) (L.length+1) cap)) w'):o.wp Zb a w K Q:=
 Vv w s x _ ho 9 Tryz.underlying24 _ 1 16 infoYS rfl (by decide) Ga (fun _=>rfl) ys_one base L v hs hown y b c hx hnew (by omega) (by omega) hbase h
theorem wp_yarr(s x:Operand)(ho:o.op= .call {callee:= .builtin .append,args:= #[s,x],argTypes:= #[31,31]})
  (base:Nat) (L:List Ar) (v:Value) (hs:a.eval s=v) (hown:Qg w base L v) (y:Ar) (b c:Nat) (hx:a.eval x= .slice (some ⟨b,0,none⟩) 1 c) (hnew:Ac w b (Fv y) 85)
  (hlen:L.length≤1000000) (hbase:base≤w.heap.size)
  (h:∀g cap w',Qg w' base (L++[y]) (.slice (some ⟨g,0,none⟩) (L.length+1) cap)→w.grownBy w' v.ownBlock→(v.ownBlock=some g∨g=w.heap.size)→g<w'.heap.size→K (a.put o.dst (.slice (some ⟨g,0,none⟩) (L.length+1) cap)) w'):o.wp Zb a w K Q:=
 Vv w s x _ ho 85 Tryz.underlying31 _ 2 24 infoYA rfl (by decide) Fv (fun _=>rfl) ya_one base L v hs hown y b c hx hnew (by omega) (by omega) hbase h
end
theorem Ih {α:Type}(f:α→List Value)(k:Nat)(hf:∀x,(f x).length=k):∀(l:List α) (i q:Nat) (p:α),l[i]? =some p→q<k→(l.flatMap f)[i*k+q]? =(f p)[q]?
 |[],i,q,p,h,_=>by simp at h
 |x::l,0,q,p,h,hq=>by
  simp at h;subst h;rw[List.flatMap_cons,List.getElem?_append_left (by rw[hf];omega)];simp
 |x::l,i+1,q,p,h,hq=>by
  simp at h;have:=Ih f k hf l i q p h hq;rw[List.flatMap_cons,List.getElem?_append_right (by rw[hf,Nat.succ_mul];omega),hf,←this];congr 1;rw[Nat.succ_mul];omega
theorem Hr.strs {w:World}{base:Nat}{L:List Bs}{v:Value}(h:Hr w base L v)(hl:L.length≤1000000):Bu (base≤ ·) w L v:=by
 obtain⟨a,cap,rfl⟩:=h.shape;rcases h.2 with⟨h1,h2⟩|⟨g,cap2,cur,hv,hg,hh,hc,r⟩
 ·injection h1 with h1 h3 h4
  exact⟨a,cap,0,0,rfl,by omega,by show _≤_;omega,.inl h2,fun i hi=>by omega⟩
 ·injection hv with hv1 _ hv3
  subst hv1 hv3;refine⟨_,cap,g,0,rfl,hc,by show _≤_;omega,.inr ⟨rfl,hg⟩,fun i hi=> ?_⟩;have h1:=h.cellAt (i*1+0) (by omega);rw[Ih Ga 1 (fun _=>rfl) L i 0 L[i] (Zi hi) (by decide)]at h1;have e:(⟨g,i*1+0,none⟩:Addr)=⟨g,0+i,none⟩:=by simp
  rw[e]at h1;rw[h1];simp [Ga,Zj,Zi hi]
theorem Qg.ars {w:World}{base:Nat}{L:List Ar}{v:Value}(h:Qg w base L v)(hl:L.length≤1000000):Cj (base≤ ·) w L v:=by
 obtain⟨a,cap,rfl⟩:=h.shape;rcases h.2 with⟨h1,h2⟩|⟨g,cap2,cur,hv,hg,hh,hc,r⟩
 ·injection h1 with h1 h3 h4
  exact⟨a,cap,0,0,rfl,by omega,by show _≤_;omega,.inl h2,fun i hi=>by omega⟩
 ·injection hv with hv1 _ hv3
  subst hv1 hv3;refine⟨_,cap,g,0,rfl,hc,by show _≤_;omega,.inr ⟨rfl,hg⟩,fun i hi=>⟨?_,?_⟩⟩
  ·have h1:=h.cellAt (i*2+0) (by omega)
   rw[Ih Fv 2 (fun _=>rfl) L i 0 L[i] (Zi hi) (by decide)]at h1;have e:(⟨g,i*2+0,none⟩:Addr)=⟨g,0+i*2,none⟩:=by simp
   rw[e]at h1;rw[h1];simp [Fv,Pb,Zj,Zi hi]
  ·have h1:=h.cellAt (i*2+1) (by omega)
   rw[Ih Fv 2 (fun _=>rfl) L i 1 L[i] (Zi hi) (by decide)]at h1;have e:(⟨g,i*2+1,none⟩:Addr)=⟨g,0+i*2+1,none⟩:=by simp
   rw[e]at h1;rw[h1];simp [Fv,Pb,Zj,Zi hi]
structure VY3 (p tb cb ob base:Nat)(nm:Bs)(va:Option Addr)(vc:Nat)(S:List Bs)(ov:Value)(s:Bs)(l r:List Tk)(err:Option Int)(W:World)(L:Nat→Bool)(nb:Nat)(gn:Nat)(cn:Nat)(z5 z6 z7 z8 z9 z10 z11:Value)(wx:World):Prop where
 ord:L 7=true→∀j,j<7→L j=true
 p4_3:L 4=true→L 3=true
 p5_3:L 5=true→L 3=true
 p5_4:L 5=true→L 4=true
 p7_5:L 7=true→L 5=true
 c0:L 0=true→z5= .pointer (some ⟨ob,1,none⟩)
 c1:L 1=true→z6= .slice va S.length vc
 c2:L 2=true→z7= .pointer (some ⟨p,0,none⟩)
 c3:L 3=true→z8= .string (Aa s)
 c4:L 4=true→z9= .slice (some ⟨nb,0,none⟩) 1 1
 c5:L 5=true→z10= .slice (some ⟨gn,0,none⟩) (S.length+1) cn
 c6:L 6=true→z11= .pointer (some ⟨ob,1,none⟩)
 fr:AFr p ob base W wx
 pa:L 3=false→Ps wx p tb l
 pb:L 3=true→Ps wx p tb r
 c:Ac wx cb [.pointer (some ⟨p,0,none⟩)] 64
 x:L 7=false→Ac wx ob [.string (Aa nm),.slice va S.length vc,ov,.slice none 0 0] 58
 x7:L 7=true→Ac wx ob [.string (Aa nm),.slice (some ⟨gn,0,none⟩) (S.length+1) cn,ov,.slice none 0 0] 58
 ra:L 5=false→Hr wx base S (.slice va S.length vc)
 rb:L 5=true→Hr wx base (S++[s]) (.slice (some ⟨gn,0,none⟩) (S.length+1) cn)∧((Value.slice va S.length vc).ownBlock=some gn∨W.heap.size≤gn)
 g4:L 4=true→L 5=false→Ac wx nb (Ga s) 9∧base≤nb
 gr:∀b,b<W.heap.size→base≤b→(Value.slice va S.length vc).ownBlock≠some b→wx.heap[b]? =W.heap[b]?
def IY3(p tb cb ob base:Nat)(nm:Bs)(va:Option Addr)(vc:Nat)(S:List Bs)(ov:Value)(s:Bs)(l r:List Tk)(err:Option Int)(W:World)(q2 q3 q4:Value)(L:Nat→Bool)(a':Act)(w':World):Prop:=
 ∃nb:Nat,∃gn:Nat,∃cn:Nat,∃z5 z6 z7 z8 z9 z10 z11:Value,VY3 p tb cb ob base nm va vc S ov s l r err W L nb gn cn z5 z6 z7 z8 z9 z10 z11 w'∧a'=⟨[.pointer (some ⟨cb,0,none⟩),.pointer (some ⟨ob,0,none⟩),q2,q3,q4,z5,z6,z7,z8,z9,z10,z11].toArray,[]⟩
def RY3(p tb cb ob base:Nat)(nm:Bs)(va:Option Addr)(vc:Nat)(S:List Bs)(ov:Value)(s:Bs)(l r:List Tk)(err:Option Int)(W:World)(q2 q3 q4:Value)(a':Act)(w':World):Prop:=
 ∃nb:Nat,∃gn:Nat,∃cn:Nat,(AFr p ob base W w'∧Ps w' p tb r∧Ac w' cb [.pointer (some ⟨p,0,none⟩)] 64∧Ac w' ob [.string (Aa nm),.slice (some ⟨gn,0,none⟩) (S.length+1) cn,ov,.slice none 0 0] 58∧Hr w' base (S++[s]) (.slice (some ⟨gn,0,none⟩) (S.length+1) cn)∧((Value.slice va S.length vc).ownBlock=some gn∨W.heap.size≤gn)∧(∀b,b<W.heap.size→base≤b→(Value.slice va S.length vc).ownBlock≠some b→w'.heap[b]? =W.heap[b]?))∧a'=⟨[.pointer (some ⟨cb,0,none⟩),.pointer (some ⟨ob,0,none⟩),q2,q3,q4,.pointer (some ⟨ob,1,none⟩),.slice va S.length vc,.pointer (some ⟨p,0,none⟩),.string (Aa s),.slice (some ⟨nb,0,none⟩) 1 1,.slice (some ⟨gn,0,none⟩) (S.length+1) cn,.pointer (some ⟨ob,1,none⟩)].toArray,[]⟩
theorem dI(p tb cb ob base:Nat)(nm:Bs)(va:Option Addr)(vc:Nat)(S:List Bs)(ov:Value)(s:Bs)(l r:List Tk)(err:Option Int)(W:World)(hps:Ps W p tb l)(hc:Ac W cb [.pointer (some ⟨p,0,none⟩)] 64)(ho:Ac W ob [.string (Aa nm),.slice va S.length vc,ov,.slice none 0 0] 58)(hrow:Hr W base S (.slice va S.length vc))(hpc:p<cb)(hco:cb<ob)(hob:ob<base)(hbs:base≤W.heap.size)(hll:S.length≤1000000)(HNM:Hid (∀w1,Ps w1 p tb l→Calls Zb 65 #[.pointer (some ⟨p,0,none⟩)] w1 fun e w'=>match err with|some n=>e=Ay n∧SFr p w1 w'|none=>e= .returned (.string (Aa s))∧SFr p w1 w'∧Ps w' p tb r))(Q:Exit→Act→World→Prop)(hQ:∀n a' w',err=some n→a'.defers=[]→AFr p ob base W w'→Q (.panic [{v:= .iface 110 (.agg #[.int .i64 n]),recovered:=false}]) a' w')(q2 q3 q4 q5 q6 q7 q8 q9 q10 q11:Value)(J K':Act→World→Prop)(hJ:∀a' w',RY3 p tb cb ob base nm va vc S ov s l r err W q2 q3 q4 a' w'→J a' w')(hM:∀a' w',Met J a' w'→K' a' w'):
  Code.wp Zb ((Tryz.f126.body.bind (Hj 1)).getD .skip) (Exit.then K' Q) ⟨[.pointer (some ⟨cb,0,none⟩),.pointer (some ⟨ob,0,none⟩),q2,q3,q4,q5,q6,q7,q8,q9,q10,q11].toArray,[]⟩ W:=by
 have HPS:=Za hps;have HC:=Za hc;have HO:=Za ho;have HROW:=Za hrow;have HQ:=Za hQ;clear hps hc ho hrow hQ
 conv=>arg 2;whnf
 (try dsimp only);refine Fc (by kernel_rfl) (by kernel_rfl) (IY3 p tb cb ob base nm va vc S ov s l r err W q2 q3 q4) ?_ ?_ ?_
 ·exact⟨0,0,0,q5,q6,q7,q8,q9,q10,q11,⟨(fun h=>by cases h),(fun h=>by cases h),(fun h=>by cases h),(fun h=>by cases h),(fun h=>by cases h),(fun h=>by cases h),(fun h=>by cases h),(fun h=>by cases h),(fun h=>by cases h),(fun h=>by cases h),(fun h=>by cases h),(fun h=>by cases h),((AFr.refl p ob base W).old (Zf _ _).drew),(fun _=>HPS.out.old (Zf _ _).drew),(fun h=>by cases h),(HC.out.old (Zf _ _).drew),(fun _=>HO.out.old (Zf _ _).drew),(fun h=>by cases h),(fun _=>HROW.out.old (Zf _ _).drew),(fun h=>by cases h),(fun h=>fun _=>by cases h),(fun b _ _ _=>rfl)⟩,rfl⟩
 ·intro L act wx k hI hk hl hd
  obtain⟨nb,gn,cn,z5,z6,z7,z8,z9,z10,z11,hV,rfl⟩:=hI;have hk:k=0∨k=1∨k=2∨k=3∨k=4∨k=5∨k=6∨k=7:=by
   have:k<8:=hk;omega
  rcases hk with rfl|rfl|rfl|rfl|rfl|rfl|rfl|rfl
  ·have nl:=kf hV.ord hl
   refine Bg _ rfl rfl (fun K' hK=> ?_)
   conv=>arg 2;whnf
   go_wp2_with fail
   exact⟨nb,gn,cn,.pointer (some ⟨ob,1,none⟩),z6,z7,z8,z9,z10,z11,⟨kl nl,kq hV.p4_3,kq hV.p5_3,kq hV.p5_4,kq hV.p7_5,(fun _=>rfl),kc hV.c1,kc hV.c2,kc hV.c3,kc hV.c4,kc hV.c5,kc hV.c6,hV.fr,(fun h0=>hV.pa (kb h0)),kc hV.pb,hV.c,(fun h0=>hV.x (kb h0)),kl nl,(fun h0=>hV.ra (kb h0)),kc hV.rb,(fun h0=>fun h1=>hV.g4 (kb h0) (kb h1)),hV.gr⟩,rfl⟩
  ·have nl:=kf hV.ord hl
   have d0:L 0=true:=hd _ rfl ⟨0,.data⟩ (by simp) rfl;obtain rfl:=(hV.c0 d0).symm;have l7:L 7=false:=nl;have ho:=hV.x l7;have x1:=ho.at 1 _ rfl;refine Bg _ rfl rfl (fun K' hK=> ?_)
   conv=>arg 2;whnf
   go_wp2_with fail
   exact⟨nb,gn,cn,.pointer (some ⟨ob,1,none⟩),.slice va S.length vc,z7,z8,z9,z10,z11,⟨kl nl,kq hV.p4_3,kq hV.p5_3,kq hV.p5_4,kq hV.p7_5,kc hV.c0,(fun _=>rfl),kc hV.c2,kc hV.c3,kc hV.c4,kc hV.c5,kc hV.c6,hV.fr,(fun h0=>hV.pa (kb h0)),kc hV.pb,hV.c,(fun h0=>hV.x (kb h0)),kl nl,(fun h0=>hV.ra (kb h0)),kc hV.rb,(fun h0=>fun h1=>hV.g4 (kb h0) (kb h1)),hV.gr⟩,rfl⟩
  ·have nl:=kf hV.ord hl
   have hc0:=hV.c.at 0 _ rfl;refine Bg _ rfl rfl (fun K' hK=> ?_)
   conv=>arg 2;whnf
   go_wp2_with fail
   exact⟨nb,gn,cn,z5,z6,.pointer (some ⟨p,0,none⟩),z8,z9,z10,z11,⟨kl nl,kq hV.p4_3,kq hV.p5_3,kq hV.p5_4,kq hV.p7_5,kc hV.c0,kc hV.c1,(fun _=>rfl),kc hV.c3,kc hV.c4,kc hV.c5,kc hV.c6,hV.fr,(fun h0=>hV.pa (kb h0)),kc hV.pb,hV.c,(fun h0=>hV.x (kb h0)),kl nl,(fun h0=>hV.ra (kb h0)),kc hV.rb,(fun h0=>fun h1=>hV.g4 (kb h0) (kb h1)),hV.gr⟩,rfl⟩
  ·have nl:=kf hV.ord hl
   have d2:L 2=true:=hd _ rfl ⟨2,.data⟩ (by simp) rfl;obtain rfl:=(hV.c2 d2).symm;have hps:=hV.pa hl;refine Bg _ rfl rfl (fun K' hK=> ?_)
   conv=>arg 2;whnf
   have HPX:=Za hps;have HFX:=Za hV.fr;clear hps;go_wp2_with fail
   refine(HNM.out _ HPX.out).mono ?_;intro e w7 he
   cases err with
   |some n=>
    obtain⟨rfl,hf⟩:=he;unfold Ay;have HF:=Za (HFX.out.trans (AFr.of_sfr hf));clear hf hK hV;go_wp2_with fail
    exact HQ.out n _ _ rfl rfl HF.out
   |none=>
   obtain⟨rfl,hf7,hp7⟩:=he;go_wp2_with fail
   exact⟨nb,gn,cn,z5,z6,.pointer (some ⟨p,0,none⟩),.string (Aa s),z9,z10,z11,⟨kl nl,(fun _=>Bh L 3),(fun _=>Bh L 3),kq hV.p5_4,kq hV.p7_5,kc hV.c0,kc hV.c1,kc hV.c2,(fun _=>rfl),kc hV.c4,kc hV.c5,kc hV.c6,(hV.fr.trans (AFr.of_sfr hf7)),(ks),(fun _=>hp7),(hV.c.sfr hf7 (by omega)),(fun h=>(hV.x (kb h)).sfr hf7 (by omega)),kl nl,(fun h=>(hV.ra (kb h)).sfr hf7 (by omega)),(fun h=>⟨El.sfr (hV.rb (kb h)).1 hf7 (by omega),(hV.rb (kb h)).2⟩),(fun h1 h2=>⟨Ac.sfr (hV.g4 (kb h1) (kb h2)).1 hf7 (by have:=(hV.g4 (kb h1) (kb h2)).2;omega),(hV.g4 (kb h1) (kb h2)).2⟩),(fun b h1 h2 h3=>(hf7.block b (by have:=hV.fr.size;omega) (by omega)).trans (hV.gr b h1 h2 h3))⟩,rfl⟩
  ·have nl:=kf hV.ord hl
   have d3:L 3=true:=hd _ rfl ⟨3,.data⟩ (by simp) rfl;obtain rfl:=(hV.c3 d3).symm;have hal:Below wx.heap.size wx (wx.alloc (.cells #[.string (Aa s)] 9)):=bA;have hfs:=hV.fr.size;refine Bg _ rfl rfl (fun K' hK=> ?_)
   conv=>arg 2;whnf
   go_wp2_with fail
   exact⟨wx.heap.size,gn,cn,z5,z6,z7,.string (Aa s),.slice (some ⟨(wx.heap.size),0,none⟩) 1 1,z10,z11,⟨kl nl,(kd (d3)),kq hV.p5_3,(fun _=>Bh L 4),kq hV.p7_5,kc hV.c0,kc hV.c1,kc hV.c2,kc hV.c3,(fun _=>rfl),kc hV.c5,kc hV.c6,(AFr.old (hV.fr) hal),(fun h0=>Ps.old (hV.pa (kb h0)) hal),(fun h0=>Ps.old (hV.pb (kb h0)) hal),(Ac.old (hV.c) hal),(fun h0=>Ac.old (hV.x (kb h0)) hal),kl nl,(fun h0=>El.old (hV.ra (kb h0)) hal),(kn hV.p5_4 hl),(fun _ _=>⟨Zg wx (Ga s) 9,by omega⟩),(fun b h1 h2 h3=>(hal.block b (by omega)).trans ((hV.gr) b h1 h2 h3))⟩,rfl⟩
  ·have nl:=kf hV.ord hl
   have d1:L 1=true:=hd _ rfl ⟨1,.data⟩ (by simp) rfl;obtain rfl:=(hV.c1 d1).symm;have d3:L 3=true:=hd _ rfl ⟨3,.chain⟩ (by simp) rfl;have d4:L 4=true:=hd _ rfl ⟨4,.data⟩ (by simp) rfl;obtain rfl:=(hV.c4 d4).symm;have d3:L 3=true:=hd _ rfl ⟨3,.chain⟩ (by simp) rfl;have hg4:=hV.g4 d4 hl;have hra:=hV.ra hl;have hfs:=hV.fr.size;refine Bg _ rfl rfl (fun K' hK=> ?_)
   conv=>arg 2;whnf
   refine Yn wx _ _ rfl base S (.slice va S.length vc) rfl hra s nb 1 rfl hg4.1 hll (Nat.le_trans hbs hfs) ?_;intro g2 cap2 w2 hr2 hg2 ha2 hl2;have hrg:∀k,(Value.slice va S.length vc).ownBlock=some k→base≤k:=fun k e=>(hra.lt k e).1
   go_wp2_with fail
   exact⟨nb,g2,cap2,z5,.slice va S.length vc,z7,z8,.slice (some ⟨nb,0,none⟩) 1 1,.slice (some ⟨(g2),0,none⟩) (S.length+1) (cap2),z11,⟨kl nl,kq hV.p4_3,(kd (d3)),(kd (d4)),(fun _=>Bh L 5),kc hV.c0,kc hV.c1,kc hV.c2,kc hV.c3,kc hV.c4,(fun _=>rfl),kc hV.c6,(hV.fr.grown hg2 hrg),(fun h=>by rw[Bd L (by decide)]at h;rw[d3]at h;cases h),(fun _=>(hV.pb d3).grown hg2 hrg (by omega)),(hV.c.grew hg2 (fun e=>by have:=hrg _ e;omega)),(fun h=>(hV.x (kb h)).grew hg2 (fun e=>by have:=hrg _ e;omega)),kl nl,(ks),(fun _=>⟨hr2,by rcases ha2 with h|h;exact .inl h;exact .inr (by omega)⟩),(fun _=>ks),(fun b h1 h2 h3=>(hg2.block b (by omega) (fun e=>h3 e.symm)).trans (hV.gr b h1 h2 h3))⟩,rfl⟩
  ·have nl:=kf hV.ord hl
   refine Bg _ rfl rfl (fun K' hK=> ?_)
   conv=>arg 2;whnf
   go_wp2_with fail
   exact⟨nb,gn,cn,z5,z6,z7,z8,z9,z10,.pointer (some ⟨ob,1,none⟩),⟨kl nl,kq hV.p4_3,kq hV.p5_3,kq hV.p5_4,kq hV.p7_5,kc hV.c0,kc hV.c1,kc hV.c2,kc hV.c3,kc hV.c4,kc hV.c5,(fun _=>rfl),hV.fr,(fun h0=>hV.pa (kb h0)),kc hV.pb,hV.c,(fun h0=>hV.x (kb h0)),kl nl,(fun h0=>hV.ra (kb h0)),kc hV.rb,(fun h0=>fun h1=>hV.g4 (kb h0) (kb h1)),hV.gr⟩,rfl⟩
  ·have before:∀j,j<7→L j=true:=fun j hj=>by
    have hj:j=0∨j=1∨j=2∨j=3∨j=4∨j=5∨j=6:=by omega
    rcases hj with rfl|rfl|rfl|rfl|rfl|rfl|rfl
    ·exact hd _ rfl ⟨0,.phase⟩ (by simp) rfl
    ·exact hd _ rfl ⟨1,.phase⟩ (by simp) rfl
    ·exact hd _ rfl ⟨2,.phase⟩ (by simp) rfl
    ·exact hd _ rfl ⟨3,.phase⟩ (by simp) rfl
    ·exact hd _ rfl ⟨4,.phase⟩ (by simp) rfl
    ·exact hd _ rfl ⟨5,.data⟩ (by simp) rfl
    ·exact hd _ rfl ⟨6,.data⟩ (by simp) rfl
   have d5:L 5=true:=hd _ rfl ⟨5,.data⟩ (by simp) rfl;obtain rfl:=(hV.c5 d5).symm;have d6:L 6=true:=hd _ rfl ⟨6,.data⟩ (by simp) rfl;obtain rfl:=(hV.c6 d6).symm;have hx:=hV.x hl;have x1:=hx.at 1 _ rfl;have fx:=hx.fz 1;have hxl:=hx.lt;have b3:=before 3 (by decide);have b5:=before 5 (by decide);refine Bg _ rfl rfl (fun K' hK=> ?_)
   conv=>arg 2;whnf
   go_wp2_with fail
   exact⟨nb,gn,cn,z5,z6,z7,z8,z9,.slice (some ⟨gn,0,none⟩) (S.length+1) cn,.pointer (some ⟨ob,1,none⟩),⟨(fun _ j hj=>by rw[Bd L (show j≠7 by omega)];exact before j hj),kq hV.p4_3,kq hV.p5_3,kq hV.p5_4,(kd (before 5 (by decide))),kc hV.c0,kc hV.c1,kc hV.c2,kc hV.c3,kc hV.c4,kc hV.c5,kc hV.c6,(hV.fr.set _ _),(fun h=>by rw[Bd L (by decide)]at h;rw[b3]at h;cases h),(fun _=>(hV.pb b3).other (by omega) _ _),(hV.c.other (by omega) _ _),(ks),(fun _=>hx.set 1 (.slice (some ⟨gn,0,none⟩) (S.length+1) cn)),(fun h=>by rw[Bd L (by decide)]at h;rw[b5]at h;cases h),(fun _=>⟨El.low (hV.rb b5).1 hob _ _,(hV.rb b5).2⟩),(fun _ h=>by rw[Bd L (by decide)]at h;rw[b5]at h;cases h),(fun b h1 h2 h3=>(Below.heap_setCell _ _ _ _ (show b≠ob by omega)).trans (hV.gr b h1 h2 h3))⟩,rfl⟩
 ·intro L act wx hI hall
  obtain⟨nb,gn,cn,z5,z6,z7,z8,z9,z10,z11,hV,rfl⟩:=hI;obtain rfl:=(hV.c0 (hall 0 (by decide))).symm;obtain rfl:=(hV.c1 (hall 1 (by decide))).symm;obtain rfl:=(hV.c2 (hall 2 (by decide))).symm;obtain rfl:=(hV.c3 (hall 3 (by decide))).symm;obtain rfl:=(hV.c4 (hall 4 (by decide))).symm;obtain rfl:=(hV.c5 (hall 5 (by decide))).symm;obtain rfl:=(hV.c6 (hall 6 (by decide))).symm;exact hM _ _ (Met.intro (hJ _ _ ⟨nb,gn,cn,⟨hV.fr,hV.pb (hall 3 (by decide)),hV.c,hV.x7 (hall 7 (by decide)),(hV.rb (hall 5 (by decide))).1,(hV.rb (hall 5 (by decide))).2,hV.gr⟩,rfl⟩))
structure VY4 (p tb cb ob base:Nat)(nm:Bs)(va:Option Addr)(vc:Nat)(S:List Bs)(ov:Value)(s:Bs)(l r:List Tk)(err:Option Int)(W:World)(L:Nat→Bool)(nb:Nat)(gn:Nat)(cn:Nat)(z16 z17 z18 z19 z20 z21 z22:Value)(wx:World):Prop where
 ord:L 7=true→∀j,j<7→L j=true
 p4_3:L 4=true→L 3=true
 p5_3:L 5=true→L 3=true
 p5_4:L 5=true→L 4=true
 p7_5:L 7=true→L 5=true
 c0:L 0=true→z16= .pointer (some ⟨ob,2,none⟩)
 c1:L 1=true→z17= .slice va S.length vc
 c2:L 2=true→z18= .pointer (some ⟨p,0,none⟩)
 c3:L 3=true→z19= .string (Aa s)
 c4:L 4=true→z20= .slice (some ⟨nb,0,none⟩) 1 1
 c5:L 5=true→z21= .slice (some ⟨gn,0,none⟩) (S.length+1) cn
 c6:L 6=true→z22= .pointer (some ⟨ob,2,none⟩)
 fr:AFr p ob base W wx
 pa:L 3=false→Ps wx p tb l
 pb:L 3=true→Ps wx p tb r
 c:Ac wx cb [.pointer (some ⟨p,0,none⟩)] 64
 x:L 7=false→Ac wx ob [.string (Aa nm),ov,.slice va S.length vc,.slice none 0 0] 58
 x7:L 7=true→Ac wx ob [.string (Aa nm),ov,.slice (some ⟨gn,0,none⟩) (S.length+1) cn,.slice none 0 0] 58
 ra:L 5=false→Hr wx base S (.slice va S.length vc)
 rb:L 5=true→Hr wx base (S++[s]) (.slice (some ⟨gn,0,none⟩) (S.length+1) cn)∧((Value.slice va S.length vc).ownBlock=some gn∨W.heap.size≤gn)
 g4:L 4=true→L 5=false→Ac wx nb (Ga s) 9∧base≤nb
 gr:∀b,b<W.heap.size→base≤b→(Value.slice va S.length vc).ownBlock≠some b→wx.heap[b]? =W.heap[b]?
def IY4(p tb cb ob base:Nat)(nm:Bs)(va:Option Addr)(vc:Nat)(S:List Bs)(ov:Value)(s:Bs)(l r:List Tk)(err:Option Int)(W:World)(q0 q1 q3 q4 q6 q7 q8 q9 q10 q11 q12 q13 q14 q15 q23 q24 q25 q26 q27 q28 q29:Value)(L:Nat→Bool)(a':Act)(w':World):Prop:=
 ∃nb:Nat,∃gn:Nat,∃cn:Nat,∃z16 z17 z18 z19 z20 z21 z22:Value,VY4 p tb cb ob base nm va vc S ov s l r err W L nb gn cn z16 z17 z18 z19 z20 z21 z22 w'∧a'=⟨[q0,q1,.pointer (some ⟨cb,0,none⟩),q3,q4,.pointer (some ⟨ob,0,none⟩),q6,q7,q8,q9,q10,q11,q12,q13,q14,q15,z16,z17,z18,z19,z20,z21,z22,q23,q24,q25,q26,q27,q28,q29].toArray,[]⟩
def RY4(p tb cb ob base:Nat)(nm:Bs)(va:Option Addr)(vc:Nat)(S:List Bs)(ov:Value)(s:Bs)(l r:List Tk)(err:Option Int)(W:World)(q0 q1 q3 q4 q6 q7 q8 q9 q10 q11 q12 q13 q14 q15 q23 q24 q25 q26 q27 q28 q29:Value)(a':Act)(w':World):Prop:=
 ∃nb:Nat,∃gn:Nat,∃cn:Nat,(AFr p ob base W w'∧Ps w' p tb r∧Ac w' cb [.pointer (some ⟨p,0,none⟩)] 64∧Ac w' ob [.string (Aa nm),ov,.slice (some ⟨gn,0,none⟩) (S.length+1) cn,.slice none 0 0] 58∧Hr w' base (S++[s]) (.slice (some ⟨gn,0,none⟩) (S.length+1) cn)∧((Value.slice va S.length vc).ownBlock=some gn∨W.heap.size≤gn)∧(∀b,b<W.heap.size→base≤b→(Value.slice va S.length vc).ownBlock≠some b→w'.heap[b]? =W.heap[b]?))∧a'=⟨[q0,q1,.pointer (some ⟨cb,0,none⟩),q3,q4,.pointer (some ⟨ob,0,none⟩),q6,q7,q8,q9,q10,q11,q12,q13,q14,q15,.pointer (some ⟨ob,2,none⟩),.slice va S.length vc,.pointer (some ⟨p,0,none⟩),.string (Aa s),.slice (some ⟨nb,0,none⟩) 1 1,.slice (some ⟨gn,0,none⟩) (S.length+1) cn,.pointer (some ⟨ob,2,none⟩),q23,q24,q25,q26,q27,q28,q29].toArray,[]⟩
theorem eN(p tb cb ob base:Nat)(nm:Bs)(va:Option Addr)(vc:Nat)(S:List Bs)(ov:Value)(s:Bs)(l r:List Tk)(err:Option Int)(W:World)(hps:Ps W p tb l)(hc:Ac W cb [.pointer (some ⟨p,0,none⟩)] 64)(ho:Ac W ob [.string (Aa nm),ov,.slice va S.length vc,.slice none 0 0] 58)(hrow:Hr W base S (.slice va S.length vc))(hpc:p<cb)(hco:cb<ob)(hob:ob<base)(hbs:base≤W.heap.size)(hll:S.length≤1000000)(HNM:Hid (∀w1,Ps w1 p tb l→Calls Zb 65 #[.pointer (some ⟨p,0,none⟩)] w1 fun e w'=>match err with|some n=>e=Ay n∧SFr p w1 w'|none=>e= .returned (.string (Aa s))∧SFr p w1 w'∧Ps w' p tb r))(Q:Exit→Act→World→Prop)(hQ:∀n a' w',err=some n→a'.defers=[]→AFr p ob base W w'→Q (.panic [{v:= .iface 110 (.agg #[.int .i64 n]),recovered:=false}]) a' w')(q0 q1 q3 q4 q6 q7 q8 q9 q10 q11 q12 q13 q14 q15 q16 q17 q18 q19 q20 q21 q22 q23 q24 q25 q26 q27 q28 q29:Value)(J K':Act→World→Prop)(hJ:∀a' w',RY4 p tb cb ob base nm va vc S ov s l r err W q0 q1 q3 q4 q6 q7 q8 q9 q10 q11 q12 q13 q14 q15 q23 q24 q25 q26 q27 q28 q29 a' w'→J a' w')(hM:∀a' w',Met J a' w'→K' a' w'):
  Code.wp Zb ((Tryz.f68.body.bind (Hj 5)).getD .skip) (Exit.then K' Q) ⟨[q0,q1,.pointer (some ⟨cb,0,none⟩),q3,q4,.pointer (some ⟨ob,0,none⟩),q6,q7,q8,q9,q10,q11,q12,q13,q14,q15,q16,q17,q18,q19,q20,q21,q22,q23,q24,q25,q26,q27,q28,q29].toArray,[]⟩ W:=by
 have HPS:=Za hps;have HC:=Za hc;have HO:=Za ho;have HROW:=Za hrow;have HQ:=Za hQ;clear hps hc ho hrow hQ
 conv=>arg 2;whnf
 (try dsimp only);refine Fc (by kernel_rfl) (by kernel_rfl) (IY4 p tb cb ob base nm va vc S ov s l r err W q0 q1 q3 q4 q6 q7 q8 q9 q10 q11 q12 q13 q14 q15 q23 q24 q25 q26 q27 q28 q29) ?_ ?_ ?_
 ·exact⟨0,0,0,q16,q17,q18,q19,q20,q21,q22,⟨(fun h=>by cases h),(fun h=>by cases h),(fun h=>by cases h),(fun h=>by cases h),(fun h=>by cases h),(fun h=>by cases h),(fun h=>by cases h),(fun h=>by cases h),(fun h=>by cases h),(fun h=>by cases h),(fun h=>by cases h),(fun h=>by cases h),((AFr.refl p ob base W).old (Zf _ _).drew),(fun _=>HPS.out.old (Zf _ _).drew),(fun h=>by cases h),(HC.out.old (Zf _ _).drew),(fun _=>HO.out.old (Zf _ _).drew),(fun h=>by cases h),(fun _=>HROW.out.old (Zf _ _).drew),(fun h=>by cases h),(fun h=>fun _=>by cases h),(fun b _ _ _=>rfl)⟩,rfl⟩
 ·intro L act wx k hI hk hl hd
  obtain⟨nb,gn,cn,z16,z17,z18,z19,z20,z21,z22,hV,rfl⟩:=hI;have hk:k=0∨k=1∨k=2∨k=3∨k=4∨k=5∨k=6∨k=7:=by
   have:k<8:=hk;omega
  rcases hk with rfl|rfl|rfl|rfl|rfl|rfl|rfl|rfl
  ·have nl:=kf hV.ord hl
   refine Bg _ rfl rfl (fun K' hK=> ?_)
   conv=>arg 2;whnf
   go_wp2_with fail
   exact⟨nb,gn,cn,.pointer (some ⟨ob,2,none⟩),z17,z18,z19,z20,z21,z22,⟨kl nl,kq hV.p4_3,kq hV.p5_3,kq hV.p5_4,kq hV.p7_5,(fun _=>rfl),kc hV.c1,kc hV.c2,kc hV.c3,kc hV.c4,kc hV.c5,kc hV.c6,hV.fr,(fun h0=>hV.pa (kb h0)),kc hV.pb,hV.c,(fun h0=>hV.x (kb h0)),kl nl,(fun h0=>hV.ra (kb h0)),kc hV.rb,(fun h0=>fun h1=>hV.g4 (kb h0) (kb h1)),hV.gr⟩,rfl⟩
  ·have nl:=kf hV.ord hl
   have d0:L 0=true:=hd _ rfl ⟨0,.data⟩ (by simp) rfl;obtain rfl:=(hV.c0 d0).symm;have l7:L 7=false:=nl;have ho:=hV.x l7;have x1:=ho.at 2 _ rfl;refine Bg _ rfl rfl (fun K' hK=> ?_)
   conv=>arg 2;whnf
   go_wp2_with fail
   exact⟨nb,gn,cn,.pointer (some ⟨ob,2,none⟩),.slice va S.length vc,z18,z19,z20,z21,z22,⟨kl nl,kq hV.p4_3,kq hV.p5_3,kq hV.p5_4,kq hV.p7_5,kc hV.c0,(fun _=>rfl),kc hV.c2,kc hV.c3,kc hV.c4,kc hV.c5,kc hV.c6,hV.fr,(fun h0=>hV.pa (kb h0)),kc hV.pb,hV.c,(fun h0=>hV.x (kb h0)),kl nl,(fun h0=>hV.ra (kb h0)),kc hV.rb,(fun h0=>fun h1=>hV.g4 (kb h0) (kb h1)),hV.gr⟩,rfl⟩
  ·have nl:=kf hV.ord hl
   have hc0:=hV.c.at 0 _ rfl;refine Bg _ rfl rfl (fun K' hK=> ?_)
   conv=>arg 2;whnf
   go_wp2_with fail
   exact⟨nb,gn,cn,z16,z17,.pointer (some ⟨p,0,none⟩),z19,z20,z21,z22,⟨kl nl,kq hV.p4_3,kq hV.p5_3,kq hV.p5_4,kq hV.p7_5,kc hV.c0,kc hV.c1,(fun _=>rfl),kc hV.c3,kc hV.c4,kc hV.c5,kc hV.c6,hV.fr,(fun h0=>hV.pa (kb h0)),kc hV.pb,hV.c,(fun h0=>hV.x (kb h0)),kl nl,(fun h0=>hV.ra (kb h0)),kc hV.rb,(fun h0=>fun h1=>hV.g4 (kb h0) (kb h1)),hV.gr⟩,rfl⟩
  ·have nl:=kf hV.ord hl
   have d2:L 2=true:=hd _ rfl ⟨2,.data⟩ (by simp) rfl;obtain rfl:=(hV.c2 d2).symm;have hps:=hV.pa hl;refine Bg _ rfl rfl (fun K' hK=> ?_)
   conv=>arg 2;whnf
   have HPX:=Za hps;have HFX:=Za hV.fr;clear hps;go_wp2_with fail
   refine(HNM.out _ HPX.out).mono ?_;intro e w7 he
   cases err with
   |some n=>
    obtain⟨rfl,hf⟩:=he;unfold Ay;have HF:=Za (HFX.out.trans (AFr.of_sfr hf));clear hf hK hV;go_wp2_with fail
    exact HQ.out n _ _ rfl rfl HF.out
   |none=>
   obtain⟨rfl,hf7,hp7⟩:=he;go_wp2_with fail
   exact⟨nb,gn,cn,z16,z17,.pointer (some ⟨p,0,none⟩),.string (Aa s),z20,z21,z22,⟨kl nl,(fun _=>Bh L 3),(fun _=>Bh L 3),kq hV.p5_4,kq hV.p7_5,kc hV.c0,kc hV.c1,kc hV.c2,(fun _=>rfl),kc hV.c4,kc hV.c5,kc hV.c6,(hV.fr.trans (AFr.of_sfr hf7)),(ks),(fun _=>hp7),(hV.c.sfr hf7 (by omega)),(fun h=>(hV.x (kb h)).sfr hf7 (by omega)),kl nl,(fun h=>(hV.ra (kb h)).sfr hf7 (by omega)),(fun h=>⟨El.sfr (hV.rb (kb h)).1 hf7 (by omega),(hV.rb (kb h)).2⟩),(fun h1 h2=>⟨Ac.sfr (hV.g4 (kb h1) (kb h2)).1 hf7 (by have:=(hV.g4 (kb h1) (kb h2)).2;omega),(hV.g4 (kb h1) (kb h2)).2⟩),(fun b h1 h2 h3=>(hf7.block b (by have:=hV.fr.size;omega) (by omega)).trans (hV.gr b h1 h2 h3))⟩,rfl⟩
  ·have nl:=kf hV.ord hl
   have d3:L 3=true:=hd _ rfl ⟨3,.data⟩ (by simp) rfl;obtain rfl:=(hV.c3 d3).symm;have hal:Below wx.heap.size wx (wx.alloc (.cells #[.string (Aa s)] 9)):=bA;have hfs:=hV.fr.size;refine Bg _ rfl rfl (fun K' hK=> ?_)
   conv=>arg 2;whnf
   go_wp2_with fail
   exact⟨wx.heap.size,gn,cn,z16,z17,z18,.string (Aa s),.slice (some ⟨(wx.heap.size),0,none⟩) 1 1,z21,z22,⟨kl nl,(kd (d3)),kq hV.p5_3,(fun _=>Bh L 4),kq hV.p7_5,kc hV.c0,kc hV.c1,kc hV.c2,kc hV.c3,(fun _=>rfl),kc hV.c5,kc hV.c6,(AFr.old (hV.fr) hal),(fun h0=>Ps.old (hV.pa (kb h0)) hal),(fun h0=>Ps.old (hV.pb (kb h0)) hal),(Ac.old (hV.c) hal),(fun h0=>Ac.old (hV.x (kb h0)) hal),kl nl,(fun h0=>El.old (hV.ra (kb h0)) hal),(kn hV.p5_4 hl),(fun _ _=>⟨Zg wx (Ga s) 9,by omega⟩),(fun b h1 h2 h3=>(hal.block b (by omega)).trans ((hV.gr) b h1 h2 h3))⟩,rfl⟩
  ·have nl:=kf hV.ord hl
   have d1:L 1=true:=hd _ rfl ⟨1,.data⟩ (by simp) rfl;obtain rfl:=(hV.c1 d1).symm;have d3:L 3=true:=hd _ rfl ⟨3,.chain⟩ (by simp) rfl;have d4:L 4=true:=hd _ rfl ⟨4,.data⟩ (by simp) rfl;obtain rfl:=(hV.c4 d4).symm;have d3:L 3=true:=hd _ rfl ⟨3,.chain⟩ (by simp) rfl;have hg4:=hV.g4 d4 hl;have hra:=hV.ra hl;have hfs:=hV.fr.size;refine Bg _ rfl rfl (fun K' hK=> ?_)
   conv=>arg 2;whnf
   refine Yn wx _ _ rfl base S (.slice va S.length vc) rfl hra s nb 1 rfl hg4.1 hll (Nat.le_trans hbs hfs) ?_;intro g2 cap2 w2 hr2 hg2 ha2 hl2;have hrg:∀k,(Value.slice va S.length vc).ownBlock=some k→base≤k:=fun k e=>(hra.lt k e).1
   go_wp2_with fail
   exact⟨nb,g2,cap2,z16,.slice va S.length vc,z18,z19,.slice (some ⟨nb,0,none⟩) 1 1,.slice (some ⟨(g2),0,none⟩) (S.length+1) (cap2),z22,⟨kl nl,kq hV.p4_3,(kd (d3)),(kd (d4)),(fun _=>Bh L 5),kc hV.c0,kc hV.c1,kc hV.c2,kc hV.c3,kc hV.c4,(fun _=>rfl),kc hV.c6,(hV.fr.grown hg2 hrg),(fun h=>by rw[Bd L (by decide)]at h;rw[d3]at h;cases h),(fun _=>(hV.pb d3).grown hg2 hrg (by omega)),(hV.c.grew hg2 (fun e=>by have:=hrg _ e;omega)),(fun h=>(hV.x (kb h)).grew hg2 (fun e=>by have:=hrg _ e;omega)),kl nl,(ks),(fun _=>⟨hr2,by rcases ha2 with h|h;exact .inl h;exact .inr (by omega)⟩),(fun _=>ks),(fun b h1 h2 h3=>(hg2.block b (by omega) (fun e=>h3 e.symm)).trans (hV.gr b h1 h2 h3))⟩,rfl⟩
  ·have nl:=kf hV.ord hl
   refine Bg _ rfl rfl (fun K' hK=> ?_)
   conv=>arg 2;whnf
   go_wp2_with fail
   exact⟨nb,gn,cn,z16,z17,z18,z19,z20,z21,.pointer (some ⟨ob,2,none⟩),⟨kl nl,kq hV.p4_3,kq hV.p5_3,kq hV.p5_4,kq hV.p7_5,kc hV.c0,kc hV.c1,kc hV.c2,kc hV.c3,kc hV.c4,kc hV.c5,(fun _=>rfl),hV.fr,(fun h0=>hV.pa (kb h0)),kc hV.pb,hV.c,(fun h0=>hV.x (kb h0)),kl nl,(fun h0=>hV.ra (kb h0)),kc hV.rb,(fun h0=>fun h1=>hV.g4 (kb h0) (kb h1)),hV.gr⟩,rfl⟩
  ·have before:∀j,j<7→L j=true:=fun j hj=>by
    have hj:j=0∨j=1∨j=2∨j=3∨j=4∨j=5∨j=6:=by omega
    rcases hj with rfl|rfl|rfl|rfl|rfl|rfl|rfl
    ·exact hd _ rfl ⟨0,.phase⟩ (by simp) rfl
    ·exact hd _ rfl ⟨1,.phase⟩ (by simp) rfl
    ·exact hd _ rfl ⟨2,.phase⟩ (by simp) rfl
    ·exact hd _ rfl ⟨3,.phase⟩ (by simp) rfl
    ·exact hd _ rfl ⟨4,.phase⟩ (by simp) rfl
    ·exact hd _ rfl ⟨5,.data⟩ (by simp) rfl
    ·exact hd _ rfl ⟨6,.data⟩ (by simp) rfl
   have d5:L 5=true:=hd _ rfl ⟨5,.data⟩ (by simp) rfl;obtain rfl:=(hV.c5 d5).symm;have d6:L 6=true:=hd _ rfl ⟨6,.data⟩ (by simp) rfl;obtain rfl:=(hV.c6 d6).symm;have hx:=hV.x hl;have x1:=hx.at 2 _ rfl;have fx:=hx.fz 2;have hxl:=hx.lt;have b3:=before 3 (by decide);have b5:=before 5 (by decide);refine Bg _ rfl rfl (fun K' hK=> ?_)
   conv=>arg 2;whnf
   go_wp2_with fail
   exact⟨nb,gn,cn,z16,z17,z18,z19,z20,.slice (some ⟨gn,0,none⟩) (S.length+1) cn,.pointer (some ⟨ob,2,none⟩),⟨(fun _ j hj=>by rw[Bd L (show j≠7 by omega)];exact before j hj),kq hV.p4_3,kq hV.p5_3,kq hV.p5_4,(kd (before 5 (by decide))),kc hV.c0,kc hV.c1,kc hV.c2,kc hV.c3,kc hV.c4,kc hV.c5,kc hV.c6,(hV.fr.set _ _),(fun h=>by rw[Bd L (by decide)]at h;rw[b3]at h;cases h),(fun _=>(hV.pb b3).other (by omega) _ _),(hV.c.other (by omega) _ _),(ks),(fun _=>hx.set 2 (.slice (some ⟨gn,0,none⟩) (S.length+1) cn)),(fun h=>by rw[Bd L (by decide)]at h;rw[b5]at h;cases h),(fun _=>⟨El.low (hV.rb b5).1 hob _ _,(hV.rb b5).2⟩),(fun _ h=>by rw[Bd L (by decide)]at h;rw[b5]at h;cases h),(fun b h1 h2 h3=>(Below.heap_setCell _ _ _ _ (show b≠ob by omega)).trans (hV.gr b h1 h2 h3))⟩,rfl⟩
 ·intro L act wx hI hall
  obtain⟨nb,gn,cn,z16,z17,z18,z19,z20,z21,z22,hV,rfl⟩:=hI;obtain rfl:=(hV.c0 (hall 0 (by decide))).symm;obtain rfl:=(hV.c1 (hall 1 (by decide))).symm;obtain rfl:=(hV.c2 (hall 2 (by decide))).symm;obtain rfl:=(hV.c3 (hall 3 (by decide))).symm;obtain rfl:=(hV.c4 (hall 4 (by decide))).symm;obtain rfl:=(hV.c5 (hall 5 (by decide))).symm;obtain rfl:=(hV.c6 (hall 6 (by decide))).symm;exact hM _ _ (Met.intro (hJ _ _ ⟨nb,gn,cn,⟨hV.fr,hV.pb (hall 3 (by decide)),hV.c,hV.x7 (hall 7 (by decide)),(hV.rb (hall 5 (by decide))).1,(hV.rb (hall 5 (by decide))).2,hV.gr⟩,rfl⟩))
structure Ki (W:World)(p tb cb ob base:Nat)(nm:Bs)(pa:Option Addr)(pc:Nat)(pl:List Bs)(la:Option Addr)(lc:Nat)(ll:List Bs)(l:List Tk)(wx:World):Prop where
 fr:AFr p ob base W wx
 par:Ps wx p tb l
 c:Ac wx cb [.pointer (some ⟨p,0,none⟩)] 64
 o:Ac wx ob [.string (Aa nm),.slice pa pl.length pc,.slice la ll.length lc,.slice none 0 0] 58
 rp:Hr wx base pl (.slice pa pl.length pc)
 rl:Hr wx base ll (.slice la ll.length lc)
 ap:∀g,(Value.slice pa pl.length pc).ownBlock=some g→(Value.slice la ll.length lc).ownBlock≠some g
 len:pl.length+ll.length+l.length≤1000000
section
variable {W:World} {p tb cb ob base:Nat} {nm:Bs} {pa:Option Addr} {pc:Nat} {pl:List Bs} {la:Option Addr} {lc:Nat} {ll:List Bs} {l r:List Tk} {wx w':World}
theorem Ki.old(h:Ki W p tb cb ob base nm pa pc pl la lc ll l wx)(hb:Below wx.heap.size wx w'):Ki W p tb cb ob base nm pa pc pl la lc ll l w':=
 ⟨h.fr.old hb,h.par.old hb,h.c.old hb,h.o.old hb,h.rp.old hb,h.rl.old hb,h.ap,h.len⟩
theorem Ki.next(h:Ki W p tb cb ob base nm pa pc pl la lc ll l wx)(hn:Jw p cb ob base W)(hf:SFr p wx w')(hp:Ps w' p tb r)(hl:r.length≤l.length):Ki W p tb cb ob base nm pa pc pl la lc ll r w':=
 have h1:=hn.pc;have h2:=hn.co;have h3:=hn.ob
 ⟨h.fr.trans (AFr.of_sfr hf),hp,h.c.sfr hf (by omega),h.o.sfr hf (by omega),h.rp.sfr hf (by omega),h.rl.sfr hf (by omega),h.ap,by have:=h.len;omega⟩
end
theorem El.gr {α:Type}{e:TypeId}{cf:α→List Value}{k:Nat}{w w':World}{base:Nat}{L:List α}{v:Value}(h:El e cf k w base L v){v0:Value}(hk:∀b,b<w.heap.size→base≤b→v0.ownBlock≠some b→w'.heap[b]? =w.heap[b]?)(hne:∀g,v.ownBlock=some g→v0.ownBlock≠some g):El e cf k w' base L v:=by
 refine⟨h.1,?_⟩;have hlt:=h.lt;rcases h.2 with hn|⟨g,cap,cur,rfl,hg,hh,r⟩
 ·exact .inl hn
 ·refine .inr ⟨g,cap,cur,rfl,hg,?_,r⟩
  rw[hk g (hlt g rfl).2 hg (hne g rfl)];exact hh
def In(l:List Tk):PR Bs:=match Ak [105,110,116] l with
 | .error e=> .error e
 | .ok r=>Dg r
theorem Pj {l r:List Tk}{s:Bs}(h:In l= .ok (s,r)):r.length<l.length:=by
 unfold In at h
 cases h1:Ak [105,110,116] l with
 |error e=>rw[h1]at h;cases h
 |ok q=>rw[h1]at h;have:=Az h1;have:=Fb h;omega
def OneR(W:World)(p tb cb ob base:Nat)(nm:Bs)(pl:List Bs)(la:Option Addr)(lc:Nat)(ll:List Bs)(R:PR Bs)(e:Ending)(w':World):Prop:=
 match R with
 | .ok (s,r)=>e= .returned (.tuple #[])∧∃gn cn,Ki W p tb cb ob base nm (some ⟨gn,0,none⟩) cn (pl++[s]) la lc ll r w'
 | .error n=>e=Ay n∧AFr p ob base W w'
theorem fn1_any(W wx:World)(p tb cb ob base:Nat)(nm:Bs)(pa:Option Addr)(pc:Nat)(pl:List Bs)(la:Option Addr)(lc:Nat)(ll:List Bs)(l:List Tk)(hn:Jw p cb ob base W)(h:Ki W p tb cb ob base nm pa pc pl la lc ll l wx):
  Calls Zb 126 #[.pointer (some ⟨cb,0,none⟩),.pointer (some ⟨ob,0,none⟩)] wx (OneR W p tb cb ob base nm pl la lc ll (In l)):=by
 obtain⟨R,hR⟩:∃R,In l=R:=⟨_,rfl⟩;rw[hR];have HR:=Za hR;have c0:=h.c.at 0 _ rfl;have hba:Below wx.heap.size wx (wx.alloc (.cells #[.string ⟨#[105,110,116]⟩] 9)):=bA;have HA:=Za (h.old hba);have HWN:=Za (Cd p tb l [105,110,116] _ (h.old hba).par wx.heap.size 1 ((Zg wx [.string ⟨#[105,110,116]⟩] 9).at 0 _ rfl));have HN:=Za hn;clear hR h hba hn;go_enter Tryz.func126,Tryz.ntmps126
 go_wp2_with fail
 refine HWN.out.mono ?_;intro e w2 he
 cases hw:Ak [105,110,116] l with
 |error n=>
  rw[hw]at he;obtain⟨hf,rfl⟩:=he;have HF:=Za (HA.out.fr.trans (AFr.of_sfr hf));have e1:R= .error n:=by rw[←HR.out];unfold In;rw[hw]
  subst e1;clear hf hw;unfold Ay;go_wp2_with fail
  exact⟨rfl,rfl,HF.out⟩
 |ok r1=>
  rw[hw]at he;obtain⟨hf,rfl,hp⟩:=he;have HA2:=Za (HA.out.next HN.out hf hp (Nat.le_of_lt (Az hw)));have hR2:Dg r1=R:=by rw[←HR.out];unfold In;rw[hw]
  have hlw:=Az hw;have HLW:=Za hlw;clear hf hp hw hlw;go_upto_region 1 with(fail)
  have hbs:base≤w2.heap.size:=Nat.le_trans HN.out.bs HA2.out.fr.size;have hll:pl.length≤1000000:=by have:=HA2.out.len;omega
  have n1:=HN.out.pc;have n2:=HN.out.co;have n3:=HN.out.ob
  cases hy:Dg r1 with
  |error n=>
   rw[hy]at hR2;subst hR2;refine wp_mono (Q:=Exit.then (Met (RY3 p tb cb ob base nm pa pc pl (.slice la ll.length lc) [] r1 [] (some n) w2 _ _ _)) _) (dI p tb cb ob base nm pa pc pl (.slice la ll.length lc) [] r1 [] (some n) w2 HA2.out.par HA2.out.c HA2.out.o HA2.out.rp n1 n2 n3 hbs hll (fun w1 h1=>by have h2:=Do p tb r1 w1 h1;rw[hy]at h2;exact h2.mono (fun e w2 h=>⟨h.2,h.1⟩)) (fun e a' w'=> ∃n',e= .panic [{v:= .iface 110 (.agg #[.int .i64 n']),recovered:=false}]∧n=n'∧a'.defers=[]∧AFr p ob base w2 w') (fun n' a' w' hn hd hf=>by injection hn with hn;exact⟨n',rfl,hn,hd,hf⟩) _ _ _ _ _ _ _ _ _ _ _ _ (fun _ _ q=>q) (fun _ _ q=>q)) ?_;intro e a' w' hq
   cases e with
   |normal=>
    obtain⟨nb,gn,cn,⟨_,hp,_⟩,_⟩:=(show RY3 p tb cb ob base nm pa pc pl (.slice la ll.length lc) [] r1 [] (some n) w2 _ _ _ a' w' from hq);exact hp.ends.elim
   |panic ch=>
    obtain⟨n2,he,rfl,hd,hf⟩:=hq;injection he with he
    subst he;exact⟨hd,rfl,HA2.out.fr.trans hf⟩
   |_=>
    obtain⟨n2,he,_⟩:=hq
    cases he
  |ok q=>
   obtain⟨s,r⟩:=q;rw[hy]at hR2;subst hR2;have hlr:=Fb hy;refine wp_mono (Q:=Exit.then (Met (RY3 p tb cb ob base nm pa pc pl (.slice la ll.length lc) s r1 r none w2 _ _ _)) (fun _ _ _=>False)) (dI p tb cb ob base nm pa pc pl (.slice la ll.length lc) s r1 r none w2 HA2.out.par HA2.out.c HA2.out.o HA2.out.rp n1 n2 n3 hbs hll (fun w1 h1=>by have h2:=Do p tb r1 w1 h1;rw[hy]at h2;exact h2.mono (fun e w2 h=>by obtain⟨hf,v,rfl,hp,hv⟩:=h;have hv:v= .string (Aa s):=hv;subst hv;exact⟨rfl,hf,hp⟩)) (fun _ _ _=>False) (fun n' a' w' hn=>by cases hn) _ _ _ _ _ _ _ _ _ _ _ _ (fun _ _ q=>q) (fun _ _ q=>q)) ?_;intro e a' w' hq
   cases e with
   |normal=>
    obtain⟨nb,gn,cn,⟨h1,h2,h3,h4,h5,h6,h7⟩,rfl⟩:=(show RY3 p tb cb ob base nm pa pc pl (.slice la ll.length lc) s r1 r none w2 _ _ _ a' w' from hq);have hl1:(pl++[s]).length=pl.length+1:=by simp
    have hrl:=HA2.out.rl.gr h7 (fun g e e2=>HA2.out.ap g e2 e);refine bodyPost_end (v:= .tuple #[]) (by simp [results,Tryz.results126,go_sem]) rfl ⟨rfl,gn,cn,HA2.out.fr.trans h1,h2,h3,?_,?_,hrl,?_,?_⟩
    ·rw[hl1];exact h4
    ·rw[hl1];exact h5
    ·intro g e e2
     rw[hl1]at e;have e:gn=g:=by injection e
     subst e;rcases h6 with h6|h6
     ·exact HA2.out.ap _ h6 e2
     ·have:=(HA2.out.rl.lt _ e2).2;omega
    ·rw[hl1];have:=HA2.out.len;omega
   |_=>exact False.elim hq
def Oh(g:Nat)(a:List Bs)(l:List Tk):PR (List Bs):=match Bk [44] l with
 |some r=>Jh g a r
 |none=>match Ak [41] l with
  | .error e=> .error e
  | .ok r=> .ok (a,r)
theorem Md {g:Nat}{a:List Bs}{l r:List Tk}{s:Bs}(h:In l= .ok (s,r)):Jh (g+1) a l=Oh g (a++[s]) r:=by
 unfold In at h;rw[Jh]
 cases h1:Ak [105,110,116] l with
 |error e=>rw[h1]at h;cases h
 |ok q=>rw[h1]at h;dsimp only at h ⊢;rw[h];rfl
theorem Pt {g:Nat}{a:List Bs}{l:List Tk}{n:Int}(h:In l= .error n):Jh (g+1) a l= .error n:=by
 unfold In at h;rw[Jh]
 cases h1:Ak [105,110,116] l with
 |error e=>rw[h1]at h;injection h with h;rw[h]
 |ok q=>rw[h1]at h;dsimp only at h ⊢;rw[h]
theorem Mp:∀(f:Nat) (a:List Bs) (l:List Tk) (x:List Bs) (r:List Tk),Jh f a l= .ok (x,r)→r.length<l.length
 |0,a,l,x,r,h=>by cases h
 |f+1,a,l,x,r,h=>by
  cases h1:In l with
  |error n=>rw[Pt h1]at h;cases h
  |ok q=>
   obtain⟨s,q⟩:=q;rw[Md h1]at h;have k1:=Pj h1;unfold Oh at h
   cases h2:Bk [44] q with
   |some z=>rw[h2]at h;have:=Mp f _ _ _ _ h;have:=Br h2;omega
   |none=>
    rw[h2]at h;dsimp only at h
    cases h3:Ak [41] q with
    |error e=>rw[h3]at h;cases h
    |ok z=>rw[h3]at h;injection h with h;injection h with _ h;subst h;have:=Az h3;omega
def Gm(f:Nat)(l:List Tk):PR (List Bs):=match Bk [41] l with|some r=> .ok ([],r)|none=>Jh f [] l
def eH(W:World)(p tb cb ob base:Nat)(nm:Bs)(R:PR (List Bs))(e:Ending)(w':World):Prop:=
 match R with
 | .ok (a,r)=>e= .returned (.tuple #[])∧∃pa pc,Ki W p tb cb ob base nm pa pc a none 0 [] r w'
 | .error n=>e=Ay n∧AFr p ob base W w'
def bL(ob cb:Nat):Value:= .func (.func 126) #[] #[.pointer (some ⟨cb,0,none⟩),.pointer (some ⟨ob,0,none⟩)]
theorem Ud(f:Nat)(w:World)(p tb cb ob base:Nat)(nm:Bs)(t:Tk)(r:List Tk)(hn:Jw p cb ob base w)(h:Ki w p tb cb ob base nm none 0 [] none 0 [] (t::r) w)(y:isP [41] t=true):
  Calls Zb 125 #[.pointer (some ⟨p,0,none⟩),bL ob cb] w (eH w p tb cb ob base nm (Gm f (t::r))):=by
 have e1:Gm f (t::r)= .ok ([],r):=by unfold Gm;rw[Ao y]
 rw[e1];have HT:=Za (Bc p tb t r [41] w h.par y);have HA:=Za h;have HN:=Za hn;clear e1 y h hn;unfold bL;go_enter Tryz.func125,Tryz.ntmps125
 go_wp2_with fail
 refine HT.out.mono ?_;rintro e w1 ⟨rfl,hf,hp⟩;have HA1:=Za (HA.out.next HN.out hf hp (by simp));clear hf hp;go_wp2_with fail
 first
  |(refine bodyPost_ret (results_none rfl _ _ _) rfl ?_)
  |go_end0
 exact⟨rfl,none,0,HA1.out⟩
structure ParI (w:World)(p tb cb ob base:Nat)(nm:Bs)(R:PR (List Bs))(g:Nat)(pa:Option Addr)(pc:Nat)(pl:List Bs)(l:List Tk)(wr:World):Prop where
 arg:Ki w p tb cb ob base nm pa pc pl none 0 [] l wr
 fuel:l.length≤g
 res:Oh g pl l=R
theorem Sn(f:Nat)(w:World)(p tb cb ob base:Nat)(nm:Bs)(t:Tk)(r:List Tk)(hn:Jw p cb ob base w)(h:Ki w p tb cb ob base nm none 0 [] none 0 [] (t::r) w)(hl:(t::r).length≤f)(n:isP [41] t=false):
  Calls Zb 125 #[.pointer (some ⟨p,0,none⟩),bL ob cb] w (eH w p tb cb ob base nm (Gm f (t::r))):=by
 have e1:Gm f (t::r)=Jh f [] (t::r):=by unfold Gm;rw[Ad n]
 rw[e1];obtain⟨g,rfl⟩:∃g,f=g+1:=⟨f - 1,by rw[Zc]at hl;omega⟩;obtain⟨R,hR⟩:∃R,Jh (g+1) [] (t::r)=R:=⟨_,rfl⟩;rw[hR];have HR:=Za hR;have HT:=Za (Ai p tb t r [41] w h.par n);have HA:=Za h;have HN:=Za hn;have HFU:=Za hl;clear e1 n h hn hR hl;unfold bL;go_enter Tryz.func125,Tryz.ntmps125
 go_wp2_with fail
 refine HT.out.mono ?_;rintro e w1 ⟨rfl,hb⟩;have HA1:=Za (HA.out.old hb);clear hb;have HX:Hid (∀(pa:Option Addr) (pc:Nat) (pl:List Bs) (l:List Tk) (wx:World),Ki w p tb cb ob base nm pa pc pl none 0 [] l wx→Calls Zb 126 #[.pointer (some ⟨cb,0,none⟩),.pointer (some ⟨ob,0,none⟩)] wx (OneR w p tb cb ob base nm pl none 0 [] (In l))):=
  fun pa pc pl l wx ha=>fn1_any w wx p tb cb ob base nm pa pc pl none 0 [] l HN.out ha
 go_wp2_with fail
 refine(HX.out none 0 [] (t::r) w1 HA1.out).mono ?_;intro e w2 he
 cases hc:In (t::r)with
 |error n=>
  rw[hc]at he;obtain⟨rfl,hf⟩:=he;have e2:=HR.out;rw[Pt hc]at e2;subst e2;have HF:=Za hf;clear hc hf;unfold Ay;go_wp2_with fail
  exact⟨rfl,rfl,HF.out⟩
 |ok q=>
  obtain⟨s,q⟩:=q;rw[hc]at he;obtain⟨rfl,gn,cn,ha⟩:=he;have e2:=HR.out;rw[Md hc]at e2;have hlen:=Pj hc;have HI0:Hid (ParI w p tb cb ob base nm R g (some ⟨gn,0,none⟩) cn ([]++[s]) q w2):=⟨ha,by have:=HFU.out;omega,e2⟩;clear ha hc hlen e2;go_wp2_with fail
  go_loopw [] (fun wr=> ∃(g':Nat) (pa:Option Addr) (pc:Nat) (pl:List Bs) (l:List Tk),Hid (ParI w p tb cb ob base nm R g' pa pc pl l wr)) (fun wr=>Cn p wr)
  case atStart=>exact⟨g,_,_,_,q,HI0⟩
  case round=>
   obtain⟨g',pa,pc,pl,l,HI⟩:=hrel;clear HI0;obtain⟨u,l,rfl⟩:=HI.out.arg.par.ends.ne
   cases hu:isP [44] u with
   |true=>
    have HTK:=Za (Bc p tb u l [44] wr HI.out.arg.par hu);have hres:Jh g' pl l=R:=by
     have:=HI.out.res;unfold Oh at this;rw[Ao hu]at this;exact this
    clear hu;go_wp2_with fail
    refine HTK.out.mono ?_;rintro e w3 ⟨rfl,hf,hp⟩;have HA3:=Za (HI.out.arg.next HN.out hf hp (by simp));have hfu:=HI.out.fuel;rw[Zc]at hfu;have hne:0<l.length:=by obtain⟨t2,r2,rfl⟩:=hp.ends.ne;simp
    clear hf hp;obtain⟨g2,hg2⟩:∃g2,g'=g2+1:=⟨g' - 1,by omega⟩;subst hg2;go_wp2_with fail
    refine(HX.out pa pc pl l w3 HA3.out).mono ?_;intro e w4 he
    cases hc:In l with
    |error n=>
     rw[hc]at he;obtain⟨rfl,hf⟩:=he;rw[Pt hc]at hres;subst hres;have HF:=Za hf;clear hc hf;unfold Ay;go_wp2_with fail
     exact⟨rfl,rfl,HF.out⟩
    |ok q2=>
     obtain⟨s2,q2⟩:=q2;rw[hc]at he;obtain⟨rfl,gn2,cn2,ha⟩:=he;rw[Md hc]at hres;have hlen:=Pj hc;have HI4:Hid (ParI w p tb cb ob base nm R g2 (some ⟨gn2,0,none⟩) cn2 (pl++[s2]) q2 w4):=⟨ha,by omega,hres⟩;have hm:Cn p w4<Cn p wr:=by
      rw[HI4.out.arg.par.len,HI.out.arg.par.len,Zc];omega
     have HM:=Za hm;clear ha hc hlen hres hm hfu hne;go_wp2_with fail
     go_roundw
     case rel=>exact⟨g2,_,_,_,q2,HI4⟩
     case measure=>exact HM.out
   |false=>
    have HTK:=Za (Ai p tb u l [44] wr HI.out.arg.par hu);have hres:(match Ak [41] (u::l)with| .error e=> .error e| .ok r=> .ok (pl,r))=R:=by
     have:=HI.out.res;unfold Oh at this;rw[Ad hu]at this;exact this
    clear hu;go_wp2_with fail
    refine HTK.out.mono ?_;rintro e w3 ⟨rfl,hb⟩;have HA3:=Za (HI.out.arg.old hb);have hba:Below w3.heap.size w3 (w3.alloc (.cells #[.string ⟨#[41]⟩] 9)):=bA;have HA4:=Za (HA3.out.old hba);have HWN:=Za (Cd p tb (u::l) [41] _ HA4.out.par w3.heap.size 1 ((Zg w3 [.string ⟨#[41]⟩] 9).at 0 _ rfl));clear hb hba;go_wp2_with fail
    refine HWN.out.mono ?_;intro e w5 he
    cases hw:Ak [41] (u::l)with
    |error n=>
     rw[hw]at he hres;obtain⟨hf,rfl⟩:=he;have HF:=Za (HA4.out.fr.trans (AFr.of_sfr hf));dsimp only at hres;subst hres;clear hf hw;unfold Ay;go_wp2_with fail
     exact⟨rfl,rfl,HF.out⟩
    |ok q3=>
     rw[hw]at he hres;obtain⟨hf,rfl,hp⟩:=he;have HA5:=Za (HA4.out.next HN.out hf hp (Nat.le_of_lt (Az hw)));dsimp only at hres;subst hres;clear hf hw hp;go_wp2_with fail
     first
      |go_end0
      |(refine bodyPost_ret (results_none rfl _ _ _) rfl ?_)
     exact⟨rfl,pa,pc,HA5.out⟩
end Go.Proofs.YtcfpfnoldgnloaaGreatDoor
