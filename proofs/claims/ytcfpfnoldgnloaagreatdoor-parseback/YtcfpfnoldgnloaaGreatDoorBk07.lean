/-
  simple, at every list of tokens.
-/
import Derived.Test.YtcfpfnoldgnloaaGreatDoorBk06
set_option linter.unusedVariables false
set_option linter.unusedSimpArgs false
namespace Go.Proofs.YtcfpfnoldgnloaaGreatDoor
open Go.RowKit
set_option maxHeartbeats 20000000
set_option maxRecDepth 100000
open Go.Lib renaming hid→Za
open SFr renaming of_below→Zb
open List renaming length_cons→Zc
open Nat renaming le_refl→Zd,le_succ→Zf
open aG renaming new→Ze
theorem mz {p ob base:Nat}{w W w':World}(h:SFr p w W)(k:AFr p ob base W w')(hb:w.heap.size≤base)(ho:w.heap.size≤ob):SFr p w w':=
 ⟨k.os.trans h.os,k.tape.trans h.tape,k.output.trans h.output,Nat.le_trans h.size k.size,fun i hi hp=>(k.block i (Nat.lt_of_lt_of_le hi h.size) (by omega) hp (by omega)).trans (h.block i hi hp)⟩
theorem qZ(f:Nat)(t:Tk)(r:List Tk)(w:World)(p tb:Nat)(hl:4*(t::r).length≤f)(h:Ps w p tb (t::r))(n0:isP [98,114,101,97,107] t=false)(n1:isP [99,111,110,116,105,110,117,101] t=false)(n2:isP [114,101,116,117,114,110] t=false)(n3:isP [112,114,105,110,116] t=false)(n4:isP [116,114,97,112] t=false)(s:Bs)(u:Tk)(q:List Tk)(hnm:dK (t::r)= .ok (s,u::q))(no:isP [40] u=false)(yi:isP [91] u=true):
  Calls Tryz.prog 204 #[.pointer (some ⟨p,0,none⟩)] w (eH (StH w.heap.size) w p tb (aW f (t::r))):=by
 have HPW:=Za h.lt;have HNE:Hid (w.heap.size≠p):=by show _≠_;have:=h.lt;omega
 have hb0:Below w.heap.size w (w.alloc (.cells #[.int .i64 0,.string ⟨#[]⟩,.slice none 0 0,.slice none 0 0,.slice none 0 0] 60)):=bA;have HF0:Hid (SFr p w (w.alloc (.cells #[.int .i64 0,.string ⟨#[]⟩,.slice none 0 0,.slice none 0 0,.slice none 0 0] 60))):=Zb hb0;have HR0:=Za (Ze w [.int .i64 0,.string ⟨#[]⟩,.slice none 0 0,.slice none 0 0,.slice none 0 0] 60);have HP0:=Za (h.old hb0);clear hb0;obtain⟨R,hR⟩:∃R,aW f (t::r)=R:=⟨_,rfl⟩;rw[hR];have HRR:=Za hR;clear hR;have HN0:=Za n0;have HT0:Hid (∀w1,Ps w1 p tb (t::r)→_):=fun w1 h1=>aO p tb t r [98,114,101,97,107] w1 h1 n0
 have HN1:=Za n1;have HT1:Hid (∀w1,Ps w1 p tb (t::r)→_):=fun w1 h1=>aO p tb t r [99,111,110,116,105,110,117,101] w1 h1 n1
 have HN2:=Za n2;have HT2:Hid (∀w1,Ps w1 p tb (t::r)→_):=fun w1 h1=>aO p tb t r [114,101,116,117,114,110] w1 h1 n2
 have HN3:=Za n3;have HT3:Hid (∀w1,Ps w1 p tb (t::r)→_):=fun w1 h1=>aO p tb t r [112,114,105,110,116] w1 h1 n3
 have HN4:=Za n4;have HT4:Hid (∀w1,Ps w1 p tb (t::r)→_):=fun w1 h1=>aO p tb t r [116,114,97,112] w1 h1 n4
 rw[Zc]at hl;have HNM:Hid (∀w1,Ps w1 p tb (t::r)→_):=fun w1 h1=>dl p tb (t::r) w1 h1
 have HNQ:=Za hnm;have hql:=fD hnm;simp only[Zc]at hql;have HNO:=Za no;have HYI:=Za yi;have HTO:Hid (∀w1,Ps w1 p tb (u::q)→_):=fun w1 h1=>aO p tb u q [40] w1 h1 no
 have HTI:Hid (∀w1,Ps w1 p tb (u::q)→_):=fun w1 h1=>bE p tb u q [91] w1 h1 yi
 have hE:=(io f).2.1;have HC:Hid (∀q2 w1,4*q2.length+2≤f→Ps w1 p tb q2→_):=fun q2 w1 h0 h1=>hE q2 w1 p tb h0 h1
 have HLQ:Hid (4*(u::q).length+4≤f):=by show _≤_;simp only[Zc];omega
 clear no yi hE;clear hnm hql;clear hl n0 n1 n2 n3 n4;clear h;go_enter Tryz.func204,Tryz.ntmps204
 go_wp2_with fail
 refine(HT0.out _ HP0.out).mono ?_;rintro e w1 ⟨rfl,hb⟩;have HF1:=Za (HF0.out.trans (Zb hb));have HP1:=Za (HP0.out.old hb);have HR1:=Za (HR0.out.old hb);clear hb;go_wp2_with fail
 refine(HT1.out _ HP1.out).mono ?_;rintro e w2 ⟨rfl,hb⟩;have HF2:=Za (HF1.out.trans (Zb hb));have HP2:=Za (HP1.out.old hb);have HR2:=Za (HR1.out.old hb);clear hb;go_wp2_with fail
 refine(HT2.out _ HP2.out).mono ?_;rintro e w3 ⟨rfl,hb⟩;have HF3:=Za (HF2.out.trans (Zb hb));have HP3:=Za (HP2.out.old hb);have HR3:=Za (HR2.out.old hb);clear hb;go_wp2_with fail
 refine(HT3.out _ HP3.out).mono ?_;rintro e w4 ⟨rfl,hb⟩;have HF4:=Za (HF3.out.trans (Zb hb));have HP4:=Za (HP3.out.old hb);have HR4:=Za (HR3.out.old hb);clear hb;go_wp2_with fail
 refine(HT4.out _ HP4.out).mono ?_;rintro e w5 ⟨rfl,hb⟩;have HF5:=Za (HF4.out.trans (Zb hb));have HP5:=Za (HP4.out.old hb);have HR5:=Za (HR4.out.old hb);clear hb;go_wp2_with fail
 refine(HNM.out _ HP5.out).mono ?_;intro e w6 he;rw[HNQ.out]at he;obtain⟨hf,v,rfl,hp,hv⟩:=he;have hv:v= .string (aB s):=hv;subst hv;have HF6:=Za (HF5.out.trans hf);have HP6:=Za hp;have HR6:=Za (HR5.out.sfr hf HNE.out);clear hf hp;go_wp2_with fail
 refine(HTO.out _ HP6.out).mono ?_;rintro e w7 ⟨rfl,hb⟩;have HF7:=Za (HF6.out.trans (Zb hb));have HP7:=Za (HP6.out.old hb);have HR7:=Za (HR6.out.old hb);clear hb;go_wp2_with fail
 refine(HTI.out _ HP7.out).mono ?_;rintro e w8 ⟨rfl,hf,hp⟩;have HF8:=Za (HF7.out.trans hf);have HP8:=Za hp;have HR8:=Za (HR7.out.sfr hf HNE.out);clear hf hp;have hlq:4*q.length+2≤f:=by have:=HLQ.out;simp only[Zc]at this;omega
 go_wp2_with fail
 refine(HC.out q _ hlq HP8.out).mono ?_;intro e w9 he
 cases hA:ar f 1 q with
 |error n=>
  rw[hA]at he;obtain⟨hf,rfl⟩:=he;have HF:=Za (HF8.out.trans hf);have e1:aW f (t::r)= .error n:=by unfold aW;rw[aH HN0.out];dsimp only;rw[aH HN1.out];dsimp only;rw[aH HN2.out];dsimp only;rw[aH HN3.out];dsimp only;rw[aH HN4.out];dsimp only;rw[HNQ.out];dsimp only;rw[aH HNO.out];dsimp only;rw[aQ HYI.out];dsimp only;rw[hA]
  have e2:=HRR.out.symm.trans e1;subst e2;clear e1 hf;unfold az;go_wp2_with fail
  exact⟨rfl,HF.out,rfl⟩
 |ok q=>
  obtain⟨x,r1⟩:=q;rw[hA]at he;obtain⟨hf,v,rfl,hp,hv⟩:=he;obtain⟨s3,rfl,hx,hn⟩:=hv;obtain⟨a1,a2,rfl⟩:=hx.shape;have HX9:=Za (hx.up (show w.heap.size+1≤w8.heap.size from HR8.out.lt));have HN:=Za hn;clear hx hn;have HF9:=Za (HF8.out.trans hf);have HP9:=Za hp;have HR9:=Za (HR8.out.sfr hf HNE.out);clear hf hp;have HA9:=Za hA;clear hA;clear hlq;go_upto_region 16 with(fail)
  obtain⟨W,hW⟩:∃W,w9.alloc (.cells #[.int .i64 x.kind,.int .i64 x.op,.int .i64 x.n,.string (aB x.name),.slice a1 x.args.length a2] 27)=W:=⟨_,rfl⟩;rw[hW];have hba:Below w9.heap.size w9 W:=hW ▸ bA;have HF10:=Za (HF9.out.trans (Zb hba));have HP10:=Za (HP9.out.old hba);have HR10:=Za (HR9.out.old hba);have HX10:=Za (HX9.out.old hba);have HE10:=Za (hW ▸ Ze w9 [.int .i64 x.kind,.int .i64 x.op,.int .i64 x.n,.string (aB x.name),.slice a1 x.args.length a2] 27);have HEP:Hid (w9.heap.size≠p):=by show _≠_;have:=HP9.out.lt;omega
  clear hba hW;obtain⟨w10,hWW⟩:∃w10,w10=W:=⟨_,rfl⟩;subst hWW;have hba:Below w10.heap.size w10 (w10.alloc (.cells #[.string ⟨#[93]⟩,.string ⟨#[61]⟩] 9)):=bA;have hwp:w10.heap.size≠p:=by have:=HP10.out.lt;omega
  have HF11:=Za (HF10.out.trans (Zb hba));have HP11:=Za (HP10.out.old hba);have HR11:=Za (HR10.out.old hba);have HE11:=Za (HE10.out.old hba);have HX11:=Za (HX10.out.old hba);have HWN:=Za (kP p tb r1 [93] [61] _ HP11.out w10.heap.size 2 ((Ze w10 [.string ⟨#[93]⟩,.string ⟨#[61]⟩] 9).at 0 _ rfl) ((Ze w10 [.string ⟨#[93]⟩,.string ⟨#[61]⟩] 9).at 1 _ rfl) hwp);clear hba hwp;go_wp2_with fail
  refine(HWN.out).mono ?_;intro e w12 he
  cases hA:ev [93] [61] r1 with
  |error n=>
   rw[hA]at he;obtain⟨hf,rfl⟩:=he;have HF:=Za (HF11.out.trans hf);have e1:aW f (t::r)= .error n:=by unfold aW;rw[aH HN0.out];dsimp only;rw[aH HN1.out];dsimp only;rw[aH HN2.out];dsimp only;rw[aH HN3.out];dsimp only;rw[aH HN4.out];dsimp only;rw[HNQ.out];dsimp only;rw[aH HNO.out];dsimp only;rw[aQ HYI.out];dsimp only;rw[HA9.out];dsimp only;unfold ev at hA;cases hB:aV [93] r1 with
    |error n=>rw[hB]at hA;injection hA with hA;subst hA;rfl
    |ok z=>rw[hB]at hA;dsimp only at hA ⊢;rw[hA]
   have e2:=HRR.out.symm.trans e1;subst e2;clear e1 hf;unfold az;go_wp2_with fail
   exact⟨rfl,HF.out,rfl⟩
  |ok q2=>
   rw[hA]at he;obtain⟨hf,rfl,hp⟩:=he;have HF12:=Za (HF11.out.trans hf);have HP12:=Za hp;have HR12:=Za (HR11.out.sfr hf HNE.out);have HE12:=Za (HE11.out.sfr hf HEP.out);have HX12:=Za (HX11.out.keep (hf.fresh (by have:=HPW.out;omega)));clear hf hp;have HA12:=Za hA;clear hA;clear HWN;go_upto_region 17 with(fail)
   have hlq:4*q2.length+2≤f:=by
    have h1:=(dM f).1 _ _ _ _ HA9.out;have h2:=HLQ.out;have h3:=HA12.out;unfold ev at h3
    cases hB:aV [93] r1 with
    |error n=>rw[hB]at h3;cases h3
    |ok z=>
     rw[hB]at h3;have h4:=bC hB;have h5:=bC h3;simp only[Zc]at h2;omega
   have hw2:∃z,aV [93] r1= .ok z∧aV [61] z= .ok q2:=by
    have h3:=HA12.out;unfold ev at h3
    cases hB:aV [93] r1 with
    |error n=>rw[hB]at h3;cases h3
    |ok z=>rw[hB]at h3;exact⟨z,rfl,h3⟩
   obtain⟨z,hw1,hw2⟩:=hw2;have hbe:w.heap.size<w9.heap.size:=HR9.out.lt;have hcq:=fun w1 h1=>HC.out q2 w1 hlq h1
   cases hy:ar f 1 q2 with
   |error n=>
    have e1:aW f (t::r)= .error n:=by unfold aW;rw[aH HN0.out];dsimp only;rw[aH HN1.out];dsimp only;rw[aH HN2.out];dsimp only;rw[aH HN3.out];dsimp only;rw[aH HN4.out];dsimp only;rw[HNQ.out];dsimp only;rw[aH HNO.out];dsimp only;rw[aQ HYI.out];dsimp only;rw[HA9.out];dsimp only;rw[hw1];dsimp only;rw[hw2];dsimp only;rw[hy]
    have e2:=HRR.out.symm.trans e1;subst e2;clear e1;have hreg:∀(K:Act→World→Prop) (Q:Exit→Act→World→Prop),True:=fun _ _=>trivial
    refine wp_mono (Q:=Exit.then (Met (RY2 p tb w.heap.size w9.heap.size s x x a1 a2 q2 [] (some n) w12 _ _ _ _ _ _ _ _ _ _ _ _ _ _ _ _ _ _ _ _ _ _ _ _ _ _ _ _ _ _ _ _ _ _ _ _ _ _ _ _ _ _ _ _ _ _ _ _ _ _ _ _ _ _ _)) _) (xP p tb w.heap.size w9.heap.size s x x a1 a2 q2 [] (some n) w12 HP12.out HE12.out HR12.out HX12.out HN.out HPW.out hbe (fun w1 h1=>by have h2:=hcq w1 h1;rw[hy]at h2;exact h2.mono (fun e w2 h=>⟨h.2,h.1⟩)) (fun e a' w'=> ∃n',e= .panic [{v:= .iface 110 (.agg #[.int .i64 n']),recovered:=false}]∧n=n'∧a'.defers=[]∧AFr p w.heap.size w12.heap.size w12 w') (fun n' a' w' hn hd hf=>by injection hn with hn;exact⟨n',rfl,hn,hd,hf⟩) _ _ _ _ _ _ _ _ _ _ _ _ _ _ _ _ _ _ _ _ _ _ _ _ _ _ _ _ _ _ _ _ _ _ _ _ _ _ _ _ _ _ _ _ _ _ _ _ _ _ _ _ _ _ _ _ _ _ _ _ _ _ _ (fun _ _ q=>q) (fun _ _ q=>q)) ?_;intro e a' w' hq
    cases e with
    |normal=>
     obtain⟨sa,sc,nb,⟨_,hp,_⟩,_⟩:=(show RY2 p tb w.heap.size w9.heap.size s x x a1 a2 q2 [] (some n) w12 _ _ _ _ _ _ _ _ _ _ _ _ _ _ _ _ _ _ _ _ _ _ _ _ _ _ _ _ _ _ _ _ _ _ _ _ _ _ _ _ _ _ _ _ _ _ _ _ _ _ _ _ _ _ _ a' w' from hq);exact hp.ends.elim
    |panic ch=>
     obtain⟨n2,he,rfl,hd,hf⟩:=hq;injection he with he
     subst he;exact⟨hd,mz HF12.out hf (by have:=HR12.out.lt;omega) (Zd _),rfl⟩
    |_=>
     obtain⟨n2,he,_⟩:=hq
     cases he
   |ok qy=>
    obtain⟨y,r2⟩:=qy;have e1:aW f (t::r)= .ok (.mk 2 s [x,y] [] [],r2):=by unfold aW;rw[aH HN0.out];dsimp only;rw[aH HN1.out];dsimp only;rw[aH HN2.out];dsimp only;rw[aH HN3.out];dsimp only;rw[aH HN4.out];dsimp only;rw[HNQ.out];dsimp only;rw[aH HNO.out];dsimp only;rw[aQ HYI.out];dsimp only;rw[HA9.out];dsimp only;rw[hw1];dsimp only;rw[hw2];dsimp only;rw[hy]
    have e2:=HRR.out.symm.trans e1;subst e2;clear e1;refine wp_cut (fun a' w'=>RY2 p tb w.heap.size w9.heap.size s x y a1 a2 q2 r2 none w12 _ _ _ _ _ _ _ _ _ _ _ _ _ _ _ _ _ _ _ _ _ _ _ _ _ _ _ _ _ _ _ _ _ _ _ _ _ _ _ _ _ _ _ _ _ _ _ _ _ _ _ _ _ _ _ a' w') ?rest (fun J K' hJ hM=>xP p tb w.heap.size w9.heap.size s x y a1 a2 q2 r2 none w12 HP12.out HE12.out HR12.out HX12.out HN.out HPW.out hbe (fun w1 h1=>by have h2:=hcq w1 h1;rw[hy]at h2;exact h2.mono (fun e w2 h=>by obtain⟨hf,v,rfl,hp,s4,rfl,hs,hm⟩:=h;exact⟨s4,rfl,hf,hp,hs,hm⟩)) _ (fun n a1 w1 hn=>by cases hn) _ _ _ _ _ _ _ _ _ _ _ _ _ _ _ _ _ _ _ _ _ _ _ _ _ _ _ _ _ _ _ _ _ _ _ _ _ _ _ _ _ _ _ _ _ _ _ _ _ _ _ _ _ _ _ _ _ _ _ _ _ J K' hJ hM)
    case rest=>
     rintro a' w' ⟨sa,sc,nb,⟨hfr,hp,hr,hxy⟩,rfl⟩;have HSF:=Za (mz HF12.out hfr (by have:=HR12.out.lt;omega) (Zd _));have HPP:=Za hp;have HXY:=Za hxy;obtain⟨⟨d0,d1,d2,d3,d4⟩,_⟩:=bL hr;clear hfr hp hr hxy hlq hw1 hw2 hcq hy;go_wp2_with fail
     exact bodyPost_ret (v:= .agg #[.int .i64 2,.string (aB s),.slice (some ⟨nb,0,none⟩) 2 2,.slice none 0 0,.slice none 0 0]) (by simp [results,Tryz.results204,go_sem,d0,d1,d2,d3,d4]) rfl ⟨HSF.out,_,rfl,HPP.out,_,_,_,rfl,HXY.out.up (by omega),aR.zero,aR.zero⟩
theorem vN(f:Nat):SimpleC f:=by
 intro l w p tb hl h;obtain⟨t,r,rfl⟩:=h.ends.ne
 cases h0:isP [98,114,101,97,107] t with
 |true=>exact uY f t r w p tb hl h h0
 |false=>
  cases h1:isP [99,111,110,116,105,110,117,101] t with
  |true=>exact rr f t r w p tb hl h h0 h1
  |false=>
   cases h2:isP [114,101,116,117,114,110] t with
   |true=>exact tF f t r w p tb hl h h0 h1 h2
   |false=>
    cases h3:isP [112,114,105,110,116] t with
    |true=>exact pz f t r w p tb hl h h0 h1 h2 h3
    |false=>
     cases h4:isP [116,114,97,112] t with
     |true=>exact rX f t r w p tb hl h h0 h1 h2 h3 h4
     |false=>
      cases hnm:dK (t::r)with
      |error n=>exact oe f t r w p tb hl h h0 h1 h2 h3 h4 n hnm
      |ok q=>
       obtain⟨s,q⟩:=q;have hq:gE q:=by
        have h5:=qo t r;rw[hnm]at h5
        by_cases hk:t.kind=1
        ·rw[if_pos hk]at h5
         injection h5 with h5
         injection h5 with _ h5
         rw[h5];exact h.ends.tail (by rw[hk];decide)
        ·rw[if_neg hk]at h5;cases h5
       obtain⟨u,q,rfl⟩:=hq.ne
       cases h5:isP [40] u with
       |true=>exact qu f t r w p tb hl h h0 h1 h2 h3 h4 s u q hnm h5
       |false=>
        cases h6:isP [91] u with
        |true=>exact qZ f t r w p tb hl h h0 h1 h2 h3 h4 s u q hnm h5 h6
        |false=>exact tZ f t r w p tb hl h h0 h1 h2 h3 h4 s u q hnm h5 h6
theorem tq {w V:World}{p tb:Nat}{l:List Tk}{k:Int}{nm:Bs}{xs:List Ex}{ts es:List St}{a t e:Value}(HF:SFr p w V)(HP:Ps V p tb l)(HA:aJ (w.heap.size+1≤ ·) V xs a)(HT:aR (w.heap.size+1≤ ·) V ts t)(HE:aR (w.heap.size+1≤ ·) V es e):
  eH (StH w.heap.size) w p tb (.ok (.mk k nm xs ts es,l)) (.returned (.agg #[.int .i64 k,.string (aB nm),a,t,e])) V:=
 ⟨HF,_,rfl,HP,_,_,_,rfl,HA.up (Zf _),HT.up (Zf _),HE.up (Zf _)⟩
theorem jt {f:Nat}{t:Tk}{r:List Tk}(y:isP [105,102] t=true):cW (f+1) (t::r)=match bq f r with
  | .error e=> .error e
  | .ok (x,r)=>match dH f r with
   | .error e=> .error e
   | .ok (a,r)=>match bF [101,108,115,101] r with
    |none=> .ok (.mk 3 [] [x] a [],r)
    |some r=>match dH f r with
     | .error e=> .error e
     | .ok (b,r)=> .ok (.mk 3 [] [x] a b,r):=by
 rw[cW,aQ y];dsimp only
 cases bq f r with
 |error e=>rfl
 |ok q=>
  obtain⟨x,q⟩:=q;dsimp only;unfold dH
  cases aV [123] q with
  |error e=>rfl
  |ok q=>
   dsimp only
   cases cV f [] q with
   |error e=>rfl
   |ok q=>
    obtain⟨a,q⟩:=q;dsimp only
    cases bF [101,108,115,101] q with
    |none=>rfl
    |some q=>
     dsimp only
     cases aV [123] q with
     |error e=>rfl
     |ok q=>
      dsimp only
      cases cV f [] q with
      |error e=>rfl
      |ok q=>rfl
theorem jC {f:Nat}{t:Tk}{r:List Tk}(n:isP [105,102] t=false)(y:isP [119,104,105,108,101] t=true):cW (f+1) (t::r)=match bq f r with
  | .error e=> .error e
  | .ok (x,r)=>match dH f r with
   | .error e=> .error e
   | .ok (a,r)=> .ok (.mk 4 [] [x] a [],r):=by
 rw[cW,aH n];dsimp only;rw[aQ y];dsimp only
 cases bq f r with
 |error e=>rfl
 |ok q=>
  obtain⟨x,q⟩:=q;dsimp only;unfold dH
  cases aV [123] q with
  |error e=>rfl
  |ok q=>
   dsimp only
   cases cV f [] q with
   |error e=>rfl
   |ok q=>rfl
theorem iC {f:Nat}{t:Tk}{r:List Tk}(n:isP [105,102] t=false)(n2:isP [119,104,105,108,101] t=false):cW (f+1) (t::r)=match aW f (t::r)with
  | .error e=> .error e
  | .ok (x,r)=>match aV [59] r with
   | .error e=> .error e
   | .ok r=> .ok (x,r):=by
 rw[cW,aH n];dsimp only;rw[aH n2];rfl
theorem st_finx {w V:World}{p tb:Nat}{l:List Tk}{x:St}{a t e:Value}(HF:SFr p w V)(HP:Ps V p tb l)(HA:aJ (w.heap.size+1≤ ·) V x.args a)(HT:aR (w.heap.size+1≤ ·) V x.thn t)(HE:aR (w.heap.size+1≤ ·) V x.els e):
  eH (StH w.heap.size) w p tb (.ok (x,l)) (.returned (.agg #[.int .i64 x.kind,.string (aB x.name),a,t,e])) V:=
 ⟨HF,_,rfl,HP,_,_,_,rfl,HA.up (Zf _),HT.up (Zf _),HE.up (Zf _)⟩
theorem e6 {f:Nat}{l r:List Tk}{x:Ex}(h:bq f l= .ok (x,r)):r.length<l.length:=by
 unfold bq at h
 cases h1:aV [40] l with
 |error e=>rw[h1]at h;cases h
 |ok q=>
  rw[h1]at h;dsimp only at h
  cases h2:ar f 1 q with
  |error e=>rw[h2]at h;cases h
  |ok z=>
   obtain⟨y,z⟩:=z;rw[h2]at h;dsimp only at h
   cases h3:aV [41] z with
   |error e=>rw[h3]at h;cases h
   |ok u=>
    rw[h3]at h;injection h with h;injection h with _ h;subst h
    have:=bC h1;have:=(dM f).1 _ _ _ _ h2;have:=bC h3;omega
theorem vj(f:Nat)(hB:l9 f)(hBL:∀l x r,dH f l= .ok (x,r)→r.length<l.length)(t:Tk)(r:List Tk)(w:World)(p tb:Nat)(hl:4*(t::r).length≤f)(h:Ps w p tb (t::r))(y:isP [105,102] t=true):
  Calls Tryz.prog 165 #[.pointer (some ⟨p,0,none⟩)] w (eH (StH w.heap.size) w p tb (cW (f+1) (t::r))):=by
 have HPW:=Za h.lt;have HNE:Hid (w.heap.size≠p):=by show _≠_;have:=h.lt;omega
 have hb0:Below w.heap.size w (w.alloc (.cells #[.int .i64 0,.string ⟨#[]⟩,.slice none 0 0,.slice none 0 0,.slice none 0 0] 60)):=bA;have HF0:Hid (SFr p w (w.alloc (.cells #[.int .i64 0,.string ⟨#[]⟩,.slice none 0 0,.slice none 0 0,.slice none 0 0] 60))):=Zb hb0;have HR0:=Za (Ze w [.int .i64 0,.string ⟨#[]⟩,.slice none 0 0,.slice none 0 0,.slice none 0 0] 60);have HP0:=Za (h.old hb0);clear hb0;obtain⟨R,hR⟩:∃R,cW (f+1) (t::r)=R:=⟨_,rfl⟩;rw[hR];have HRR:=Za hR;clear hR;have HY:=Za y;have HV:Hid (∀w1,Ps w1 p tb (t::r)→_):=fun w1 h1=>bE p tb t r [105,102] w1 h1 y
 rw[Zc]at hl;have hI:=jl f;have HC:Hid (∀w1,Ps w1 p tb r→_):=fun w1 h1=>hI r w1 p tb (by omega) h1
 have HL:=Za hl;have HB:=Za hB;have HBL:=Za hBL;clear hl hI y hB hBL;clear h;go_enter Tryz.func165,Tryz.ntmps165
 go_wp2_with fail
 refine(HV.out _ HP0.out).mono ?_;rintro e w1 ⟨rfl,hf,hp⟩;have HF1:=Za (HF0.out.trans hf);have HP1:=Za hp;have HR1:=Za (HR0.out.sfr hf HNE.out);clear hf hp;go_wp2_with fail
 refine(HC.out _ HP1.out).mono ?_;intro e w2 he
 cases hA:bq f r with
 |error n=>
  rw[hA]at he;obtain⟨hf,rfl⟩:=he;have HF:=Za (HF1.out.trans hf);have e1:cW (f+1) (t::r)= .error n:=by rw[jt HY.out,hA]
  have e2:=HRR.out.symm.trans e1;subst e2;clear e1 hf;unfold az;go_wp2_with fail
  exact⟨rfl,HF.out,rfl⟩
 |ok q=>
  obtain⟨x,r1⟩:=q;rw[hA]at he;obtain⟨hf,v,rfl,hp,hv⟩:=he;have hv:aJ (w1.heap.size≤ ·) w2 [x] v:=hv;obtain⟨a1,a2,rfl⟩:=hv.shape;have HX2:=Za (hv.up (show w.heap.size+1≤w1.heap.size from HR1.out.lt));clear hv;have HF2:=Za (HF1.out.trans hf);have HP2:=Za hp;have HR2:=Za (HR1.out.sfr hf HNE.out);clear hf hp;have HA2:=Za hA;clear hA;obtain⟨⟨x0,x1,x2,x3,x4⟩,xf0,xf1,xf2,xf3,xf4⟩:=bL HR2.out;have xlt:=HR2.out.lt;go_upto_region 3 with(fail)
  obtain⟨V,hV⟩:∃V,((w2.setCell ⟨w.heap.size,0,none⟩ (.int .i64 3)).setCell ⟨w.heap.size,2,none⟩ (.slice a1 1 a2))=V:=⟨_,rfl⟩;rw[hV];have HR3:=Za (hV ▸ ((HR2.out).set 0 (.int .i64 3)).set 2 (.slice a1 1 a2));have HF3:=Za (hV ▸ ((HF2.out).setNew (Zd _) 0 (.int .i64 3)).setNew (Zd _) 2 (.slice a1 1 a2));have HP3:=Za (hV ▸ ((HP2.out).other HPW.out 0 (.int .i64 3)).other HPW.out 2 (.slice a1 1 a2));have HX3:=Za (hV ▸ ((HX2.out).keep (aN _ (by show ¬w.heap.size+1≤w.heap.size;omega) 0 (.int .i64 3))).keep (aN _ (by show ¬w.heap.size+1≤w.heap.size;omega) 2 (.slice a1 1 a2)));clear hV;obtain⟨w3,hWW⟩:∃w3,w3=V:=⟨_,rfl⟩;subst hWW;clear x0 x1 x2 x3 x4 xf0 xf1 xf2 xf3 xf4 xlt;have hl1:4*r1.length≤f:=by have h1:=e6 HA2.out;have h2:=HL.out;omega
  obtain⟨⟨y0,y1,y2,y3,y4⟩,yf0,yf1,yf2,yf3,yf4⟩:=bL HR3.out;have ylt:=HR3.out.lt;go_wp2_with fail
  refine(HB.out r1 _ p tb hl1 HP3.out).mono ?_;intro e w4 he
  cases hA:dH f r1 with
  |error n=>
   rw[hA]at he;obtain⟨hf,rfl⟩:=he;have HF:=Za (HF3.out.trans hf);have e1:cW (f+1) (t::r)= .error n:=by rw[jt HY.out,HA2.out];dsimp only;rw[hA]
   have e2:=HRR.out.symm.trans e1;subst e2;clear e1 hf;unfold az;go_wp2_with fail
   exact⟨rfl,HF.out,rfl⟩
  |ok q=>
   obtain⟨ta,r2⟩:=q;rw[hA]at he;obtain⟨hf,v,rfl,hp,hv⟩:=he;have hv:aR (w3.heap.size≤ ·) w4 ta v:=hv;obtain⟨b1,b2,rfl⟩:=hv.shape;have HT4:=Za (hv.up (show w.heap.size+1≤w3.heap.size from HR3.out.lt));clear hv hl1 y0 y1 y2 y3 y4 yf0 yf1 yf2 yf3 yf4 ylt;have HF4:=Za (HF3.out.trans hf);have HP4:=Za hp;have HR4:=Za (HR3.out.sfr hf HNE.out);have HX4:=Za (HX3.out.keep (hf.fresh (by have:=HPW.out;omega)));clear hf hp;have HA4:=Za hA;clear hA;obtain⟨⟨z0,z1,z2,z3,z4⟩,zf0,zf1,zf2,zf3,zf4⟩:=bL HR4.out;have zlt:=HR4.out.lt;go_upto_region 4 with(fail)
   obtain⟨V,hV⟩:∃V,(w4.setCell ⟨w.heap.size,3,none⟩ (.slice b1 ta.length b2))=V:=⟨_,rfl⟩;rw[hV];have HR5:=Za (hV ▸ (HR4.out).set 3 (.slice b1 ta.length b2));have HF5:=Za (hV ▸ (HF4.out).setNew (Zd _) 3 (.slice b1 ta.length b2));have HP5:=Za (hV ▸ (HP4.out).other HPW.out 3 (.slice b1 ta.length b2));have HX5:=Za (hV ▸ (HX4.out).keep (aN _ (by show ¬w.heap.size+1≤w.heap.size;omega) 3 (.slice b1 ta.length b2)));have HT5:=Za (hV ▸ (HT4.out).keep (aN _ (by show ¬w.heap.size+1≤w.heap.size;omega) 3 (.slice b1 ta.length b2)));clear hV;obtain⟨w5,hWW⟩:∃w5,w5=V:=⟨_,rfl⟩;subst hWW;clear z0 z1 z2 z3 z4 zf0 zf1 zf2 zf3 zf4 zlt;obtain⟨u,r2,rfl⟩:=HP5.out.ends.ne
   cases he:isP [101,108,115,101] u with
   |false=>
    have HTE:=Za (aO p tb u r2 [101,108,115,101] _ HP5.out he);have HNE2:=Za he;clear he;go_wp2_with fail
    refine(HTE.out).mono ?_;rintro e w6 ⟨rfl,hb⟩;have HF6:=Za (HF5.out.trans (Zb hb));have HP6:=Za (HP5.out.old hb);have HR6:=Za (HR5.out.old hb);have HX6:=Za (HX5.out.old hb);have HT6:=Za (HT5.out.old hb);clear hb;go_wp2_with fail
    have e1:cW (f+1) (t::r)= .ok (.mk 3 [] [x] ta [],u::r2):=by rw[jt HY.out,HA2.out];dsimp only;rw[HA4.out];dsimp only;rw[aH HNE2.out]
    have e2:=HRR.out.symm.trans e1;subst e2;obtain⟨⟨d0,d1,d2,d3,d4⟩,_⟩:=bL HR6.out;exact bodyPost_ret (v:= .agg #[.int .i64 3,.string ⟨#[]⟩,.slice a1 1 a2,.slice b1 ta.length b2,.slice none 0 0]) (by simp [results,Tryz.results165,go_sem,d0,d1,d2,d3,d4]) rfl (tq HF6.out HP6.out HX6.out HT6.out aR.zero)
   |true=>
    have HTE:=Za (bE p tb u r2 [101,108,115,101] _ HP5.out he);have HYE:=Za he;have hl2:4*r2.length≤f:=by
     have h1:=e6 HA2.out;have h3:=HBL.out _ _ _ HA4.out;rw[Zc]at h3;have h2:=HL.out;omega
    clear he;go_wp2_with fail
    refine(HTE.out).mono ?_;rintro e w6 ⟨rfl,hf,hp⟩;have HF6:=Za (HF5.out.trans hf);have HP6:=Za hp;have HR6:=Za (HR5.out.sfr hf HNE.out);have HX6:=Za (HX5.out.keep (hf.fresh (by have:=HPW.out;omega)));have HT6:=Za (HT5.out.keep (hf.fresh (by have:=HPW.out;omega)));clear hf hp;go_wp2_with fail
    refine(HB.out r2 _ p tb hl2 HP6.out).mono ?_;intro e w7 he
    cases hA:dH f r2 with
    |error n=>
     rw[hA]at he;obtain⟨hf,rfl⟩:=he;have HF:=Za (HF6.out.trans hf);have e1:cW (f+1) (t::r)= .error n:=by rw[jt HY.out,HA2.out];dsimp only;rw[HA4.out];dsimp only;rw[aQ HYE.out];dsimp only;rw[hA]
     have e2:=HRR.out.symm.trans e1;subst e2;clear e1 hf;unfold az;go_wp2_with fail
     exact⟨rfl,HF.out,rfl⟩
    |ok q=>
     obtain⟨eb,r3⟩:=q;rw[hA]at he;obtain⟨hf,v,rfl,hp,hv⟩:=he;have hv:aR (w6.heap.size≤ ·) w7 eb v:=hv;obtain⟨g1,g2,rfl⟩:=hv.shape;have HE7:=Za (hv.up (show w.heap.size+1≤w6.heap.size from HR6.out.lt));clear hv hl2;have HF7:=Za (HF6.out.trans hf);have HP7:=Za hp;have HR7:=Za (HR6.out.sfr hf HNE.out);have HX7:=Za (HX6.out.keep (hf.fresh (by have:=HPW.out;omega)));have HT7:=Za (HT6.out.keep (hf.fresh (by have:=HPW.out;omega)));clear hf hp;have HA7:=Za hA;clear hA;obtain⟨⟨q0,q1,q2,q3,q4⟩,qf0,qf1,qf2,qf3,qf4⟩:=bL HR7.out;have qlt:=HR7.out.lt;go_wp2_with fail
     have HRF:=Za (HR7.out.set 4 (.slice g1 eb.length g2));have HFF:=Za (HF7.out.setNew (Zd _) 4 (.slice g1 eb.length g2));have HPF:=Za (HP7.out.other HPW.out 4 (.slice g1 eb.length g2));have HXF:=Za (HX7.out.keep (aN _ (by show ¬w.heap.size+1≤w.heap.size;omega) 4 (.slice g1 eb.length g2)));have HTF:=Za (HT7.out.keep (aN _ (by show ¬w.heap.size+1≤w.heap.size;omega) 4 (.slice g1 eb.length g2)));have HEF:=Za (HE7.out.keep (aN _ (by show ¬w.heap.size+1≤w.heap.size;omega) 4 (.slice g1 eb.length g2)));have e1:cW (f+1) (t::r)= .ok (.mk 3 [] [x] ta eb,r3):=by rw[jt HY.out,HA2.out];dsimp only;rw[HA4.out];dsimp only;rw[aQ HYE.out];dsimp only;rw[HA7.out]
     have e2:=HRR.out.symm.trans e1;subst e2;obtain⟨⟨d0,d1,d2,d3,d4⟩,_⟩:=bL HRF.out;exact bodyPost_ret (v:= .agg #[.int .i64 3,.string ⟨#[]⟩,.slice a1 1 a2,.slice b1 ta.length b2,.slice g1 eb.length g2]) (by simp [results,Tryz.results165,go_sem,d0,d1,d2,d3,d4]) rfl (tq HFF.out HPF.out HXF.out HTF.out HEF.out)
theorem qP(f:Nat)(hB:l9 f)(hBL:∀l x r,dH f l= .ok (x,r)→r.length<l.length)(t:Tk)(r:List Tk)(w:World)(p tb:Nat)(hl:4*(t::r).length≤f)(h:Ps w p tb (t::r))(n:isP [105,102] t=false)(y:isP [119,104,105,108,101] t=true):
  Calls Tryz.prog 165 #[.pointer (some ⟨p,0,none⟩)] w (eH (StH w.heap.size) w p tb (cW (f+1) (t::r))):=by
 have HPW:=Za h.lt;have HNE:Hid (w.heap.size≠p):=by show _≠_;have:=h.lt;omega
 have hb0:Below w.heap.size w (w.alloc (.cells #[.int .i64 0,.string ⟨#[]⟩,.slice none 0 0,.slice none 0 0,.slice none 0 0] 60)):=bA;have HF0:Hid (SFr p w (w.alloc (.cells #[.int .i64 0,.string ⟨#[]⟩,.slice none 0 0,.slice none 0 0,.slice none 0 0] 60))):=Zb hb0;have HR0:=Za (Ze w [.int .i64 0,.string ⟨#[]⟩,.slice none 0 0,.slice none 0 0,.slice none 0 0] 60);have HP0:=Za (h.old hb0);clear hb0;obtain⟨R,hR⟩:∃R,cW (f+1) (t::r)=R:=⟨_,rfl⟩;rw[hR];have HRR:=Za hR;clear hR;have HY:=Za y;have HV:Hid (∀w1,Ps w1 p tb (t::r)→_):=fun w1 h1=>bE p tb t r [119,104,105,108,101] w1 h1 y
 rw[Zc]at hl;have hI:=jl f;have HC:Hid (∀w1,Ps w1 p tb r→_):=fun w1 h1=>hI r w1 p tb (by omega) h1
 have HL:=Za hl;have HB:=Za hB;have HBL:=Za hBL;have HN1:=Za n;have HT0:Hid (∀w1,Ps w1 p tb (t::r)→_):=fun w1 h1=>aO p tb t r [105,102] w1 h1 n
 clear hl hI y hB hBL n;clear h;go_enter Tryz.func165,Tryz.ntmps165
 go_wp2_with fail
 refine(HT0.out _ HP0.out).mono ?_;rintro e w1 ⟨rfl,hb⟩;have HF1:=Za (HF0.out.trans (Zb hb));have HP1:=Za (HP0.out.old hb);have HR1:=Za (HR0.out.old hb);clear hb;go_wp2_with fail
 refine(HV.out _ HP1.out).mono ?_;rintro e w2 ⟨rfl,hf,hp⟩;have HF2:=Za (HF1.out.trans hf);have HP2:=Za hp;have HR2:=Za (HR1.out.sfr hf HNE.out);clear hf hp;go_wp2_with fail
 refine(HC.out _ HP2.out).mono ?_;intro e w3 he
 cases hA:bq f r with
 |error n=>
  rw[hA]at he;obtain⟨hf,rfl⟩:=he;have HF:=Za (HF2.out.trans hf);have e1:cW (f+1) (t::r)= .error n:=by rw[jC HN1.out HY.out,hA]
  have e2:=HRR.out.symm.trans e1;subst e2;clear e1 hf;unfold az;go_wp2_with fail
  exact⟨rfl,HF.out,rfl⟩
 |ok q=>
  obtain⟨x,r1⟩:=q;rw[hA]at he;obtain⟨hf,v,rfl,hp,hv⟩:=he;have hv:aJ (w2.heap.size≤ ·) w3 [x] v:=hv;obtain⟨a1,a2,rfl⟩:=hv.shape;have HX3:=Za (hv.up (show w.heap.size+1≤w2.heap.size from HR2.out.lt));clear hv;have HF3:=Za (HF2.out.trans hf);have HP3:=Za hp;have HR3:=Za (HR2.out.sfr hf HNE.out);clear hf hp;have HA3:=Za hA;clear hA;obtain⟨⟨x0,x1,x2,x3,x4⟩,xf0,xf1,xf2,xf3,xf4⟩:=bL HR3.out;have xlt:=HR3.out.lt;go_upto_region 8 with(fail)
  obtain⟨V,hV⟩:∃V,((w3.setCell ⟨w.heap.size,0,none⟩ (.int .i64 4)).setCell ⟨w.heap.size,2,none⟩ (.slice a1 1 a2))=V:=⟨_,rfl⟩;rw[hV];have HR4:=Za (hV ▸ ((HR3.out).set 0 (.int .i64 4)).set 2 (.slice a1 1 a2));have HF4:=Za (hV ▸ ((HF3.out).setNew (Zd _) 0 (.int .i64 4)).setNew (Zd _) 2 (.slice a1 1 a2));have HP4:=Za (hV ▸ ((HP3.out).other HPW.out 0 (.int .i64 4)).other HPW.out 2 (.slice a1 1 a2));have HX4:=Za (hV ▸ ((HX3.out).keep (aN _ (by show ¬w.heap.size+1≤w.heap.size;omega) 0 (.int .i64 4))).keep (aN _ (by show ¬w.heap.size+1≤w.heap.size;omega) 2 (.slice a1 1 a2)));clear hV;obtain⟨w4,hWW⟩:∃w4,w4=V:=⟨_,rfl⟩;subst hWW;clear x0 x1 x2 x3 x4 xf0 xf1 xf2 xf3 xf4 xlt;have hl1:4*r1.length≤f:=by have h1:=e6 HA3.out;have h2:=HL.out;omega
  obtain⟨⟨y0,y1,y2,y3,y4⟩,yf0,yf1,yf2,yf3,yf4⟩:=bL HR4.out;have ylt:=HR4.out.lt;go_wp2_with fail
  refine(HB.out r1 _ p tb hl1 HP4.out).mono ?_;intro e w5 he
  cases hA:dH f r1 with
  |error n=>
   rw[hA]at he;obtain⟨hf,rfl⟩:=he;have HF:=Za (HF4.out.trans hf);have e1:cW (f+1) (t::r)= .error n:=by rw[jC HN1.out HY.out,HA3.out];dsimp only;rw[hA]
   have e2:=HRR.out.symm.trans e1;subst e2;clear e1 hf;unfold az;go_wp2_with fail
   exact⟨rfl,HF.out,rfl⟩
  |ok q=>
   obtain⟨ta,r2⟩:=q;rw[hA]at he;obtain⟨hf,v,rfl,hp,hv⟩:=he;have hv:aR (w4.heap.size≤ ·) w5 ta v:=hv;obtain⟨b1,b2,rfl⟩:=hv.shape;have HT5:=Za (hv.up (show w.heap.size+1≤w4.heap.size from HR4.out.lt));clear hv hl1 y0 y1 y2 y3 y4 yf0 yf1 yf2 yf3 yf4 ylt;have HF5:=Za (HF4.out.trans hf);have HP5:=Za hp;have HR5:=Za (HR4.out.sfr hf HNE.out);have HX5:=Za (HX4.out.keep (hf.fresh (by have:=HPW.out;omega)));clear hf hp;have HA5:=Za hA;clear hA;obtain⟨⟨z0,z1,z2,z3,z4⟩,zf0,zf1,zf2,zf3,zf4⟩:=bL HR5.out;have zlt:=HR5.out.lt;go_wp2_with fail
   have HRF:=Za (HR5.out.set 3 (.slice b1 ta.length b2));have HFF:=Za (HF5.out.setNew (Zd _) 3 (.slice b1 ta.length b2));have HPF:=Za (HP5.out.other HPW.out 3 (.slice b1 ta.length b2));have HXF:=Za (HX5.out.keep (aN _ (by show ¬w.heap.size+1≤w.heap.size;omega) 3 (.slice b1 ta.length b2)));have HTF:=Za (HT5.out.keep (aN _ (by show ¬w.heap.size+1≤w.heap.size;omega) 3 (.slice b1 ta.length b2)));have e1:cW (f+1) (t::r)= .ok (.mk 4 [] [x] ta [],r2):=by rw[jC HN1.out HY.out,HA3.out];dsimp only;rw[HA5.out]
   have e2:=HRR.out.symm.trans e1;subst e2;obtain⟨⟨d0,d1,d2,d3,d4⟩,_⟩:=bL HRF.out;exact bodyPost_ret (v:= .agg #[.int .i64 4,.string ⟨#[]⟩,.slice a1 1 a2,.slice b1 ta.length b2,.slice none 0 0]) (by simp [results,Tryz.results165,go_sem,d0,d1,d2,d3,d4]) rfl (tq HFF.out HPF.out HXF.out HTF.out aR.zero)
theorem oq(f:Nat)(t:Tk)(r:List Tk)(w:World)(p tb:Nat)(hl:4*(t::r).length≤f)(h:Ps w p tb (t::r))(n:isP [105,102] t=false)(n2:isP [119,104,105,108,101] t=false):
  Calls Tryz.prog 165 #[.pointer (some ⟨p,0,none⟩)] w (eH (StH w.heap.size) w p tb (cW (f+1) (t::r))):=by
 have HPW:=Za h.lt;have HNE:Hid (w.heap.size≠p):=by show _≠_;have:=h.lt;omega
 have hb0:Below w.heap.size w (w.alloc (.cells #[.int .i64 0,.string ⟨#[]⟩,.slice none 0 0,.slice none 0 0,.slice none 0 0] 60)):=bA;have HF0:Hid (SFr p w (w.alloc (.cells #[.int .i64 0,.string ⟨#[]⟩,.slice none 0 0,.slice none 0 0,.slice none 0 0] 60))):=Zb hb0;have HR0:=Za (Ze w [.int .i64 0,.string ⟨#[]⟩,.slice none 0 0,.slice none 0 0,.slice none 0 0] 60);have HP0:=Za (h.old hb0);clear hb0;obtain⟨R,hR⟩:∃R,cW (f+1) (t::r)=R:=⟨_,rfl⟩;rw[hR];have HRR:=Za hR;clear hR;have HN1:=Za n;have HN2:=Za n2;have HT0:Hid (∀w1,Ps w1 p tb (t::r)→_):=fun w1 h1=>aO p tb t r [105,102] w1 h1 n
 have HT1:Hid (∀w1,Ps w1 p tb (t::r)→_):=fun w1 h1=>aO p tb t r [119,104,105,108,101] w1 h1 n2
 have hS:=vN f;have HC:Hid (∀w1,Ps w1 p tb (t::r)→_):=fun w1 h1=>hS (t::r) w1 p tb hl h1
 clear hl hS n n2;clear h;go_enter Tryz.func165,Tryz.ntmps165
 go_wp2_with fail
 refine(HT0.out _ HP0.out).mono ?_;rintro e w1 ⟨rfl,hb⟩;have HF1:=Za (HF0.out.trans (Zb hb));have HP1:=Za (HP0.out.old hb);have HR1:=Za (HR0.out.old hb);clear hb;go_wp2_with fail
 refine(HT1.out _ HP1.out).mono ?_;rintro e w2 ⟨rfl,hb⟩;have HF2:=Za (HF1.out.trans (Zb hb));have HP2:=Za (HP1.out.old hb);have HR2:=Za (HR1.out.old hb);clear hb;go_wp2_with fail
 refine(HC.out _ HP2.out).mono ?_;intro e w3 he
 cases hA:aW f (t::r)with
 |error n=>
  rw[hA]at he;obtain⟨hf,rfl⟩:=he;have HF:=Za (HF2.out.trans hf);have e1:cW (f+1) (t::r)= .error n:=by rw[iC HN1.out HN2.out,hA]
  have e2:=HRR.out.symm.trans e1;subst e2;clear e1 hf;unfold az;go_wp2_with fail
  exact⟨rfl,HF.out,rfl⟩
 |ok q=>
  obtain⟨x,r2⟩:=q;rw[hA]at he;obtain⟨hf,v,rfl,hp,hv⟩:=he;obtain⟨va,vt,ve,rfl,hva,hvt,hve⟩:=hv;obtain⟨a1,a2,rfl⟩:=hva.shape;obtain⟨b1,b2,rfl⟩:=hvt.shape;obtain⟨g1,g2,rfl⟩:=hve.shape;have HX3:=Za (hva.up (show w.heap.size+1≤w2.heap.size from HR2.out.lt));have HT3:=Za (hvt.up (show w.heap.size+1≤w2.heap.size from HR2.out.lt));have HE3:=Za (hve.up (show w.heap.size+1≤w2.heap.size from HR2.out.lt));clear hva hvt hve;have HF3:=Za (HF2.out.trans hf);have HP3:=Za hp;have HR3:=Za (HR2.out.sfr hf HNE.out);clear hf hp;have HA3:=Za hA;clear hA;obtain⟨⟨x0,x1,x2,x3,x4⟩,xf0,xf1,xf2,xf3,xf4⟩:=bL HR3.out;have xlt:=HR3.out.lt;go_upto_region 10 with(fail)
  obtain⟨V,hV⟩:∃V,(((((w3.setCell ⟨w.heap.size,0,none⟩ (.int .i64 x.kind)).setCell ⟨w.heap.size,1,none⟩ (.string (aB x.name))).setCell ⟨w.heap.size,2,none⟩ (.slice a1 x.args.length a2)).setCell ⟨w.heap.size,3,none⟩ (.slice b1 x.thn.length b2)).setCell ⟨w.heap.size,4,none⟩ (.slice g1 x.els.length g2))=V:=⟨_,rfl⟩;rw[hV];have HR4:=Za (hV ▸ (((((HR3.out).set 0 (.int .i64 x.kind)).set 1 (.string (aB x.name))).set 2 (.slice a1 x.args.length a2)).set 3 (.slice b1 x.thn.length b2)).set 4 (.slice g1 x.els.length g2));have HF4:=Za (hV ▸ (((((HF3.out).setNew (Zd _) 0 (.int .i64 x.kind)).setNew (Zd _) 1 (.string (aB x.name))).setNew (Zd _) 2 (.slice a1 x.args.length a2)).setNew (Zd _) 3 (.slice b1 x.thn.length b2)).setNew (Zd _) 4 (.slice g1 x.els.length g2));have HP4:=Za (hV ▸ (((((HP3.out).other HPW.out 0 (.int .i64 x.kind)).other HPW.out 1 (.string (aB x.name))).other HPW.out 2 (.slice a1 x.args.length a2)).other HPW.out 3 (.slice b1 x.thn.length b2)).other HPW.out 4 (.slice g1 x.els.length g2));have HX4:=Za (hV ▸ (((((HX3.out).keep (aN _ (by show ¬w.heap.size+1≤w.heap.size;omega) 0 (.int .i64 x.kind))).keep (aN _ (by show ¬w.heap.size+1≤w.heap.size;omega) 1 (.string (aB x.name)))).keep (aN _ (by show ¬w.heap.size+1≤w.heap.size;omega) 2 (.slice a1 x.args.length a2))).keep (aN _ (by show ¬w.heap.size+1≤w.heap.size;omega) 3 (.slice b1 x.thn.length b2))).keep (aN _ (by show ¬w.heap.size+1≤w.heap.size;omega) 4 (.slice g1 x.els.length g2)))
  have HT4:=Za (hV ▸ (((((HT3.out).keep (aN _ (by show ¬w.heap.size+1≤w.heap.size;omega) 0 (.int .i64 x.kind))).keep (aN _ (by show ¬w.heap.size+1≤w.heap.size;omega) 1 (.string (aB x.name)))).keep (aN _ (by show ¬w.heap.size+1≤w.heap.size;omega) 2 (.slice a1 x.args.length a2))).keep (aN _ (by show ¬w.heap.size+1≤w.heap.size;omega) 3 (.slice b1 x.thn.length b2))).keep (aN _ (by show ¬w.heap.size+1≤w.heap.size;omega) 4 (.slice g1 x.els.length g2)));have HE4:=Za (hV ▸ (((((HE3.out).keep (aN _ (by show ¬w.heap.size+1≤w.heap.size;omega) 0 (.int .i64 x.kind))).keep (aN _ (by show ¬w.heap.size+1≤w.heap.size;omega) 1 (.string (aB x.name)))).keep (aN _ (by show ¬w.heap.size+1≤w.heap.size;omega) 2 (.slice a1 x.args.length a2))).keep (aN _ (by show ¬w.heap.size+1≤w.heap.size;omega) 3 (.slice b1 x.thn.length b2))).keep (aN _ (by show ¬w.heap.size+1≤w.heap.size;omega) 4 (.slice g1 x.els.length g2)));clear hV;obtain⟨w4,hWW⟩:∃w4,w4=V:=⟨_,rfl⟩;subst hWW;have hba:Below w4.heap.size w4 (w4.alloc (.cells #[.string ⟨#[59]⟩] 9)):=bA;have HF5:=Za (HF4.out.trans (Zb hba));have HP5:=Za (HP4.out.old hba);have HR5:=Za (HR4.out.old hba);have HX5:=Za (HX4.out.old hba);have HT5:=Za (HT4.out.old hba);have HE5:=Za (HE4.out.old hba);have HWN:=Za (cM p tb r2 [59] _ HP5.out w4.heap.size 1 ((Ze w4 [.string ⟨#[59]⟩] 9).at 0 _ rfl));clear hba;go_wp2_with fail
  refine(HWN.out).mono ?_;intro e w6 he
  cases hA:aV [59] r2 with
  |error n=>
   rw[hA]at he;obtain⟨hf,rfl⟩:=he;have HF:=Za (HF5.out.trans hf);have e1:cW (f+1) (t::r)= .error n:=by rw[iC HN1.out HN2.out,HA3.out];dsimp only;rw[hA]
   have e2:=HRR.out.symm.trans e1;subst e2;clear e1 hf;unfold az;go_wp2_with fail
   exact⟨rfl,HF.out,rfl⟩
  |ok r3=>
   rw[hA]at he;obtain⟨hf,rfl,hp⟩:=he;have HF6:=Za (HF5.out.trans hf);have HP6:=Za hp;have HR6:=Za (HR5.out.sfr hf HNE.out);have HX6:=Za (HX5.out.keep (hf.fresh (by have:=HPW.out;omega)));have HT6:=Za (HT5.out.keep (hf.fresh (by have:=HPW.out;omega)));have HE6:=Za (HE5.out.keep (hf.fresh (by have:=HPW.out;omega)));clear hf hp;have HA6:=Za hA;clear hA;clear HWN;go_wp2_with fail
   have e1:cW (f+1) (t::r)= .ok (x,r3):=by rw[iC HN1.out HN2.out,HA3.out];dsimp only;rw[HA6.out]
   have e2:=HRR.out.symm.trans e1;subst e2;obtain⟨⟨d0,d1,d2,d3,d4⟩,_⟩:=bL HR6.out;exact bodyPost_ret (v:= .agg #[.int .i64 x.kind,.string (aB x.name),.slice a1 x.args.length a2,.slice b1 x.thn.length b2,.slice g1 x.els.length g2]) (by simp [results,Tryz.results165,go_sem,d0,d1,d2,d3,d4]) rfl (st_finx HF6.out HP6.out HX6.out HT6.out HE6.out)
theorem tz(f:Nat)(hB:l9 f)(hBL:∀l x r,dH f l= .ok (x,r)→r.length<l.length):vB (f+1):=by
 intro l w p tb hl h;obtain⟨t,r,rfl⟩:=h.ends.ne
 cases h0:isP [105,102] t with
 |true=>exact vj f hB hBL t r w p tb (by omega) h h0
 |false=>
  cases h1:isP [119,104,105,108,101] t with
  |true=>exact qP f hB hBL t r w p tb (by omega) h h0 h1
  |false=>exact oq f t r w p tb (by omega) h h0 h1
theorem rV {f:Nat}{l r:List Tk}{x:St}(h:aW f l= .ok (x,r)):r.length<l.length:=by
 have hE:=fun {lv:Int} {a b:List Tk} {y:Ex} (q:ar f lv a= .ok (y,b))=>(dM f).1 _ _ _ _ q
 have hA:=fun {a b:List Tk} {y:List Ex} (q:eP f a= .ok (y,b))=>(dM f).2.2.2.2.1 _ _ _ q
 unfold aW at h
 cases h1:bF [98,114,101,97,107] l with
 |some q=>rw[h1]at h;injection h with h;injection h with _ h;subst h;exact bW h1
 |none=>
 rw[h1]at h;dsimp only at h
 cases h2:bF [99,111,110,116,105,110,117,101] l with
 |some q=>rw[h2]at h;injection h with h;injection h with _ h;subst h;exact bW h2
 |none=>
 rw[h2]at h;dsimp only at h
 cases h3:bF [114,101,116,117,114,110] l with
 |some q=>
  rw[h3]at h;dsimp only at h;have h0:=bW h3
  cases h4:ar f 1 q with
  |error e=>rw[h4]at h;cases h
  |ok z=>obtain⟨y,z⟩:=z;rw[h4]at h;injection h with h;injection h with _ h;subst h;have:=hE h4;omega
 |none=>
 rw[h3]at h;dsimp only at h
 cases h4:bF [112,114,105,110,116] l with
 |some q=>
  rw[h4]at h;dsimp only at h;have h0:=bW h4
  cases h5:bq f q with
  |error e=>rw[h5]at h;cases h
  |ok z=>obtain⟨y,z⟩:=z;rw[h5]at h;injection h with h;injection h with _ h;subst h;have:=e6 h5;omega
 |none=>
 rw[h4]at h;dsimp only at h
 cases h5:bF [116,114,97,112] l with
 |some q=>
  rw[h5]at h;dsimp only at h;have h0:=bW h5
  cases h6:bq f q with
  |error e=>rw[h6]at h;cases h
  |ok z=>obtain⟨y,z⟩:=z;rw[h6]at h;injection h with h;injection h with _ h;subst h;have:=e6 h6;omega
 |none=>
 rw[h5]at h;dsimp only at h
 cases h6:dK l with
 |error e=>rw[h6]at h;cases h
 |ok z=>
 obtain⟨s,q⟩:=z;rw[h6]at h;dsimp only at h;have h0:=fD h6
 cases h7:bF [40] q with
 |some q2=>
  rw[h7]at h;dsimp only at h;have h8:=bW h7
  cases h9:eP f q2 with
  |error e=>rw[h9]at h;cases h
  |ok z=>obtain⟨y,z⟩:=z;rw[h9]at h;injection h with h;injection h with _ h;subst h;have:=hA h9;omega
 |none=>
 rw[h7]at h;dsimp only at h
 cases h8:bF [91] q with
 |some q2=>
  rw[h8]at h;dsimp only at h;have k1:=bW h8
  cases h9:ar f 1 q2 with
  |error e=>rw[h9]at h;cases h
  |ok z=>
   obtain⟨y,z⟩:=z;rw[h9]at h;dsimp only at h;have k2:=hE h9
   cases g1:aV [93] z with
   |error e=>rw[g1]at h;cases h
   |ok z2=>
    rw[g1]at h;dsimp only at h;have k3:=bC g1
    cases g2:aV [61] z2 with
    |error e=>rw[g2]at h;cases h
    |ok z3=>
     rw[g2]at h;dsimp only at h;have k4:=bC g2
     cases g3:ar f 1 z3 with
     |error e=>rw[g3]at h;cases h
     |ok z4=>obtain⟨y4,z4⟩:=z4;rw[g3]at h;injection h with h;injection h with _ h;subst h;have:=hE g3;omega
 |none=>
 rw[h8]at h;dsimp only at h
 cases g2:aV [61] q with
 |error e=>rw[g2]at h;cases h
 |ok z3=>
  rw[g2]at h;dsimp only at h;have k4:=bC g2
  cases g3:ar f 1 z3 with
  |error e=>rw[g3]at h;cases h
  |ok z4=>obtain⟨y4,z4⟩:=z4;rw[g3]at h;injection h with h;injection h with _ h;subst h;have:=hE g3;omega
theorem j9 {f:Nat}(h:∀a l x r,cV f a l= .ok (x,r)→r.length<l.length):∀l x r,dH f l= .ok (x,r)→r.length<l.length:=by
 intro l x r hb;unfold dH at hb
 cases h1:aV [123] l with
 |error e=>rw[h1]at hb;cases hb
 |ok q=>rw[h1]at hb;have:=bC h1;have:=h _ _ _ _ hb;omega
theorem iZ:∀f:Nat,(∀l x r,cW f l= .ok (x,r)→r.length<l.length)∧(∀a l x r,cV f a l= .ok (x,r)→r.length<l.length)
 |0=>⟨fun l x r h=>(by cases h),fun a l x r h=>(by cases h)⟩
 |f+1=>by
  obtain⟨i1,i2⟩:=iZ f;have ib:=j9 i2;refine⟨fun l x r h=> ?_,fun a l x r h=> ?_⟩
  ·cases l with
   |nil=>
    have:cW (f+1) []= .error (iF []):=by
     rw[cW];dsimp only[bF];have hs:aW f []= .error (iF []):=rfl;rw[hs]
    rw[this]at h;cases h
   |cons t l=>
    cases h0:isP [105,102] t with
    |true=>
     rw[jt h0]at h
     cases h1:bq f l with
     |error e=>rw[h1]at h;cases h
     |ok q=>
      obtain⟨y,q⟩:=q;rw[h1]at h;dsimp only at h;have k1:=e6 h1
      cases h2:dH f q with
      |error e=>rw[h2]at h;cases h
      |ok z=>
       obtain⟨a,z⟩:=z;rw[h2]at h;dsimp only at h;have k2:=ib _ _ _ h2
       cases h3:bF [101,108,115,101] z with
       |none=>rw[h3]at h;injection h with h;injection h with _ h;subst h;rw[Zc];omega
       |some u=>
        rw[h3]at h;dsimp only at h;have k3:=bW h3
        cases h4:dH f u with
        |error e=>rw[h4]at h;cases h
        |ok v=>obtain⟨b,v⟩:=v;rw[h4]at h;injection h with h;injection h with _ h;subst h;have:=ib _ _ _ h4;rw[Zc];omega
    |false=>
     cases h1:isP [119,104,105,108,101] t with
     |true=>
      rw[jC h0 h1]at h
      cases h2:bq f l with
      |error e=>rw[h2]at h;cases h
      |ok q=>
       obtain⟨y,q⟩:=q;rw[h2]at h;dsimp only at h;have k1:=e6 h2
       cases h3:dH f q with
       |error e=>rw[h3]at h;cases h
       |ok z=>obtain⟨a,z⟩:=z;rw[h3]at h;injection h with h;injection h with _ h;subst h;have:=ib _ _ _ h3;rw[Zc];omega
     |false=>
      rw[iC h0 h1]at h
      cases h2:aW f (t::l)with
      |error e=>rw[h2]at h;cases h
      |ok q=>
       obtain⟨y,q⟩:=q;rw[h2]at h;dsimp only at h;have k1:=rV h2
       cases h3:aV [59] q with
       |error e=>rw[h3]at h;cases h
       |ok z=>rw[h3]at h;injection h with h;injection h with _ h;subst h;have:=bC h3;omega
  ·rw[cV]at h
   cases h1:bF [125] l with
   |some q=>rw[h1]at h;injection h with h;injection h with _ h;subst h;exact bW h1
   |none=>
    rw[h1]at h;dsimp only at h
    cases h2:cW f l with
    |error e=>rw[h2]at h;cases h
    |ok q=>obtain⟨y,q⟩:=q;rw[h2]at h;dsimp only at h;have:=i1 _ _ _ h2;have:=i2 _ _ _ _ h;omega
theorem aG.newsY {w:World}{b:Nat}{cs:List Value}{T:TypeId}(h:aG w b cs T):∀j u,cs[j]? =some u→w.cell? ((⟨b,0,none⟩:Addr).add j)=some u:=by
 intro j u hu;have h2:(⟨b,0,none⟩:Addr).add j=⟨b,j,none⟩:=by unfold Addr.add;split<;>simp_all
 rw[h2];exact h.at j u hu
theorem SFr.grown {p:Nat}{w w1 w2:World}(h:SFr p w w1){row:Option Nat}(hg:w1.grownBy w2 row)(hr:∀k,row=some k→w.heap.size≤k):SFr p w w2:=
 ⟨hg.os.trans h.os,hg.tape.trans h.tape,hg.output.trans h.output,Nat.le_trans h.size hg.size,fun k hk hp=>(hg.block k (Nat.lt_of_lt_of_le hk h.size) (fun e=>by have:=hr k e.symm;omega)).trans (h.block k hk hp)⟩
theorem cS.rowGe {w:World}{base:Nat}{ps:List StV}{v:Value}(h:cS w base ps v):∀k,v.ownBlock=some k→base≤k:=fun k e=>(World.ownsRow.lt h.1 k e).1
structure StsI (w:World)(p tb:Nat)(f:Nat)(R:PR (List St))(g:Nat)(va:Option Addr)(vc:Nat)(ps:List StV)(l:List Tk)(wr:World):Prop where
 sfr:SFr p w wr
 par:Ps wr p tb l
 row:cS wr w.heap.size ps (.slice va ps.length vc)
 len:ps.length+l.length≤1000000
 fuel:4*l.length+2≤g
 le:g≤f
 res:cV g (ps.map (·.x)) l=R
theorem jd(f:Nat)(ih:∀g,g<f→vB g):qM f:=by
 intro l w p tb hl h;obtain⟨R,hR⟩:∃R,cV f [] l=R:=⟨_,rfl⟩;rw[hR];have hlen:l.length≤1000000:=by obtain⟨_,_,h2⟩:=h;exact h2.fit
 have HPW:=Za h.lt;have HI0:Hid (StsI w p tb f R f none 0 [] l w):=⟨SFr.refl p w,h,cS.zero _ _,by simpa using hlen,hl,Zd _,hR⟩;have IH:=Za ih;obtain⟨i0,hi,hz0,hz1,hz2⟩:=info_parts xf;have HIF:=Za hi;have HZ0:=Za hz0;have HZ1:=Za hz1;have HZ2:=Za hz2;clear hl h hR hlen ih hi hz0 hz1 hz2;go_enter Tryz.func127,Tryz.ntmps127
 go_wp2_with fail
 go_loopw [2] (fun s2 wr=> ∃(g:Nat) (va:Option Addr) (vc:Nat) (ps:List StV) (l:List Tk),s2= .slice va ps.length vc∧Hid (StsI w p tb f R g va vc ps l wr)) (fun _ wr=>cm p wr)
 case atStart=>exact⟨f,none,0,[],l,rfl,HI0⟩
 case round=>
  obtain⟨g,va,vc,ps,l,rfl,HI⟩:=hrel;clear HI0;obtain⟨u,l,rfl⟩:=HI.out.par.ends.ne;obtain⟨g',hg'⟩:∃g',g=g'+1:=⟨g - 1,by have:=HI.out.fuel;omega⟩;subst hg'
  cases hu:isP [125] u with
  |true=>
   have HTK:=Za (bE p tb u l [125] wr HI.out.par hu);have hres:Except.ok (ps.map (·.x),l)=R:=by
    have h1:=HI.out.res;rw[cV,aQ hu]at h1;exact h1
   subst hres;clear hu;go_wp2_with fail
   refine HTK.out.mono ?_;rintro e w3 ⟨rfl,hf,hp⟩;have HF:=Za (HI.out.sfr.trans hf);have HP:=Za hp;have HR:=Za ((HI.out.row.sfr hf HPW.out).sts (show ps.length≤140737488355328 by have:=HI.out.len;omega));clear hf hp;go_wp2_with fail
   go_ret
   exact⟨HF.out,_,rfl,HP.out,HR.out⟩
  |false=>
   have HTK:=Za (aO p tb u l [125] wr HI.out.par hu);have hres:(match cW g' (u::l)with| .error e=> .error e| .ok (x,r)=>cV g' (ps.map (·.x)++[x]) r)=R:=by
    have h1:=HI.out.res;rw[cV,aH hu]at h1;exact h1
   have HRES:=Za hres;clear hu hres;go_wp2_with fail
   refine HTK.out.mono ?_;rintro e w3 ⟨rfl,hb⟩;have HP3:=Za (HI.out.par.old hb);have HF3:=Za (HI.out.sfr.trans (Zb hb));have HR3:=Za (HI.out.row.sfr (Zb (s:=p) hb) HPW.out);have HC:=Za (IH.out g' (by have:=HI.out.le;omega) (u::l) w3 p tb (by have:=HI.out.fuel;omega) (HI.out.par.old hb));clear hb;go_wp2_with fail
   refine HC.out.mono ?_;intro e w4 he
   cases hA:cW g' (u::l)with
   |error n=>
    rw[hA]at he;obtain⟨hf,rfl⟩:=he;have HF:=Za (HF3.out.trans hf);have e2:=HRES.out;rw[hA]at e2;dsimp only at e2;subst e2;clear hf hA;unfold az;go_wp2_with fail
    exact⟨rfl,HF.out,rfl⟩
   |ok q=>
    obtain⟨x,r⟩:=q;rw[hA]at he;obtain⟨hf,v,rfl,hp,xa,xt,xe,rfl,ha,ht,hE⟩:=he;obtain⟨a1,a2,rfl⟩:=ha.shape;obtain⟨t1,t2,rfl⟩:=ht.shape;obtain⟨e1,e2,rfl⟩:=hE.shape;have hr4:=HR3.out.sfr hf HPW.out;have hf4:=HF3.out.trans hf;have hlt3:∀k,(Value.slice va ps.length vc).ownBlock=some k→k<w3.heap.size:=fun k e=>(World.ownsRow.lt HR3.out.1 k e).2
    have hsz:=HF3.out.size;have hpar:dV (fun b=>w.heap.size≤b∧(Value.slice va ps.length vc).ownBlock≠some b) w4 ⟨x,.slice a1 x.args.length a2,.slice t1 x.thn.length t2,.slice e1 x.els.length e2⟩:=by
     have hD:∀b,w3.heap.size≤b→w.heap.size≤b∧(Value.slice va ps.length vc).ownBlock≠some b:=fun b hb=>⟨by omega,fun e=>by have:=hlt3 b e;omega⟩
     exact⟨ha.mono hD,ht.mono hD,hE.mono hD⟩
    have hal:Below w4.heap.size w4 (w4.alloc (.cells #[.int .i64 x.kind,.string (aB x.name),.slice a1 x.args.length a2,.slice t1 x.thn.length t2,.slice e1 x.els.length e2] 60)):=bA;have HR5:=Za (hr4.sfr (Zb (s:=p) hal) HPW.out);have HF5:=Za (hf4.trans (Zb hal));have HP5:=Za (hp.old hal);have HPR5:=Za (hpar.keep (aw hal));have HNEW:=Za (Ze w4 (dr x (.slice a1 x.args.length a2) (.slice t1 x.thn.length t2) (.slice e1 x.els.length e2)) 60);have hlen:=HI.out.len;rw[Zc]at hlen;have hless:=(iZ g').1 _ _ _ hA;rw[Zc]at hless;have hfu:=HI.out.fuel;rw[Zc]at hfu;have hRES:=HRES.out;rw[hA]at hRES;dsimp only at hRES;have HRS:=Za hRES;have HLE:Hid (g'≤f):=by show _≤_;have:=HI.out.le;omega
    have HFU:Hid (4*r.length+2≤g'):=by show _≤_;omega
    have HLN:Hid (ps.length+1+r.length≤1000000):=by show _≤_;omega
    have hps:ps.length≤1000000:=by omega
    have HLS:Hid (r.length<l.length+1):=hless;have HSZ:Hid (w.heap.size≤(w4.alloc (.cells #[.int .i64 x.kind,.string (aB x.name),.slice a1 x.args.length a2,.slice t1 x.thn.length t2,.slice e1 x.els.length e2] 60)).heap.size):=HF5.out.size;clear hf hp ha ht hE hr4 hf4 hlt3 hsz hpar hal hlen hless hfu hRES hA;go_wp2_with (at_builtin;(refine wpList_append_lies (P:=Tryz.prog) _ rfl _ _ 56 rfl w.heap.size 60 i0 _ 5 96 Tryz.underlying56 HIF.out HZ0.out HZ1.out HZ2.out rfl (by decide) (.slice va ps.length vc) ps.length (fP ps) rfl HR5.out.1 ⟨w4.heap.size,0,none⟩ 1 1 (dr x (.slice a1 x.args.length a2) (.slice t1 x.thn.length t2) (.slice e1 x.els.length e2)) rfl rfl HNEW.out.newsY (yg _ _ _ _ _ _ _ _ _ _) (by decide) (by unfold maxLen;omega) (by omega) HSZ.out _ rfl ?_;intro gb cap w11 hown hgrow hat hlt11;have HR11:=Za (HR5.out.snoc ⟨x,.slice a1 x.args.length a2,.slice t1 x.thn.length t2,.slice e1 x.els.length e2⟩ HPR5.out hown hgrow hat);have HF11:=Za (HF5.out.grown hgrow HR5.out.rowGe);have HP11:=Za (HP5.out.grown hgrow HR5.out.rowGe HPW.out);clear hown hgrow hat))
    have HI11:Hid (StsI w p tb f R g' (some ⟨gb,0,none⟩) cap (ps++[⟨x,.slice a1 x.args.length a2,.slice t1 x.thn.length t2,.slice e1 x.els.length e2⟩]) r w11):=⟨HF11.out,HP11.out,by have:=HR11.out;rw[List.length_append];exact this,by rw[List.length_append];exact HLN.out,HFU.out,HLE.out,by rw[List.map_append];exact HRS.out⟩;have hm:cm p w11<cm p wr:=by
     rw[HI11.out.par.len,HI.out.par.len,Zc];exact HLS.out
    have HM:=Za hm;clear hm;go_roundw
    case rel=>exact⟨g',_,_,_,r,by rw[List.length_append];rfl,HI11⟩
    case measure=>exact HM.out
theorem vA:∀f:Nat,vB f∧qM f∧l9 f
 |0=>⟨fun l w p tb h=>by omega,jd 0 (fun g hg=>by omega),rK 0 (jd 0 (fun g hg=>by omega))⟩
 |f+1=>by
  have ih:∀g,g<f+1→vB g∧qM g∧l9 g:=fun g hg=>vA g
  have h1:=jd (f+1) (fun g hg=>(ih g hg).1);exact⟨tz f (ih f (Nat.lt_succ_self _)).2.2 (j9 (iZ f).2),h1,rK (f+1) h1⟩
end Go.Proofs.YtcfpfnoldgnloaaGreatDoor
