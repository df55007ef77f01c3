/-
  tight: what binds more strongly than all operators of two.
-/
import Derived.Test.YtcfpfnoldgnloaaGreatDoorBk03
set_option linter.unusedVariables false
set_option linter.unusedSimpArgs false
namespace Go.Proofs.YtcfpfnoldgnloaaGreatDoor
open Go.RowKit
set_option maxHeartbeats 20000000
set_option maxRecDepth 100000
open Go.Lib renaming hid→Za
open SFr renaming of_below→Zb
open aG renaming new→Zc
open Go.Proofs.Tryz renaming prog→Zd,ntmps118→Zg,results118→Zh
open List renaming length_cons→Ze
open Below renaming heap_setCell→Zf
@[go_sem] theorem field_tk2 (a b c d:Value) (w:World):(Instr.field 50 (.agg #[a,b,c,d]) 2).run Zd w= .ok c w:=by kernel_rfl
theorem qo(t:Tk)(r:List Tk):dK (t::r)=if t.kind=1 then .ok (t.text,r)else .error t.line:=by
 unfold dK;have:gx 1 (t::r)=if t.kind=1 then Except.ok (t,r)else Except.error t.line:=rfl
 rw[this]
 by_cases h:t.kind=1
 ·rw[if_pos h,if_pos h]
 ·rw[if_neg h,if_neg h]
theorem lw(t:Tk)(r:List Tk):(dR (t::r)=some (17,r)∧isP (aU 17) t=true)∨(dR (t::r)=some (18,r)∧isP (aU 17) t=false∧isP (aU 18) t=true)∨(dR (t::r)=some (19,r)∧isP (aU 17) t=false∧isP (aU 18) t=false∧isP (aU 19) t=true)∨
  (dR (t::r)=none∧isP (aU 17) t=false∧isP (aU 18) t=false∧isP (aU 19) t=false):=by
 unfold dR
 cases h1:isP (aU 17) t with
 |true=>rw[aQ h1];exact .inl ⟨rfl,rfl⟩
 |false=>
  rw[aH h1]
  cases h2:isP (aU 18) t with
  |true=>rw[aQ h2];exact .inr (.inl ⟨rfl,rfl,rfl⟩)
  |false=>
   rw[aH h2]
   cases h3:isP (aU 19) t with
   |true=>rw[aQ h3];exact .inr (.inr (.inl ⟨rfl,rfl,rfl,rfl⟩))
   |false=>rw[aH h3];exact .inr (.inr (.inr ⟨rfl,rfl,rfl,rfl⟩))
theorem qj(p tb:Nat)(t:Tk)(r:List Tk)(op:Int)(hu:dR (t::r)=some (op,r))(w:World)(h:Ps w p tb (t::r)):
  Calls Zd 162 #[.pointer (some ⟨p,0,none⟩)] w fun e w'=>e= .returned (.int .i64 op)∧SFr p w w'∧Ps w' p tb r:=by
 rcases lw t r with⟨e,h1⟩|⟨e,h1,h2⟩|⟨e,h1,h2,h3⟩|⟨e,_⟩
 ·rw[e]at hu;injection hu with hu;injection hu with hu _;subst hu;exact tJ p tb t r w h h1
 ·rw[e]at hu;injection hu with hu;injection hu with hu _;subst hu;exact uV p tb t r w h h1 h2
 ·rw[e]at hu;injection hu with hu;injection hu with hu _;subst hu;exact uI p tb t r w h h1 h2 h3
 ·rw[e]at hu;cases hu
theorem gg(p tb:Nat)(t:Tk)(r:List Tk)(hu:dR (t::r)=none)(w:World)(h:Ps w p tb (t::r)):
  Calls Zd 162 #[.pointer (some ⟨p,0,none⟩)] w fun e w'=>e= .returned (.int .i64 0)∧SFr p w w'∧Ps w' p tb (t::r):=by
 rcases lw t r with⟨e,h1⟩|⟨e,h1,h2⟩|⟨e,h1,h2,h3⟩|⟨e,h1,h2,h3⟩
 ·rw[e]at hu;cases hu
 ·rw[e]at hu;cases hu
 ·rw[e]at hu;cases hu
 ·exact sw p tb t r w h h1 h2 h3
theorem lO {t:Tk}{r q:List Tk}{op:Int}(h:dR (t::r)=some (op,q)):q=r∧(op=17∨op=18∨op=19):=by
 rcases lw t r with⟨e,_⟩|⟨e,_⟩|⟨e,_⟩|⟨e,_⟩<;>rw[e]at h
 ·injection h with h;injection h with h1 h2;exact⟨h2.symm,.inl h1.symm⟩
 ·injection h with h;injection h with h1 h2;exact⟨h2.symm,.inr (.inl h1.symm)⟩
 ·injection h with h;injection h with h1 h2;exact⟨h2.symm,.inr (.inr h1.symm)⟩
 ·cases h
theorem rC(f:Nat)(ih:mG f)(t:Tk)(r:List Tk)(w:World)(p tb:Nat)(hl:4*(t::r).length+1≤f+1)(h:Ps w p tb (t::r))(op:Int)(hu:dR (t::r)=some (op,r)):
  Calls Zd 118 #[.pointer (some ⟨p,0,none⟩)] w (eH (ExH w.heap.size) w p tb (bH (f+1) (t::r))):=by
 have HPW:=Za h.lt;have HNE:Hid (w.heap.size≠p):=by show _≠_;have:=h.lt;omega
 have hb0:Below w.heap.size w (w.alloc (.cells #[.int .i64 0,.int .i64 0,.int .i64 0,.string ⟨#[]⟩,.slice none 0 0] 27)):=bA;have HF0:Hid (SFr p w (w.alloc (.cells #[.int .i64 0,.int .i64 0,.int .i64 0,.string ⟨#[]⟩,.slice none 0 0] 27))):=Zb hb0;have HR0:=Za (Zc w [.int .i64 0,.int .i64 0,.int .i64 0,.string ⟨#[]⟩,.slice none 0 0] 27);have HP0:=Za (h.old hb0);clear hb0;obtain⟨R,hR⟩:∃R,bH (f+1) (t::r)=R:=⟨_,rfl⟩;rw[hR];have HRR:=Za hR;clear hR;have HU:=Za hu;have HT:Hid (∀w1,Ps w1 p tb (t::r)→_):=fun w1 h1=>qj p tb t r op hu w1 h1
 rw[Ze]at hl;have HC:Hid (∀w1,Ps w1 p tb r→_):=fun w1 h1=>ih r w1 p tb (by omega) h1
 have hop:(op !=0)=true:=by rcases(lO hu).2 with rfl|rfl|rfl<;>rfl
 have hop2:(op==0)=false:=by rcases(lO hu).2 with rfl|rfl|rfl<;>rfl
 have hop3:¬op=0:=by rcases(lO hu).2 with rfl|rfl|rfl<;>decide
 clear hu hl ih;clear h;go_enter Tryz.func118,Zg
 go_wp2_with fail
 refine(HT.out _ HP0.out).mono ?_;rintro e w1 ⟨rfl,hf,hp⟩;have HF1:=Za (HF0.out.trans hf);have HP1:=Za hp;have HR1:=Za (HR0.out.sfr hf HNE.out);clear hf hp;go_wp2_with fail
 refine(HC.out _ HP1.out).mono ?_;intro e w2 he
 cases hA:bH f r with
 |error n=>
  rw[hA]at he;obtain⟨hf,rfl⟩:=he;have HF:=Za (HF1.out.trans hf);have e1:bH (f+1) (t::r)= .error n:=by rw[bH,HU.out];dsimp only;rw[hA]
  have e2:=HRR.out.symm.trans e1;subst e2;clear e1 hf;unfold az;go_wp2_with fail
  exact⟨rfl,HF.out,rfl⟩
 |ok q=>
  obtain⟨x,r2⟩:=q;rw[hA]at he;obtain⟨hf,v,rfl,hp,hv⟩:=he;obtain⟨s3,rfl,hx,hn⟩:=hv;obtain⟨a1,a2,rfl⟩:=hx.shape;have HX2:=Za (hx.up (show w.heap.size+1≤w1.heap.size from HR1.out.lt));have HN:=Za hn;clear hx hn;have HF2:=Za (HF1.out.trans hf);have HP2:=Za hp;have HR2:=Za (HR1.out.sfr hf HNE.out);clear hf hp;have HA2:=Za hA;clear hA;obtain⟨⟨x0,x1,x2,x3,x4⟩,xf0,xf1,xf2,xf3,xf4⟩:=bL HR2.out;have xlt:=HR2.out.lt;go_wp2_with fail
  have e1:bH (f+1) (t::r)= .ok (.mk 3 op 0 [] [x],r2):=by rw[bH,HU.out];dsimp only;rw[HA2.out]
  have e2:=HRR.out.symm.trans e1;subst e2;obtain⟨⟨d0,d1,d2,d3,d4⟩,_⟩:=bL ((i7 HR2.out (.int .i64 3) (.int .i64 op) (.int .i64 0) (.string ⟨#[]⟩) (.slice (some ⟨w2.heap.size,0,none⟩) 1 1)).alloc (.cells #[.int .i64 x.kind,.int .i64 x.op,.int .i64 x.n,.string (aB x.name),(.slice a1 x.args.length a2)] 27));exact bodyPost_ret (v:= .agg #[.int .i64 3,.int .i64 op,.int .i64 0,.string ⟨#[]⟩,.slice (some ⟨w2.heap.size,0,none⟩) 1 1]) (by simp [results,Zh,go_sem,d0,d1,d2,d3,d4]) rfl (ug (x:=x) (y:= .mk 3 op 0 [] [x]) HPW.out HF2.out HP2.out HX2.out HN.out HR2.out.lt rfl dz _ _ _ _ _)
theorem oZ(f:Nat)(ih:ji f)(t:Tk)(r:List Tk)(w:World)(p tb:Nat)(hl:4*(t::r).length+1≤f+1)(h:Ps w p tb (t::r))(hu:dR (t::r)=none)(y:isP [40] t=true):
  Calls Zd 118 #[.pointer (some ⟨p,0,none⟩)] w (eH (ExH w.heap.size) w p tb (bH (f+1) (t::r))):=by
 have HPW:=Za h.lt;have HNE:Hid (w.heap.size≠p):=by show _≠_;have:=h.lt;omega
 have hb0:Below w.heap.size w (w.alloc (.cells #[.int .i64 0,.int .i64 0,.int .i64 0,.string ⟨#[]⟩,.slice none 0 0] 27)):=bA;have HF0:Hid (SFr p w (w.alloc (.cells #[.int .i64 0,.int .i64 0,.int .i64 0,.string ⟨#[]⟩,.slice none 0 0] 27))):=Zb hb0;have HR0:=Za (Zc w [.int .i64 0,.int .i64 0,.int .i64 0,.string ⟨#[]⟩,.slice none 0 0] 27);have HP0:=Za (h.old hb0);clear hb0;obtain⟨R,hR⟩:∃R,bH (f+1) (t::r)=R:=⟨_,rfl⟩;rw[hR];have HRR:=Za hR;clear hR;have HU:=Za hu;have HT:Hid (∀w1,Ps w1 p tb (t::r)→_):=fun w1 h1=>gg p tb t r hu w1 h1
 have HY:=Za y;have HV:Hid (∀w1,Ps w1 p tb (t::r)→_):=fun w1 h1=>bE p tb t r [40] w1 h1 y
 rw[Ze]at hl;have HC:Hid (∀w1,Ps w1 p tb r→_):=fun w1 h1=>ih r w1 p tb (by omega) h1
 clear hu y hl ih;clear h;go_enter Tryz.func118,Zg
 go_wp2_with fail
 refine(HT.out _ HP0.out).mono ?_;rintro e w1 ⟨rfl,hf,hp⟩;have HF1:=Za (HF0.out.trans hf);have HP1:=Za hp;have HR1:=Za (HR0.out.sfr hf HNE.out);clear hf hp;go_wp2_with fail
 refine(HV.out _ HP1.out).mono ?_;rintro e w2 ⟨rfl,hf,hp⟩;have HF2:=Za (HF1.out.trans hf);have HP2:=Za hp;have HR2:=Za (HR1.out.sfr hf HNE.out);clear hf hp;go_wp2_with fail
 refine(HC.out _ HP2.out).mono ?_;intro e w3 he
 cases hA:ar f 1 r with
 |error n=>
  rw[hA]at he;obtain⟨hf,rfl⟩:=he;have HF:=Za (HF2.out.trans hf);have e1:bH (f+1) (t::r)= .error n:=by rw[bH,HU.out];dsimp only;rw[aQ HY.out];dsimp only;rw[hA]
  have e2:=HRR.out.symm.trans e1;subst e2;clear e1 hf;unfold az;go_wp2_with fail
  exact⟨rfl,HF.out,rfl⟩
 |ok q=>
  obtain⟨x,r2⟩:=q;rw[hA]at he;obtain⟨hf,v,rfl,hp,hv⟩:=he;obtain⟨s3,rfl,hx,hn⟩:=hv;obtain⟨a1,a2,rfl⟩:=hx.shape;have HX3:=Za (hx.up (show w.heap.size+1≤w2.heap.size from HR2.out.lt));have HN:=Za hn;clear hx hn;have HF3:=Za (HF2.out.trans hf);have HP3:=Za hp;have HR3:=Za (HR2.out.sfr hf HNE.out);clear hf hp;have HA3:=Za hA;clear hA;go_upto_region 6 with(fail)
  obtain⟨W,hW⟩:∃W,w3.alloc (.cells #[.int .i64 x.kind,.int .i64 x.op,.int .i64 x.n,.string (aB x.name),.slice a1 x.args.length a2] 27)=W:=⟨_,rfl⟩;rw[hW];have hba:Below w3.heap.size w3 W:=hW ▸ bA;have HF4:=Za (HF3.out.trans (Zb hba));have HP4:=Za (HP3.out.old hba);have HR4:=Za (HR3.out.old hba);have HX4:=Za (HX3.out.old hba);have HE4:=Za (hW ▸ Zc w3 [.int .i64 x.kind,.int .i64 x.op,.int .i64 x.n,.string (aB x.name),.slice a1 x.args.length a2] 27);have HEP:Hid (w3.heap.size≠p):=by show _≠_;have:=HP3.out.lt;omega
  clear hba hW;obtain⟨w4,hWW⟩:∃w4,w4=W:=⟨_,rfl⟩;subst hWW;have hba:Below w4.heap.size w4 (w4.alloc (.cells #[.string ⟨#[41]⟩] 9)):=bA;have HF5:=Za (HF4.out.trans (Zb hba));have HP5:=Za (HP4.out.old hba);have HR5:=Za (HR4.out.old hba);have HE5:=Za (HE4.out.old hba);have HX5:=Za (HX4.out.old hba);have HWN:=Za (cM p tb r2 [41] _ HP5.out w4.heap.size 1 ((Zc w4 [.string ⟨#[41]⟩] 9).at 0 _ rfl));clear hba;go_wp2_with fail
  refine(HWN.out).mono ?_;intro e w6 he
  cases hA:aV [41] r2 with
  |error n=>
   rw[hA]at he;obtain⟨hf,rfl⟩:=he;have HF:=Za (HF5.out.trans hf);have e1:bH (f+1) (t::r)= .error n:=by rw[bH,HU.out];dsimp only;rw[aQ HY.out];dsimp only;rw[HA3.out];dsimp only;rw[hA]
   have e2:=HRR.out.symm.trans e1;subst e2;clear e1 hf;unfold az;go_wp2_with fail
   exact⟨rfl,HF.out,rfl⟩
  |ok r3=>
   rw[hA]at he;obtain⟨hf,rfl,hp⟩:=he;have HF6:=Za (HF5.out.trans hf);have HP6:=Za hp;have HR6:=Za (HR5.out.sfr hf HNE.out);have HE6:=Za (HE5.out.sfr hf HEP.out);have HX6:=Za (HX5.out.keep (hf.fresh (by have:=HPW.out;omega)));clear hf hp;have HA6:=Za hA;clear hA;clear HWN;obtain⟨⟨e0,e1,e2,e3,e4⟩,ef0,ef1,ef2,ef3,ef4⟩:=bL HE6.out;have elt:=HE6.out.lt;obtain⟨⟨x0,x1,x2,x3,x4⟩,xf0,xf1,xf2,xf3,xf4⟩:=bL HR6.out;have xlt:=HR6.out.lt;go_wp2_with fail
   have e1:bH (f+1) (t::r)= .ok (x,r3):=by rw[bH,HU.out];dsimp only;rw[aQ HY.out];dsimp only;rw[HA3.out];dsimp only;rw[HA6.out]
   have e2:=HRR.out.symm.trans e1;subst e2;obtain⟨⟨d0,d1,d2,d3,d4⟩,_⟩:=bL (i7 HR6.out (.int .i64 x.kind) (.int .i64 x.op) (.int .i64 x.n) (.string (aB x.name)) (.slice a1 x.args.length a2));exact bodyPost_ret (v:= .agg #[.int .i64 x.kind,.int .i64 x.op,.int .i64 x.n,.string (aB x.name),.slice a1 x.args.length a2]) (by simp [results,Zh,go_sem,d0,d1,d2,d3,d4]) rfl (jQ (x:=x) HPW.out HF6.out HP6.out HX6.out HN.out _ _ _ _ _)
theorem py(f:Nat)(t:Tk)(r:List Tk)(w:World)(p tb:Nat)(hl:4*(t::r).length+1≤f+1)(h:Ps w p tb (t::r))(hu:dR (t::r)=none)(n:isP [40] t=false)(y:isP [114,101,97,100] t=true):
  Calls Zd 118 #[.pointer (some ⟨p,0,none⟩)] w (eH (ExH w.heap.size) w p tb (bH (f+1) (t::r))):=by
 have HPW:=Za h.lt;have HNE:Hid (w.heap.size≠p):=by show _≠_;have:=h.lt;omega
 have hb0:Below w.heap.size w (w.alloc (.cells #[.int .i64 0,.int .i64 0,.int .i64 0,.string ⟨#[]⟩,.slice none 0 0] 27)):=bA;have HF0:Hid (SFr p w (w.alloc (.cells #[.int .i64 0,.int .i64 0,.int .i64 0,.string ⟨#[]⟩,.slice none 0 0] 27))):=Zb hb0;have HR0:=Za (Zc w [.int .i64 0,.int .i64 0,.int .i64 0,.string ⟨#[]⟩,.slice none 0 0] 27);have HP0:=Za (h.old hb0);clear hb0;obtain⟨R,hR⟩:∃R,bH (f+1) (t::r)=R:=⟨_,rfl⟩;rw[hR];have HRR:=Za hR;clear hR;have HU:=Za hu;have HT:Hid (∀w1,Ps w1 p tb (t::r)→_):=fun w1 h1=>gg p tb t r hu w1 h1
 have HY:=Za y;have HN1:=Za n;have HV:Hid (∀w1,Ps w1 p tb (t::r)→_):=fun w1 h1=>aO p tb t r [40] w1 h1 n
 have HV2:Hid (∀w1,Ps w1 p tb (t::r)→_):=fun w1 h1=>bE p tb t r [114,101,97,100] w1 h1 y
 clear hu y n hl;clear h;go_enter Tryz.func118,Zg
 go_wp2_with fail
 refine(HT.out _ HP0.out).mono ?_;rintro e w1 ⟨rfl,hf,hp⟩;have HF1:=Za (HF0.out.trans hf);have HP1:=Za hp;have HR1:=Za (HR0.out.sfr hf HNE.out);clear hf hp;go_wp2_with fail
 refine(HV.out _ HP1.out).mono ?_;rintro e w2 ⟨rfl,hb⟩;have HF2:=Za (HF1.out.trans (Zb hb));have HP2:=Za (HP1.out.old hb);have HR2:=Za (HR1.out.old hb);clear hb;go_wp2_with fail
 refine(HV2.out _ HP2.out).mono ?_;rintro e w3 ⟨rfl,hf,hp⟩;have HF3:=Za (HF2.out.trans hf);have HP3:=Za hp;have HR3:=Za (HR2.out.sfr hf HNE.out);clear hf hp;have hba:Below w3.heap.size w3 (w3.alloc (.cells #[.string ⟨#[40]⟩,.string ⟨#[41]⟩] 9)):=bA;have hwp:w3.heap.size≠p:=by have:=HP3.out.lt;omega
 have HF4:=Za (HF3.out.trans (Zb hba));have HP4:=Za (HP3.out.old hba);have HR4:=Za (HR3.out.old hba);have HWN:=Za (kP p tb r [40] [41] _ HP4.out w3.heap.size 2 ((Zc w3 [.string ⟨#[40]⟩,.string ⟨#[41]⟩] 9).at 0 _ rfl) ((Zc w3 [.string ⟨#[40]⟩,.string ⟨#[41]⟩] 9).at 1 _ rfl) hwp);clear hba hwp;go_wp2_with fail
 refine(HWN.out).mono ?_;intro e w5 he
 cases hA:ev [40] [41] r with
 |error n=>
  rw[hA]at he;obtain⟨hf,rfl⟩:=he;have HF:=Za (HF4.out.trans hf);have e1:bH (f+1) (t::r)= .error n:=by rw[bH,HU.out];dsimp only;rw[aH HN1.out];dsimp only;rw[aQ HY.out];dsimp only;unfold ev at hA;cases hB:aV [40] r with
   |error n=>rw[hB]at hA;injection hA with hA;subst hA;rfl
   |ok q=>rw[hB]at hA;dsimp only at hA ⊢;rw[hA]
  have e2:=HRR.out.symm.trans e1;subst e2;clear e1 hf;unfold az;go_wp2_with fail
  exact⟨rfl,HF.out,rfl⟩
 |ok r3=>
  rw[hA]at he;obtain⟨hf,rfl,hp⟩:=he;have HF5:=Za (HF4.out.trans hf);have HP5:=Za hp;have HR5:=Za (HR4.out.sfr hf HNE.out);clear hf hp;have HA5:=Za hA;clear hA;clear HWN;obtain⟨⟨x0,x1,x2,x3,x4⟩,xf0,xf1,xf2,xf3,xf4⟩:=bL HR5.out;have xlt:=HR5.out.lt;go_wp2_with fail
  have e1:bH (f+1) (t::r)= .ok (.mk 7 0 0 [] [],r3):=by
     have hA:=HA5.out;rw[bH,HU.out];dsimp only;rw[aH HN1.out];dsimp only;rw[aQ HY.out];dsimp only;unfold ev at hA
     cases hB:aV [40] r with
     |error n=>rw[hB]at hA;cases hA
     |ok q=>rw[hB]at hA;dsimp only at hA ⊢;rw[hA]
  have e2:=HRR.out.symm.trans e1;subst e2;obtain⟨⟨d0,d1,d2,d3,d4⟩,_⟩:=bL (i7 HR5.out (.int .i64 7) (.int .i64 0) (.int .i64 0) (.string ⟨#[]⟩) (.slice none 0 0));exact bodyPost_ret (v:= .agg #[.int .i64 7,.int .i64 0,.int .i64 0,.string ⟨#[]⟩,.slice none 0 0]) (by simp [results,Zh,go_sem,d0,d1,d2,d3,d4]) rfl (jQ (x:= .mk 7 0 0 [] []) HPW.out HF5.out HP5.out aJ.zero dz _ _ _ _ _)
theorem sN(f:Nat)(t:Tk)(r:List Tk)(w:World)(p tb:Nat)(hl:4*(t::r).length+1≤f+1)(h:Ps w p tb (t::r))(hu:dR (t::r)=none)(n1:isP [40] t=false)(n2:isP [114,101,97,100] t=false)(hk:t.kind=3):
  Calls Zd 118 #[.pointer (some ⟨p,0,none⟩)] w (eH (ExH w.heap.size) w p tb (bH (f+1) (t::r))):=by
 have HPW:=Za h.lt;have HNE:Hid (w.heap.size≠p):=by show _≠_;have:=h.lt;omega
 have hb0:Below w.heap.size w (w.alloc (.cells #[.int .i64 0,.int .i64 0,.int .i64 0,.string ⟨#[]⟩,.slice none 0 0] 27)):=bA;have HF0:Hid (SFr p w (w.alloc (.cells #[.int .i64 0,.int .i64 0,.int .i64 0,.string ⟨#[]⟩,.slice none 0 0] 27))):=Zb hb0;have HR0:=Za (Zc w [.int .i64 0,.int .i64 0,.int .i64 0,.string ⟨#[]⟩,.slice none 0 0] 27);have HP0:=Za (h.old hb0);clear hb0;obtain⟨R,hR⟩:∃R,bH (f+1) (t::r)=R:=⟨_,rfl⟩;rw[hR];have HRR:=Za hR;clear hR;have HU:=Za hu;have HT:Hid (∀w1,Ps w1 p tb (t::r)→_):=fun w1 h1=>gg p tb t r hu w1 h1
 have HN1:=Za n1;have HN2:=Za n2;have HV:Hid (∀w1,Ps w1 p tb (t::r)→_):=fun w1 h1=>aO p tb t r [40] w1 h1 n1
 have HV2:Hid (∀w1,Ps w1 p tb (t::r)→_):=fun w1 h1=>aO p tb t r [114,101,97,100] w1 h1 n2
 have HNX:Hid (∀w1,Ps w1 p tb (t::r)→_):=fun w1 h1=>eI p tb t r w1 h1
 have HKD:Hid (∀w1,Ps w1 p tb (t::r)→_):=fun w1 h1=>ip p tb (t::r) 3 (by decide) w1 h1
 have HKP:Hid (gx 3 (t::r)= .ok (t,r)):=by show(if t.kind=3 then Except.ok (t,r)else Except.error t.line)=_;rw[if_pos hk]
 have HK:=Za hk;have hk2:(t.kind==3)=true:=by simp [hk]
 have HNUM:=Za (h.nums t List.mem_cons_self);clear hu n1 n2 hl hk;clear h;go_enter Tryz.func118,Zg
 go_wp2_with fail
 refine(HT.out _ HP0.out).mono ?_;rintro e w1 ⟨rfl,hf,hp⟩;have HF1:=Za (HF0.out.trans hf);have HP1:=Za hp;have HR1:=Za (HR0.out.sfr hf HNE.out);clear hf hp;go_wp2_with fail
 refine(HV.out _ HP1.out).mono ?_;rintro e w2 ⟨rfl,hb⟩;have HF2:=Za (HF1.out.trans (Zb hb));have HP2:=Za (HP1.out.old hb);have HR2:=Za (HR1.out.old hb);clear hb;go_wp2_with fail
 refine(HV2.out _ HP2.out).mono ?_;rintro e w3 ⟨rfl,hb⟩;have HF3:=Za (HF2.out.trans (Zb hb));have HP3:=Za (HP2.out.old hb);have HR3:=Za (HR2.out.old hb);clear hb;go_wp2_with fail
 refine(HNX.out _ HP3.out).mono ?_;rintro e w4 ⟨rfl,hb⟩;have HF4:=Za (HF3.out.trans (Zb hb));have HP4:=Za (HP3.out.old hb);have HR4:=Za (HR3.out.old hb);clear hb;unfold tkV;go_wp2_with fail
 have hq:=HKD.out _ HP4.out;rw[HKP.out]at hq;refine hq.mono ?_;clear hq;rintro e w5 ⟨hf,v,rfl,hp,rfl⟩;have HF5:=Za (HF4.out.trans hf);have HP5:=Za hp;have HR5:=Za (HR4.out.sfr hf HNE.out);clear hf hp;unfold tkV;obtain⟨⟨x0,x1,x2,x3,x4⟩,xf0,xf1,xf2,xf3,xf4⟩:=bL HR5.out;have xlt:=HR5.out.lt;go_wp2_with fail
 have e1:bH (f+1) (t::r)= .ok (.mk 1 0 t.num [] [],r):=by rw[bH,HU.out];dsimp only;rw[aH HN1.out];dsimp only;rw[aH HN2.out];dsimp only;rw[if_pos HK.out]
 have e2:=HRR.out.symm.trans e1;subst e2;obtain⟨⟨d0,d1,d2,d3,d4⟩,_⟩:=bL (i7 HR5.out (.int .i64 1) (.int .i64 0) (.int .i64 t.num) (.string ⟨#[]⟩) (.slice none 0 0));exact bodyPost_ret (v:= .agg #[.int .i64 1,.int .i64 0,.int .i64 t.num,.string ⟨#[]⟩,.slice none 0 0]) (by simp [results,Zh,go_sem,d0,d1,d2,d3,d4]) rfl (jQ (x:= .mk 1 0 t.num [] []) HPW.out HF5.out HP5.out aJ.zero HNUM.out _ _ _ _ _)
theorem p9(f:Nat)(ih:oG f)(t:Tk)(r:List Tk)(w:World)(p tb:Nat)(hl:4*(t::r).length+1≤f+1)(h:Ps w p tb (t::r))(hu:dR (t::r)=none)(n1:isP [40] t=false)(n2:isP [114,101,97,100] t=false)(hk:t.kind≠3):
  Calls Zd 118 #[.pointer (some ⟨p,0,none⟩)] w (eH (ExH w.heap.size) w p tb (bH (f+1) (t::r))):=by
 have HPW:=Za h.lt;have HNE:Hid (w.heap.size≠p):=by show _≠_;have:=h.lt;omega
 have hb0:Below w.heap.size w (w.alloc (.cells #[.int .i64 0,.int .i64 0,.int .i64 0,.string ⟨#[]⟩,.slice none 0 0] 27)):=bA;have HF0:Hid (SFr p w (w.alloc (.cells #[.int .i64 0,.int .i64 0,.int .i64 0,.string ⟨#[]⟩,.slice none 0 0] 27))):=Zb hb0;have HR0:=Za (Zc w [.int .i64 0,.int .i64 0,.int .i64 0,.string ⟨#[]⟩,.slice none 0 0] 27);have HP0:=Za (h.old hb0);clear hb0;obtain⟨R,hR⟩:∃R,bH (f+1) (t::r)=R:=⟨_,rfl⟩;rw[hR];have HRR:=Za hR;clear hR;have HU:=Za hu;have HT:Hid (∀w1,Ps w1 p tb (t::r)→_):=fun w1 h1=>gg p tb t r hu w1 h1
 have HN1:=Za n1;have HN2:=Za n2;have HV:Hid (∀w1,Ps w1 p tb (t::r)→_):=fun w1 h1=>aO p tb t r [40] w1 h1 n1
 have HV2:Hid (∀w1,Ps w1 p tb (t::r)→_):=fun w1 h1=>aO p tb t r [114,101,97,100] w1 h1 n2
 have HNX:Hid (∀w1,Ps w1 p tb (t::r)→_):=fun w1 h1=>eI p tb t r w1 h1
 have HNM:Hid (∀w1,Ps w1 p tb (t::r)→_):=fun w1 h1=>dl p tb (t::r) w1 h1
 rw[Ze]at hl;have HC:Hid (∀s w1,Ps w1 p tb r→_):=fun s w1 h1=>ih s r w1 p tb (by omega) h1
 have HK:=Za hk;have hk2:(t.kind==3)=false:=by simp [hk]
 have HNP:=Za (qo t r);clear hu n1 n2 hl hk ih;clear h;go_enter Tryz.func118,Zg
 go_wp2_with fail
 refine(HT.out _ HP0.out).mono ?_;rintro e w1 ⟨rfl,hf,hp⟩;have HF1:=Za (HF0.out.trans hf);have HP1:=Za hp;have HR1:=Za (HR0.out.sfr hf HNE.out);clear hf hp;go_wp2_with fail
 refine(HV.out _ HP1.out).mono ?_;rintro e w2 ⟨rfl,hb⟩;have HF2:=Za (HF1.out.trans (Zb hb));have HP2:=Za (HP1.out.old hb);have HR2:=Za (HR1.out.old hb);clear hb;go_wp2_with fail
 refine(HV2.out _ HP2.out).mono ?_;rintro e w3 ⟨rfl,hb⟩;have HF3:=Za (HF2.out.trans (Zb hb));have HP3:=Za (HP2.out.old hb);have HR3:=Za (HR2.out.old hb);clear hb;go_wp2_with fail
 refine(HNX.out _ HP3.out).mono ?_;rintro e w4 ⟨rfl,hb⟩;have HF4:=Za (HF3.out.trans (Zb hb));have HP4:=Za (HP3.out.old hb);have HR4:=Za (HR3.out.old hb);clear hb;unfold tkV;go_wp2_with fail
 refine(HNM.out _ HP4.out).mono ?_;intro e w5 he
 cases hA:dK (t::r)with
 |error n=>
  rw[hA]at he;obtain⟨hf,rfl⟩:=he;have HF:=Za (HF4.out.trans hf);have e1:bH (f+1) (t::r)= .error n:=by
    have hB:=HNP.out;rw[hA]at hB
    by_cases h1:t.kind=1
    ·rw[if_pos h1]at hB;cases hB
    ·rw[if_neg h1]at hB;injection hB with hB;subst hB
     rw[bH,HU.out];dsimp only;rw[aH HN1.out];dsimp only;rw[aH HN2.out];dsimp only;rw[if_neg HK.out,if_neg h1]
  have e2:=HRR.out.symm.trans e1;subst e2;clear e1 hf;unfold az;go_wp2_with fail
  exact⟨rfl,HF.out,rfl⟩
 |ok q=>
  obtain⟨s,r2⟩:=q;rw[hA]at he;obtain⟨hf,v,rfl,hp,hv⟩:=he;have hv:v= .string (aB s):=hv;subst hv;obtain⟨h1,rfl,rfl⟩:t.kind=1∧s=t.text∧r=r2:=by
   have hB:=HNP.out;rw[hA]at hB
   by_cases h1:t.kind=1
   ·rw[if_pos h1]at hB;injection hB with hB;injection hB with hB1 hB2;exact⟨h1,hB1,hB2.symm⟩
   ·rw[if_neg h1]at hB;cases hB
  have HK1:=Za h1;clear h1;have HF5:=Za (HF4.out.trans hf);have HP5:=Za hp;have HR5:=Za (HR4.out.sfr hf HNE.out);clear hf hp;have HA5:=Za hA;clear hA;go_wp2_with fail
  refine(HC.out t.text _ HP5.out).mono ?_;intro e w6 he
  cases hA:cQ f t.text r with
  |error n=>
   rw[hA]at he;obtain⟨hf,rfl⟩:=he;have HF:=Za (HF5.out.trans hf);have e1:bH (f+1) (t::r)= .error n:=by rw[bH,HU.out];dsimp only;rw[aH HN1.out];dsimp only;rw[aH HN2.out];dsimp only;rw[if_neg HK.out,if_pos HK1.out,hA]
   have e2:=HRR.out.symm.trans e1;subst e2;clear e1 hf;unfold az;go_wp2_with fail
   exact⟨rfl,HF.out,rfl⟩
  |ok q=>
   obtain⟨x,r3⟩:=q;rw[hA]at he;obtain⟨hf,v,rfl,hp,hv⟩:=he;obtain⟨s3,rfl,hx,hn⟩:=hv;obtain⟨a1,a2,rfl⟩:=hx.shape;have HX6:=Za (hx.up (show w.heap.size+1≤w5.heap.size from HR5.out.lt));have HN:=Za hn;clear hx hn;have HF6:=Za (HF5.out.trans hf);have HP6:=Za hp;have HR6:=Za (HR5.out.sfr hf HNE.out);clear hf hp;have HA6:=Za hA;clear hA;obtain⟨⟨x0,x1,x2,x3,x4⟩,xf0,xf1,xf2,xf3,xf4⟩:=bL HR6.out;have xlt:=HR6.out.lt;go_wp2_with fail
   have e1:bH (f+1) (t::r)= .ok (x,r3):=by rw[bH,HU.out];dsimp only;rw[aH HN1.out];dsimp only;rw[aH HN2.out];dsimp only;rw[if_neg HK.out,if_pos HK1.out,HA6.out]
   have e2:=HRR.out.symm.trans e1;subst e2;obtain⟨⟨d0,d1,d2,d3,d4⟩,_⟩:=bL (i7 HR6.out (.int .i64 x.kind) (.int .i64 x.op) (.int .i64 x.n) (.string (aB x.name)) (.slice a1 x.args.length a2));exact bodyPost_ret (v:= .agg #[.int .i64 x.kind,.int .i64 x.op,.int .i64 x.n,.string (aB x.name),.slice a1 x.args.length a2]) (by simp [results,Zh,go_sem,d0,d1,d2,d3,d4]) rfl (jQ (x:=x) HPW.out HF6.out HP6.out HX6.out HN.out _ _ _ _ _)
theorem uM(f:Nat)(hT:mG f)(hE:ji f)(hN:oG f):mG (f+1):=by
 intro l w p tb hl h;obtain⟨t,r,rfl⟩:=h.ends.ne
 cases hu:dR (t::r)with
 |some q=>
  obtain⟨op,q⟩:=q;obtain⟨rfl,_⟩:=lO hu;exact rC f hT t _ w p tb hl h op hu
 |none=>
  cases h1:isP [40] t with
  |true=>exact oZ f hE t r w p tb hl h hu h1
  |false=>
   cases h2:isP [114,101,97,100] t with
   |true=>exact py f t r w p tb hl h hu h1 h2
   |false=>
    by_cases hk:t.kind=3
    ·exact sN f t r w p tb hl h hu h1 h2 hk
    ·exact p9 f hN t r w p tb hl h hu h1 h2 hk
theorem sx(f:Nat)(hA:sC f)(hE:ji f):oG (f+1):=by
 intro s l w p tb hl h;obtain⟨t,r,rfl⟩:=h.ends.ne
 cases h1:isP [40] t with
 |true=>exact qJ f hA s t r w p tb hl h h1
 |false=>
  cases h2:isP [91] t with
  |true=>exact qp f hE s t r w p tb hl h h1 h2
  |false=>exact rA f s t r w p tb h h1 h2
theorem expr_of(f:Nat)(hC:ns f):ji f:=by
 intro l w p tb hl h;have HPW:=Za h.lt;have HNE:Hid (w.heap.size≠p):=by show _≠_;have:=h.lt;omega
 have hb0:Below w.heap.size w (w.alloc (.cells #[.int .i64 0,.int .i64 0,.int .i64 0,.string ⟨#[]⟩,.slice none 0 0] 27)):=bA;have HF0:Hid (SFr p w (w.alloc (.cells #[.int .i64 0,.int .i64 0,.int .i64 0,.string ⟨#[]⟩,.slice none 0 0] 27))):=Zb hb0;have HR0:=Za (Zc w [.int .i64 0,.int .i64 0,.int .i64 0,.string ⟨#[]⟩,.slice none 0 0] 27);have HP0:=Za (h.old hb0);clear hb0;obtain⟨R,hR⟩:∃R,ar f 1 l=R:=⟨_,rfl⟩;rw[hR];have HRR:=Za hR;clear hR;have HC:Hid (∀w1,Ps w1 p tb l→_):=fun w1 h1=>hC 1 l w1 p tb hl h1
 clear hl hC;clear h;go_enter Tryz.func27,Tryz.ntmps27
 go_wp2_with fail
 refine(HC.out _ HP0.out).mono ?_;intro e w1 he
 cases hA:ar f 1 l with
 |error n=>
  rw[hA]at he;obtain⟨hf,rfl⟩:=he;have HF:=Za (HF0.out.trans hf);have e1:ar f 1 l= .error n:=hA;have e2:=HRR.out.symm.trans e1;subst e2;clear e1 hf;unfold az;go_wp2_with fail
  exact⟨rfl,HF.out,rfl⟩
 |ok q=>
  obtain⟨x,r2⟩:=q;rw[hA]at he;obtain⟨hf,v,rfl,hp,hv⟩:=he;obtain⟨s3,rfl,hx,hn⟩:=hv;obtain⟨a1,a2,rfl⟩:=hx.shape;have HX1:=Za (hx.up (show w.heap.size+1≤_ from HR0.out.lt));have HN:=Za hn;clear hx hn;have HF1:=Za (HF0.out.trans hf);have HP1:=Za hp;have HR1:=Za (HR0.out.sfr hf HNE.out);clear hf hp;have HA1:=Za hA;clear hA;obtain⟨⟨x0,x1,x2,x3,x4⟩,xf0,xf1,xf2,xf3,xf4⟩:=bL HR1.out;have xlt:=HR1.out.lt;go_wp2_with fail
  have e1:ar f 1 l= .ok (x,r2):=HA1.out;have e2:=HRR.out.symm.trans e1;subst e2;obtain⟨⟨d0,d1,d2,d3,d4⟩,_⟩:=bL (i7 HR1.out (.int .i64 x.kind) (.int .i64 x.op) (.int .i64 x.n) (.string (aB x.name)) (.slice a1 x.args.length a2));exact bodyPost_ret (v:= .agg #[.int .i64 x.kind,.int .i64 x.op,.int .i64 x.n,.string (aB x.name),.slice a1 x.args.length a2]) (by simp [results,Tryz.results27,go_sem,d0,d1,d2,d3,d4]) rfl (jQ (x:=x) HPW.out HF1.out HP1.out HX1.out HN.out _ _ _ _ _)
def cm(p:Nat)(w:World):Nat:=match w.cell? ⟨p,0,none⟩with
 |some (.slice _ n _)=>n
 |_=>0
theorem Ps.len {w:World}{p tb:Nat}{l:List Tk}(h:Ps w p tb l):cm p w=l.length:=by
 obtain⟨o,cap,h⟩:=h;have:=h.own.at 0 _ rfl;unfold cm;rw[this]
theorem xk {lv:Int}{t:Tk}{r:List Tk}(h:cJ lv (t::r)≠0):t.kind≠5:=by
 intro h5;apply h
 rw[sM];refine nT _ (fun j hj=> ?_);have:isP (aU ((j:Int)+1)) t=false:=by unfold isP;rw[h5];rfl
 show(isP (aU ((j:Int)+1)) t && _)=false
 rw[this];rfl
theorem qV(op:Int):0≤aP op∧aP op≤8:=by
 unfold aP
 repeat' split
 all_goals omega
structure mJ (w:World)(p tb be:Nat)(lv:Int)(f:Nat)(R:PR Ex)(g:Nat)(x:Ex)(s:Value)(l:List Tk)(wr:World):Prop where
 sfr:SFr p w wr
 ps:Ps wr p tb l
 own:aG wr w.heap.size [.int .i64 0,.int .i64 0,.int .i64 0,.string ⟨#[]⟩,.slice none 0 0] 27
 e:aG wr be [.int .i64 x.kind,.int .i64 x.op,.int .i64 x.n,.string (aB x.name),s] 27
 tree:aJ (fun b=>w.heap.size+1≤b∧b≠be) wr x.args s
 n:I64 x.n
 fuel:4*l.length+5≤g
 le:g≤f
 res:fs g lv x l=R
theorem mJ.old {w:World}{p tb be:Nat}{lv:Int}{f:Nat}{R:PR Ex}{g:Nat}{x:Ex}{s:Value}{l:List Tk}{wr w':World}(h:mJ w p tb be lv f R g x s l wr)(hb:Below wr.heap.size wr w'):mJ w p tb be lv f R g x s l w':=
 ⟨h.sfr.trans (Zb hb),h.ps.old hb,h.own.old hb,h.e.old hb,h.tree.old hb,h.n,h.fuel,h.le,h.res⟩
theorem set5_ne(w:World)(b:Nat)(c0 c1 c2 c3 c4:Value){k:Nat}(h:k≠b):(((((w.setCell ⟨b,0,none⟩ c0).setCell ⟨b,1,none⟩ c1).setCell ⟨b,2,none⟩ c2).setCell ⟨b,3,none⟩ c3).setCell ⟨b,4,none⟩ c4).heap[k]? =w.heap[k]? :=by
 rw[Zf _ _ _ _ (show k≠b from h),Zf _ _ _ _ (show k≠b from h),Zf _ _ _ _ (show k≠b from h),Zf _ _ _ _ (show k≠b from h),Zf _ _ _ _ (show k≠b from h)]
theorem tj {w:World}{p tb be:Nat}{lv:Int}{f:Nat}{R:PR Ex}{g:Nat}{x y:Ex}{s u:Value}{op:Int}{l:List Tk}{W:World}(hpw:p<w.heap.size)(hbe:w.heap.size<be)(hF:SFr p w W)(hP:Ps W p tb l)
  (hO:aG W w.heap.size [.int .i64 0,.int .i64 0,.int .i64 0,.string ⟨#[]⟩,.slice none 0 0] 27) (hE:aG W be [.int .i64 x.kind,.int .i64 x.op,.int .i64 x.n,.string (aB x.name),s] 27)
  (hX:aJ (fun b=>w.heap.size+1≤b∧b≠be) W x.args s) (hn:I64 x.n) (hY:aJ (fun b=>w.heap.size+1≤b∧b≠be) W y.args u) (hm:I64 y.n) (hfu:4*l.length+5≤g) (hle:g≤f) (hres:fs g lv (.mk 4 op 0 [] [x,y]) l=R):
  mJ w p tb be lv f R g (.mk 4 op 0 [] [x,y]) (.slice (some ⟨W.heap.size,0,none⟩) 2 2) l ((((((W.setCell ⟨be,0,none⟩ (.int .i64 4)).setCell ⟨be,1,none⟩ (.int .i64 op)).setCell ⟨be,2,none⟩ (.int .i64 0)).setCell ⟨be,3,none⟩ (.string ⟨#[]⟩)).setCell ⟨be,4,none⟩ (.slice (some ⟨W.heap.size,0,none⟩) 2 2)).alloc
   (.cells #[.int .i64 x.kind,.int .i64 x.op,.int .i64 x.n,.string (aB x.name),s,.int .i64 y.kind,.int .i64 y.op,.int .i64 y.n,.string (aB y.name),u] 27)):=by
 have hbw:=hE.lt;have k1:=hX.keep (gW W (show ¬(w.heap.size+1≤be∧be≠be)from fun h=>h.2 rfl) (.int .i64 4) (.int .i64 op) (.int .i64 0) (.string ⟨#[]⟩) (.slice (some ⟨W.heap.size,0,none⟩) 2 2));have k2:=hY.keep (gW W (show ¬(w.heap.size+1≤be∧be≠be)from fun h=>h.2 rfl) (.int .i64 4) (.int .i64 op) (.int .i64 0) (.string ⟨#[]⟩) (.slice (some ⟨W.heap.size,0,none⟩) 2 2));have hs:=iQ W be (.int .i64 4) (.int .i64 op) (.int .i64 0) (.string ⟨#[]⟩) (.slice (some ⟨W.heap.size,0,none⟩) 2 2);refine⟨(yN hF (by omega) _ _ _ _ _).trans (Zb (bA)),(ps5 hP (by omega) _ _ _ _ _).alloc _,?_,(i7 hE _ _ _ _ _).alloc _,?_,dz,hfu,hle,hres⟩
 ·refine aG.alloc ?_ _
  exact(set5_ne W be _ _ _ _ _ (by omega)).trans hO
 ·have:=aJ.two (D:=fun b=>w.heap.size+1≤b∧b≠be) x y s u (b:=W.heap.size) ⟨by omega,by omega⟩ (by
   have:=cN.new (((((W.setCell ⟨be,0,none⟩ (.int .i64 4)).setCell ⟨be,1,none⟩ (.int .i64 op)).setCell ⟨be,2,none⟩ (.int .i64 0)).setCell ⟨be,3,none⟩ (.string ⟨#[]⟩)).setCell ⟨be,4,none⟩ (.slice (some ⟨W.heap.size,0,none⟩) 2 2)) (aj x s++aj y u) 27;rw[hs]at this;exact this) (k1.old (bA)) hn (k2.old (bA)) hm
  exact this
theorem tP(f:Nat)(hT:mG f)(ih:∀g,g≤f→ns g):ns (f+1):=by
 intro lv l w p tb hl h;have HPW:=Za h.lt;have HNE:Hid (w.heap.size≠p):=by show _≠_;have:=h.lt;omega
 have hb0:Below w.heap.size w (w.alloc (.cells #[.int .i64 0,.int .i64 0,.int .i64 0,.string ⟨#[]⟩,.slice none 0 0] 27)):=bA;have HF0:Hid (SFr p w (w.alloc (.cells #[.int .i64 0,.int .i64 0,.int .i64 0,.string ⟨#[]⟩,.slice none 0 0] 27))):=Zb hb0;have HR0:=Za (Zc w [.int .i64 0,.int .i64 0,.int .i64 0,.string ⟨#[]⟩,.slice none 0 0] 27);have HP0:=Za (h.old hb0);clear hb0;obtain⟨R,hR⟩:∃R,ar (f+1) lv l=R:=⟨_,rfl⟩;rw[hR];have HRR:=Za hR;clear hR;have HC:Hid (∀w1,Ps w1 p tb l→_):=fun w1 h1=>hT l w1 p tb (by omega) h1
 have IH:=Za ih;have HL:=Za hl;clear hl hT ih;clear h;go_enter Tryz.func60,Tryz.ntmps60
 go_wp2_with fail
 refine(HC.out _ HP0.out).mono ?_;intro e w1 he
 cases hA:bH f l with
 |error n=>
  rw[hA]at he;obtain⟨hf,rfl⟩:=he;have HF:=Za (HF0.out.trans hf);have e1:ar (f+1) lv l= .error n:=by rw[ar,hA]
  have e2:=HRR.out.symm.trans e1;subst e2;clear e1 hf;unfold az;go_wp2_with fail
  exact⟨rfl,HF.out,rfl⟩
 |ok q=>
  obtain⟨x,r2⟩:=q;rw[hA]at he;obtain⟨hf,v,rfl,hp,hv⟩:=he;obtain⟨s3,rfl,hx,hn⟩:=hv;obtain⟨a1,a2,rfl⟩:=hx.shape;have HX1:=Za (hx.up (show w.heap.size+1≤_ from HR0.out.lt));have HN:=Za hn;clear hx hn;have HF1:=Za (HF0.out.trans hf);have HP1:=Za hp;have HR1:=Za (HR0.out.sfr hf HNE.out);clear hf hp;have HA1:=Za hA;clear hA;have HXS1:=Za HX1.out.strong;go_upto_region 2 with(fail)
  obtain⟨W,hW⟩:∃W,w1.alloc (.cells #[.int .i64 x.kind,.int .i64 x.op,.int .i64 x.n,.string (aB x.name),.slice a1 x.args.length a2] 27)=W:=⟨_,rfl⟩;rw[hW];have hba:Below w1.heap.size w1 W:=hW ▸ bA;have HF2:=Za (HF1.out.trans (Zb hba));have HP2:=Za (HP1.out.old hba);have HR2:=Za (HR1.out.old hba);have HX2:=Za (HX1.out.old hba);have HXS2:=Za (HXS1.out.old hba);have HE2:=Za (hW ▸ Zc w1 [.int .i64 x.kind,.int .i64 x.op,.int .i64 x.n,.string (aB x.name),.slice a1 x.args.length a2] 27);have HEP:Hid (w1.heap.size≠p):=by show _≠_;have:=HP1.out.lt;omega
  clear hba hW;obtain⟨w2,hWW⟩:∃w2,w2=W:=⟨_,rfl⟩;subst hWW;have HB:Hid (∀l1 w1,Ps w1 p tb l1→_):=fun l1 w1 h1=>qC p tb l1 lv w1 h1
  go_wp2_with fail
  refine(HB.out _ _ HP2.out).mono ?_;rintro e w3 ⟨rfl,hb⟩;have HF3:=Za (HF2.out.trans (Zb hb));have HP3:=Za (HP2.out.old hb);have HR3:=Za (HR2.out.old hb);have HE3:=Za (HE2.out.old hb);have HX3:=Za (HX2.out.old hb);have HXS3:=Za (HXS2.out.old hb);clear hb;have hfu:4*r2.length+5≤f:=by
   have h1:=(dM f).2.2.1 _ _ _ HA1.out;have h2:=HL.out;omega
  have hres:fs f lv x r2=R:=by
   have:=HRR.out;rw[ar,HA1.out]at this;exact this
  have hbe:w.heap.size<w1.heap.size:=HR1.out.lt;have hx0:aJ (fun b=>w.heap.size+1≤b∧b≠w1.heap.size) w3 x.args (.slice a1 x.args.length a2):=HXS3.out.mono (fun b hb=>⟨hb.1,by have:=hb.2;omega⟩);have HI0:Hid (mJ w p tb w1.heap.size lv f R f x (.slice a1 x.args.length a2) r2 w3):=⟨HF3.out,HP3.out,HR3.out,HE3.out,hx0,HN.out,hfu,Nat.le_refl _,hres⟩;have HBE:=Za hbe;have hp3:=HP3.out;clear hfu hres hx0 hbe HX1 HX2 HX3 HXS1 HXS2 HXS3 HF1 HF2 HF3 HF0 HP0 HP1 HP2 HP3 HR0 HR1 HR2 HR3 HE2 HE3 HA1 HL HRR HC HN;obtain⟨be,hbe⟩:∃be,w1.heap.size=be:=⟨_,rfl⟩;rw[hbe]at HI0 HBE HEP ⊢;clear hbe;go_wp2_with fail
  go_loopw [6] (fun s6 wr=> ∃(g:Nat) (x:Ex) (s:Value) (l:List Tk),s6= .int .i64 (cJ lv l)∧Hid (mJ w p tb be lv f R g x s l wr)) (fun _ wr=>cm p wr)
  case atStart=>exact⟨f,x,_,r2,rfl,HI0⟩
  case round=>
   obtain⟨g,y,s,l2,rfl,HI⟩:=hrel;clear HI0 hp3;obtain⟨op,hop⟩:∃op,cJ lv l2=op:=⟨_,rfl⟩;rw[hop];obtain⟨sa,sc,rfl⟩:=HI.out.tree.shape;obtain⟨⟨e0,e1,e2,e3,e4⟩,ef0,ef1,ef2,ef3,ef4⟩:=bL HI.out.e;have elt:=HI.out.e.lt
   by_cases h0:op=0
   ·subst h0
    have hR:Except.ok (y,l2)=R:=by
     have h1:=HI.out.res;have hg:=HI.out.fuel;obtain⟨g',rfl⟩:∃g',g=g'+1:=⟨g - 1,by omega⟩;rw[fs,if_pos hop]at h1;exact h1
    subst hR;obtain⟨⟨x0,x1,x2,x3,x4⟩,xf0,xf1,xf2,xf3,xf4⟩:=bL HI.out.own;have xlt:=HI.out.own.lt;clear hop;go_wp2_with fail
    obtain⟨⟨d0,d1,d2,d3,d4⟩,_⟩:=bL (i7 HI.out.own (.int .i64 y.kind) (.int .i64 y.op) (.int .i64 y.n) (.string (aB y.name)) (.slice sa y.args.length sc));exact bodyPost_ret (v:= .agg #[.int .i64 y.kind,.int .i64 y.op,.int .i64 y.n,.string (aB y.name),.slice sa y.args.length sc]) (by simp [results,Tryz.results60,go_sem,d0,d1,d2,d3,d4]) rfl (jQ (x:=y) HPW.out HI.out.sfr HI.out.ps (HI.out.tree.mono (fun b hb=>hb.1)) HI.out.n _ _ _ _ _)
   ·obtain⟨t,r,rfl⟩:=HI.out.ps.ends.ne
    have hk5:t.kind≠5:=xk (by rw[hop];exact h0);have n0:(op !=0)=true:=by simp [h0]
    have n1:(op==0)=false:=by simp [h0]
    have hlr:=qV op;have hw1:IntKind.i64.wrap (aP op+1)=aP op+1:=IntWalk.i64_in _ (by omega);obtain⟨g',hg'⟩:∃g',g=g'+1:=⟨g - 1,by have:=HI.out.fuel;omega⟩;subst hg';have HRES:Hid ((match ar g' (aP op+1) r with| .error e=> .error e| .ok (z,q)=>fs g' lv (.mk 4 op 0 [] [y,z]) q)=R):=by
     have h1:=HI.out.res;rw[fs,if_neg (by rw[hop];exact h0),hop,List.drop_one,List.tail_cons]at h1;exact h1
    have HCL:Hid (∀w1,Ps w1 p tb r→_):=fun w1 h1=>IH.out g' (by have:=HI.out.le;omega) (aP op+1) r w1 p tb (by have:=HI.out.fuel;rw[Ze]at this;omega) h1
    have HLV:Hid (∀w1,_):=fun w1=>gD op w1
    obtain⟨o,cap,h1⟩:=HI.out.ps;have HT:=Za (h1.take hk5);have c0:=h1.own.at 0 _ rfl;have z0:=h1.own.fz 0;have hpl:=h1.own.lt;have hcap:=h1.hcap;have hfit:=h1.fit;obtain⟨n,hn⟩:∃n,r.length=n:=⟨_,rfl⟩;rw[Ze,hn]at c0 hcap;rw[hn]at HT;have hr0:0<n:=by
     obtain⟨u,q,rfl⟩:=(h1.ends.tail hk5).ne;rw[←hn];simp
    have i1:(1:Int)≤(n:Int)+1:=by omega
    have i2:((n:Int)+1)≤(cap:Int):=by omega
    have i3:¬(cap:Int) - 1=0:=by omega
    have i4:¬cap - 1=0:=by omega
    have HOP:=Za hop;clear h1 hop hk5;clear e0 e1 e2 e3 e4 ef0 ef1 ef2 ef3 ef4;go_upto_region 6 with(fail)
    obtain⟨V,hV⟩:∃V,wr.setCell ⟨p,0,none⟩ (.slice (some ⟨tb,o+4,none⟩) n (cap - 1))=V:=⟨_,rfl⟩;rw[hV]at HT ⊢;have HEV:=Za (HI.out.e.sfr HT.out.2 HEP.out);have HOV:=Za (HI.out.own.sfr HT.out.2 HNE.out);have HXV:=Za (HI.out.tree.keep (HT.out.2.keepsD (fun b hb=>by have:=HPW.out;have:=hb.1;omega)));have HFV:=Za (HI.out.sfr.trans HT.out.2);have HPV:=Za HT.out.1;clear c0 z0 hpl hcap hfit hr0 i1 i2 i3 i4 hV HT;go_wp2_with fail
    refine(HLV.out _).mono ?_;rintro e w4 ⟨rfl,hb⟩;have HE4:=Za (HEV.out.old hb);have HO4:=Za (HOV.out.old hb);have HX4:=Za (HXV.out.old hb);have HF4:=Za (HFV.out.trans (Zb hb));have HP4:=Za (HPV.out.old hb);clear hb HEV HOV HXV HFV HPV;go_wp2_with fail
    refine(HCL.out _ HP4.out).mono ?_;intro e w5 he
    cases hA:ar g' (aP op+1) r with
    |error n=>
     rw[hA]at he;obtain⟨hf,rfl⟩:=he;have HF:=Za (HF4.out.trans hf);have e2:=HRES.out;rw[hA]at e2;dsimp only at e2;subst e2;clear hf;unfold az;go_wp2_with fail
     exact⟨rfl,HF.out,rfl⟩
    |ok q=>
     obtain⟨z,r3⟩:=q;rw[hA]at he;obtain⟨hf,v,rfl,hp,hv⟩:=he;obtain⟨s5,rfl,hx,hn5⟩:=hv;obtain⟨b1,b2,rfl⟩:=hx.shape;have HF5:=Za (HF4.out.trans hf);have HP5:=Za hp;have HE5:=Za (HE4.out.sfr hf HEP.out);have HO5:=Za (HO4.out.sfr hf HNE.out);have HX5:=Za (HX4.out.keep (hf.keepsD (fun b hb=>by have:=HPW.out;have:=hb.1;omega)));have HY5:=Za (hx.mono (D':=fun b=>w.heap.size+1≤b∧b≠be) (fun b hb=>by have h1:w4.heap.size≤b:=hb;have h2:=HE4.out.lt;have h3:=HBE.out;exact⟨by omega,by omega⟩));have HN5:=Za hn5;have e2:=HRES.out;rw[hA]at e2;dsimp only at e2;have HR5:=Za e2;have hfu:4*r3.length+5≤g':=by
      have h1:=(dM g').1 _ _ _ _ hA;have h2:=HI.out.fuel;rw[Ze]at h2;omega
     have hle:g'≤f:=by have:=HI.out.le;omega
     have HFU:=Za hfu;have HLE:=Za hle;have hlen:r3.length<r.length:=(dM g').1 _ _ _ _ hA;have HLEN:=Za hlen;clear hf hp hx hn5 e2 hfu hle hlen;go_upto_region 7 with(fail)
     have hba:Below w5.heap.size w5 (w5.alloc (.cells #[.int .i64 z.kind,.int .i64 z.op,.int .i64 z.n,.string (aB z.name),.slice b1 z.args.length b2] 27)):=bA;have HE6:=Za (HE5.out.old hba);have HO6:=Za (HO5.out.old hba);have HX6:=Za (HX5.out.old hba);have HY6:=Za (HY5.out.old hba);have HF6:=Za (HF5.out.trans (Zb hba));have HP6:=Za (HP5.out.old hba);have HG6:=Za (Zc w5 [.int .i64 z.kind,.int .i64 z.op,.int .i64 z.n,.string (aB z.name),.slice b1 z.args.length b2] 27);clear hba;generalize w5.alloc (.cells #[.int .i64 z.kind,.int .i64 z.op,.int .i64 z.n,.string (aB z.name),.slice b1 z.args.length b2] 27)=W at*;obtain⟨⟨e0,e1,e2,e3,e4⟩,ef0,ef1,ef2,ef3,ef4⟩:=bL HE6.out;obtain⟨⟨g0,g1,g2,g3,g4⟩,_⟩:=bL HG6.out;have elt:=HE6.out.lt;have HI7:=Za (tj (u:= .slice b1 z.args.length b2) HPW.out HBE.out HF6.out HP6.out HO6.out HE6.out HX6.out HI.out.n HY6.out HN5.out HFU.out HLE.out HR5.out);go_upto_region 4 with(fail)
     generalize (((((W.setCell ⟨be,0,none⟩ (.int .i64 4)).setCell ⟨be,1,none⟩ (.int .i64 op)).setCell ⟨be,2,none⟩ (.int .i64 0)).setCell ⟨be,3,none⟩ (.string ⟨#[]⟩)).setCell ⟨be,4,none⟩ (.slice (some ⟨W.heap.size,0,none⟩) 2 2)).alloc (.cells #[.int .i64 y.kind,.int .i64 y.op,.int .i64 y.n,.string (aB y.name),.slice sa y.args.length sc,.int .i64 z.kind,.int .i64 z.op,.int .i64 z.n,.string (aB z.name),.slice b1 z.args.length b2] 27)=W7 at*;go_wp2_with fail
     refine(HB.out _ _ HI7.out.ps).mono ?_;rintro e w8 ⟨rfl,hb⟩;have HI8:=Za (HI7.out.old hb);clear hb;go_wp2_with fail
     go_roundw
     case rel=>exact⟨g',.mk 4 op 0 [] [y,z],_,r3,rfl,HI8⟩
     case measure=>
      rw[HI8.out.ps.len,HI.out.ps.len,Ze];have:=HLEN.out;omega
def gy:List Bool→Nat
 |[]=>0
 |b::l=>(if b then 0 else 1)+gy l
theorem nv:∀(l:List Bool) (i:Nat),l[i]? =some false→gy (l.set i true)+1=gy l
 |[],i,h=>by simp at h
 |b::l,0,h=>by simp at h;subst h;simp [gy];omega
 |b::l,i+1,h=>by
  simp at h;have:=nv l i h;simp only[List.set_cons_succ,gy];omega
theorem nH:∀(l:List Bool) (i:Nat),l[i]? =some false→0<gy l
 |[],i,h=>by simp at h
 |b::l,0,h=>by simp at h;subst h;simp [gy];omega
 |b::l,i+1,h=>by
  simp at h;have:=nH l i h;simp only[gy];omega
theorem ow {md:Region.Mode}{ops:Array Oper}{listed:Array Bool}{i:Nat}(h:i∈Region.ready md ops listed):i<ops.size∧listed.toList[i]? =some false∧∀o,ops[i]? =some o→∀e,e∈o.after→Region.binds md e=true→listed.getD e.on false=true:=by
 unfold Region.ready at h;rw[List.mem_filter]at h;obtain⟨h1,h2⟩:=h;simp only[Bool.and_eq_true,Bool.not_eq_true']at h2;refine⟨List.mem_range.1 h1,?_,fun o ho e he hb=> ?_⟩
 ·have h3:=h2.1
  rw[Array.getD_eq_getD_getElem?]at h3;rw[Array.getElem?_toList]
  cases hl:listed[i]? with
  |none=>rw[hl]at h3;simp at h3
  |some b=>rw[hl]at h3;simp at h3;rw[h3]
 ·have h3:=h2.2
  rw[ho]at h3;simp only[Option.map_some,Option.getD_some]at h3;have h4:=Array.all_eq_true_iff_forall_mem.1 h3 e he;simpa [hb]using h4
theorem ux {P:Program}{ops:Array Oper}{Q:Exit→Act→World→Prop}(I:Array Bool→Act→World→Prop)
  (step:∀listed a w i,I listed a w→i<ops.size→listed.toList[i]? =some false→(∀o,ops[i]? =some o→∀e,e∈o.after→Region.binds .any e=true→listed.getD e.on false=true)→wpOp P ops Q i (I (listed.setIfInBounds i true)) a w)
  (fin:∀listed a w,I listed a w→Region.ready .any ops listed=[]→Q .normal a w):∀(fuel:Nat) (listed:Array Bool) (a:Act) (w:World),gy listed.toList≤fuel→I listed a w→wpAny P .any ops Q fuel listed a w
 |0,listed,a,w,hu,hI=>by
  have hr:Region.ready .any ops listed=[]:=by
   cases hl:Region.ready .any ops listed with
   |nil=>rfl
   |cons i l=>
    have:=nH _ _ (ow (show i∈Region.ready .any ops listed by rw[hl];exact List.mem_cons_self)).2.1;omega
  exact⟨hr,fin _ _ _ hI hr⟩
 |fuel+1,listed,a,w,hu,hI=>by
  refine⟨fin _ _ _ hI,fun i hi=> ?_⟩;obtain⟨h1,h2,h3⟩:=ow hi;refine wpOp_mono (fun a' w' hI'=>ux I step fin fuel _ a' w' ?_ hI') (step listed a w i hI h1 h2 h3);have:=nv _ _ h2;rw[Array.toList_setIfInBounds];omega
theorem oE:∀n,gy (List.replicate n false)=n
 |0=>rfl
 |n+1=>by rw[List.replicate_succ,gy,oE n];simp;omega
theorem tC {P:Program}{id:Nat}{ops:Array Oper}{Q:Exit→Act→World→Prop}{a:Act}{w:World}(hm:P.follows .mixedOrders=true)(I:Array Bool→Act→World→Prop)(h0:I (Array.replicate ops.size false) a w.drew)
  (step:∀listed a w i,I listed a w→i<ops.size→listed.toList[i]? =some false→(∀o,ops[i]? =some o→∀e,e∈o.after→Region.binds .any e=true→listed.getD e.on false=true)→wpOp P ops Q i (I (listed.setIfInBounds i true)) a w)
  (fin:∀listed a w,I listed a w→Region.ready .any ops listed=[]→Q .normal a w):(Code.region id ops true).wp P Q a w:=
 wp_region_any hm (ux I step fin _ _ _ _ (by rw[Array.toList_replicate,oE];exact Nat.le_refl _) h0)
def upd(L:Nat→Bool)(i:Nat):Nat→Bool:=fun j=>if j=i then true else L j
theorem ak(L:Nat→Bool)(i:Nat):upd L i i=true:=if_pos rfl
theorem aI(L:Nat→Bool){i j:Nat}(h:j≠i):upd L i j=L j:=if_neg h
def gB(listed:Array Bool):Nat→Bool:=fun j=>listed.getD j false
theorem tU(listed:Array Bool)(i:Nat)(h:i<listed.size):gB (listed.setIfInBounds i true)=upd (gB listed) i:=by
 funext j
 unfold gB upd
 by_cases hj:j=i
 ·subst hj;simp [Array.getD_eq_getD_getElem?,h]
 ·have:¬i=j:=fun e=>hj e.symm
  simp [Array.getD_eq_getD_getElem?,Array.getElem?_setIfInBounds,hj,this]
def lowOk(ops:Array Oper):Bool:=(List.range ops.size).all fun i=>((ops[i]?).map (fun o=>o.after.all fun e=> !(Region.binds .any e)||decide (e.on<i))).getD true
theorem zR {ops:Array Oper}{listed:Array Bool}(hlow:lowOk ops=true)(hs:listed.size=ops.size)(h:Region.ready .any ops listed=[]):∀i,i<ops.size→gB listed i=true:=by
 intro i
 induction i using Nat.strongRecOn with
 |_ i ih=>
  intro hi
  cases hd:gB listed i with
  |true=>rfl
  |false=>
   exfalso
   have hm:i∈Region.ready .any ops listed:=by
    unfold Region.ready;rw[List.mem_filter];refine⟨List.mem_range.2 hi,?_⟩;rw[Bool.and_eq_true];constructor
    ·have hli:i<listed.size:=by omega
     unfold gB at hd;simp only[Array.getD_eq_getD_getElem?,Array.getElem?_eq_getElem hli,Option.getD_some]at hd ⊢;rw[hd];rfl
    ·have ho:ops[i]? =some ops[i]:=Array.getElem?_eq_getElem hi
     rw[ho];simp only[Option.map_some,Option.getD_some];rw[Array.all_eq_true_iff_forall_mem];intro e he;have h1:=List.all_eq_true.1 hlow i (List.mem_range.2 hi);rw[ho]at h1;simp only[Option.map_some,Option.getD_some]at h1;have h2:=Array.all_eq_true_iff_forall_mem.1 h1 e he
     cases hb:Region.binds .any e with
     |false=>rfl
     |true=>
      rw[hb]at h2;have h4:e.on<i:=by simpa using h2
      have h3:=ih e.on h4 (by omega);unfold gB at h3;rw[h3,Bool.or_true]
   rw[h]at hm;cases hm
theorem db {P:Program}{id:Nat}{ops:Array Oper}{Q:Exit→Act→World→Prop}{a:Act}{w:World}(hm:P.follows .mixedOrders=true)(hlow:lowOk ops=true)(I:(Nat→Bool)→Act→World→Prop)(h0:I (fun _=>false) a w.drew)
  (step:∀L a w i,I L a w→i<ops.size→L i=false→(∀o,ops[i]? =some o→∀e,e∈o.after→Region.binds .any e=true→L e.on=true)→wpOp P ops Q i (I (upd L i)) a w)
  (fin:∀L a w,I L a w→(∀i,i<ops.size→L i=true)→Q .normal a w):(Code.region id ops true).wp P Q a w:=by
 refine tC hm (fun listed a w=>listed.size=ops.size∧I (gB listed) a w) ⟨by simp,?_⟩ ?_ ?_
 ·have:gB (Array.replicate ops.size false)=fun _=>false:=by
   funext j;unfold gB
   rw[Array.getD_eq_getD_getElem?,Array.getElem?_replicate];split<;>rfl
  rw[this];exact h0
 ·intro listed a w i hI hi hl hd
  have hli:gB listed i=false:=by
   unfold gB;rw[Array.getElem?_toList]at hl;rw[Array.getD_eq_getD_getElem?,hl];rfl
  refine wpOp_mono (fun a' w' h=>⟨by rw[Array.size_setIfInBounds];exact hI.1,?_⟩) (step (gB listed) a w i hI.2 hi hli hd);rw[tU _ _ (by rw[hI.1];exact hi)];exact h
 ·intro listed a w hI hr
  exact fin _ _ _ hI.2 (zR hlow hI.1 hr)
theorem am {P:Program}{ops:Array Oper}{Q:Exit→Act→World→Prop}{i:Nat}{K:Act→World→Prop}{a:Act}{w:World}(o:Oper)(ho:ops[i]? =some o)(hg:o.guard=none)(h:∀K':Act→World→Prop,(∀a w,K a w→K' a w)→o.wp P a w K' Q):wpOp P ops Q i K a w:=by
 unfold wpOp;rw[ho];simp only[Region.wanted,hg,if_true];exact .inl (h K (fun _ _ q=>q))
theorem kb {L:Nat→Bool}{j k:Nat}{b:Bool}(h:upd L k j=b)(hn:j≠k:=by decide):L j=b:=by rwa[aI L hn]at h
theorem kc {L:Nat→Bool}{j k:Nat}{P:Prop}(h:L j=true→P)(hn:j≠k:=by decide):upd L k j=true→P:=fun e=>h (kb e hn)
theorem kq {L:Nat→Bool}{j i k:Nat}(h:L j=true→L i=true)(hn:j≠k:=by decide)(hm:i≠k:=by decide):upd L k j=true→upd L k i=true:=fun e=>by rw[aI L hm];exact h (kb e hn)
theorem kn {L:Nat→Bool}{j k:Nat}{P:Prop}(h:L j=true→L k=true)(hl:L k=false)(hn:j≠k:=by decide):upd L k j=true→P:=fun e=>by
 have:=h (kb e hn);rw[hl]at this;cases this
theorem kl {L:Nat→Bool}{j k:Nat}{P:Prop}(h:L j=false)(hn:j≠k:=by decide):upd L k j=true→P:=fun e=>by
 have:=kb e hn;rw[h]at this;cases this
theorem kf {L:Nat→Bool}{n k:Nat}(h:L n=true→∀j,j<n→L j=true)(hl:L k=false)(hk:k<n:=by decide):L n=false:=by
 cases e:L n with
 |false=>rfl
 |true=>have:=h e k hk;rw[hl]at this;cases this
theorem ks {L:Nat→Bool}{k:Nat}{P:Prop}:upd L k k=false→P:=fun e=>by rw[ak]at e;cases e
theorem kd {L:Nat→Bool}{j i k:Nat}(h:L i=true)(hm:i≠k:=by decide):upd L k j=true→upd L k i=true:=fun _=>by rw[aI L hm];exact h
def gZ(n:Nat):Code→Option Code
 | .region k o b=>if k==n then some (.region k o b)else none
 | .loop c=>gZ n c
 | .seq a b=>match gZ n a with
  |some c=>some c
  |none=>gZ n b
 | .block _ c=>gZ n c
 | .scope c=>gZ n c
 | .cond _ a b=>match gZ n a with
  |some c=>some c
  |none=>gZ n b
 |_=>none
theorem xf:(Tryz.prog.info? 60).map (fun i=>(i.zero,i.size,i.bytes))=some (some (.agg #[.int .i64 0,.string ⟨#[]⟩,.slice none 0 0,.slice none 0 0,.slice none 0 0]),5,96):=by kernel_rfl
theorem aR.strong {D:Nat→Prop}{w:World}{l:List St}{v:Value}(h:aR D w l v):aR (fun b=>D b∧b<w.heap.size) w l v:=by
 induction h with
 |mk l a cap b off sa st se hcap hfit ha h0 h1 h2 h3 h4 ea _ _ ih1 ih2=>
  refine .mk l a cap b off sa st se hcap hfit ?_ h0 h1 h2 h3 h4 (fun i hi=>(ea i hi).strong) ih1 ih2;rcases ha with ha|⟨ha,hD⟩
  ·exact .inl ha
  ·rcases Nat.eq_zero_or_pos l.length with hz|hz
   ·exact .inl hz
   ·exact .inr ⟨ha,hD,World.block_lt_of_cell? _ _ (h0 0 hz)⟩
structure StV where
 x:St
 a:Value
 t:Value
 e:Value
def fP(ps:List StV):List Value:=ps.flatMap fun p=>dr p.x p.a p.t p.e
theorem lu:∀(ps:List StV) (i q:Nat) (p:StV),ps[i]? =some p→q<5→(fP ps)[i*5+q]? =(dr p.x p.a p.t p.e)[q]?
 |[],i,q,p,h,_=>by simp at h
 |x::ps,0,q,p,h,hq=>by
  simp at h;subst h;unfold fP;rw[List.flatMap_cons,List.getElem?_append_left (by simp [dr];omega)];simp
 |x::ps,i+1,q,p,h,hq=>by
  simp at h;have:=lu ps i q p h hq;unfold fP at*;rw[List.flatMap_cons,List.getElem?_append_right (by simp [dr];omega)];rw[←this];congr 1;simp [dr];omega
theorem ti(a c:List StV):fP (a++c)=fP a++fP c:=by unfold fP;rw[List.flatMap_append]
def dV(D:Nat→Prop)(w:World)(p:StV):Prop:=aJ D w p.x.args p.a∧aR D w p.x.thn p.t∧aR D w p.x.els p.e
theorem dV.keep {D:Nat→Prop}{w w':World}(hk:cd D w w'){p:StV}(h:dV D w p):dV D w' p:=⟨h.1.keep hk,h.2.1.keep hk,h.2.2.keep hk⟩
theorem dV.mono {D D':Nat→Prop}{w:World}(hD:∀b,D b→D' b){p:StV}(h:dV D w p):dV D' w p:=⟨h.1.mono hD,h.2.1.mono hD,h.2.2.mono hD⟩
theorem dV.strong {D:Nat→Prop}{w:World}{p:StV}(h:dV D w p):dV (fun b=>D b∧b<w.heap.size) w p:=⟨h.1.strong,h.2.1.strong,h.2.2.strong⟩
def cS(w:World)(base:Nat)(ps:List StV)(v:Value):Prop:=
 w.ownsRow base 60 5 v ps.length (fP ps)∧∀p,p∈ps→dV (fun b=>base≤b∧v.ownBlock≠some b) w p
theorem cS.zero(w:World)(base:Nat):cS w base [] (.slice none 0 0):=⟨⟨rfl,.inl ⟨rfl,rfl⟩⟩,fun p hp=>by cases hp⟩
theorem cS.keep {w w':World}{base:Nat}{ps:List StV}{v:Value}(h:cS w base ps v)(hk:∀k,k<w.heap.size→base≤k→w'.heap[k]? =w.heap[k]?):cS w' base ps v:=by
 refine⟨⟨h.1.1,?_⟩,fun p hp=>(h.2 p hp).keep (fun b off x hb hx=>by rw[World.cell?_of_block (w:=w) (hk b (World.block_lt_of_cell? _ _ hx) hb.1)];exact hx)⟩;rcases h.1.2 with hn|⟨g,cap,cur,rfl,hb,hg,r⟩
 ·exact .inl hn
 ·refine .inr ⟨g,cap,cur,rfl,hb,?_,r⟩
  rw[hk g (by
   rcases Nat.lt_or_ge g w.heap.size with h'|h'
   ·exact h'
   ·simp [Array.getElem?_eq_none h']at hg) hb]
  exact hg
theorem cS.sfr {s:Nat}{w w':World}{base:Nat}{ps:List StV}{v:Value}(h:cS w base ps v)(hf:SFr s w w')(hs:s<base):cS w' base ps v:=h.keep (fun k h1 h2=>hf.block k h1 (by omega))
theorem bG.sfr {s:Nat}{w w':World}{base:Nat}{ps:List (Ex ×Value)}{v:Value}(h:bG w base ps v)(hf:SFr s w w')(hs:s<base):bG w' base ps v:=h.keep (fun k h1 h2=>hf.block k h1 (by omega))
theorem bG.below {w w':World}{base:Nat}{ps:List (Ex ×Value)}{v:Value}(h:bG w base ps v)(hb:Below w.heap.size w w'):bG w' base ps v:=h.keep (fun k h1 h2=>hb.block k h1)
theorem bG.other {w:World}{base:Nat}{ps:List (Ex ×Value)}{v:Value}(h:bG w base ps v){k:Nat}(hk:k<base)(i:Nat)(u:Value):bG (w.setCell ⟨k,i,none⟩ u) base ps v:=h.keep (fun b h1 h2=>Zf _ _ _ _ (by show b≠k;omega))
theorem cS.shape {w:World}{base:Nat}{ps:List StV}{v:Value}(h:cS w base ps v):∃a cap,v= .slice a ps.length cap:=by
 rcases h.1.2 with⟨rfl,h0⟩|⟨g,cap,cur,rfl,_⟩
 ·exact⟨none,0,by rw[h0]⟩
 ·exact⟨_,_,rfl⟩
theorem cS.ge {w:World}{base:Nat}{ps:List StV}{v:Value}(h:cS w base ps v){k:Nat}(hk:v.ownBlock=some k):base≤k∧k<w.heap.size:=h.1.lt k hk
theorem cS.sts {w:World}{base:Nat}{ps:List StV}{v:Value}(h:cS w base ps v)(hf:br ps.length):aR (base≤ ·) w (ps.map (·.x)) v:=by
 have hl:(ps.map (·.x)).length=ps.length:=List.length_map _;rcases h.1.2 with⟨rfl,h0⟩|⟨g,cap,cur,rfl,hb,hg,hc,hm,hs,ht⟩
 ·have:ps=[]:=List.length_eq_zero_iff.1 h0
  subst this;exact aR.zero
 ·have cell:∀i q p u,ps[i]? =some p→q<5→(dr p.x p.a p.t p.e)[q]? =some u→w.cell? ⟨g,0+i*5+q,none⟩=some u:=by
   intro i q p u hp hq hu;have h1:=h.1.cells (g:=g) rfl (i*5+q) u (by rw[lu ps i q p hp hq];exact hu);have h2:(⟨g,0,none⟩:Addr).add (i*5+q)=⟨g,0+i*5+q,none⟩:=by unfold Addr.add;split<;>simp_all<;>omega
   rwa[h2]at h1
  have gp:∀i,i<ps.length→∃p,ps[i]? =some p∧ez (ps.map (·.x)) i=p.x∧p∈ps:=by
   intro i hi;refine⟨ps[i],List.getElem?_eq_getElem hi,?_,List.getElem_mem hi⟩;simp [ez,List.getElem?_eq_getElem hi]
  let z:StV:=⟨St.nil,undef,undef,undef⟩
  have e:=aR.mk (D:=(base≤ ·)) (w:=w) (ps.map (·.x)) (some ⟨g,0,none⟩) cap g 0 (fun i=>(ps.getD i z).a) (fun i=>(ps.getD i z).t) (fun i=>(ps.getD i z).e) (by rw[hl];exact hc) (by rw[hl];exact hf) (.inr ⟨rfl,hb⟩);rw[hl]at e;have sv:∀i p,ps[i]? =some p→ps.getD i z=p:=fun i p hp=>by rw[List.getD_eq_getElem?_getD,hp];rfl
  refine e (fun i hi=> ?_) (fun i hi=> ?_) (fun i hi=> ?_) (fun i hi=> ?_) (fun i hi=> ?_) (fun i hi=> ?_) (fun i hi=> ?_) (fun i hi=> ?_)
  all_goals
   obtain⟨p,hp,hx,hm⟩:=gp i hi
   try rw[hx]
   try rw[sv i p hp]
  ·exact cell i 0 p _ hp (by omega) rfl
  ·exact cell i 1 p _ hp (by omega) rfl
  ·exact cell i 2 p _ hp (by omega) rfl
  ·exact cell i 3 p _ hp (by omega) rfl
  ·exact cell i 4 p _ hp (by omega) rfl
  ·exact(h.2 p hm).1.mono (fun b hb=>hb.1)
  ·exact(h.2 p hm).2.1.mono (fun b hb=>hb.1)
  ·exact(h.2 p hm).2.2.mono (fun b hb=>hb.1)
theorem cS.snoc {w w':World}{base:Nat}{ps:List StV}{v:Value}(h:cS w base ps v)(p:StV)(hx:dV (fun b=>base≤b∧v.ownBlock≠some b) w p){g cap:Nat}
  (hown:w'.ownsRow base 60 5 (.slice (some ⟨g,0,none⟩) (ps.length+1) cap) (ps.length+1) (fP ps++dr p.x p.a p.t p.e)) (hgrow:w.grownBy w' v.ownBlock) (hg:v.ownBlock=some g∨g=w.heap.size):
  cS w' base (ps++[p]) (.slice (some ⟨g,0,none⟩) (ps.length+1) cap):=by
 have hl:(ps++[p]).length=ps.length+1:=by simp
 have hfl:fP (ps++[p])=fP ps++dr p.x p.a p.t p.e:=by rw[ti];simp [fP]
 have keep:∀q:StV,dV (fun b=>base≤b∧v.ownBlock≠some b) w q→dV (fun b=>base≤b∧(Value.slice (some ⟨g,0,none⟩) (ps.length+1) cap).ownBlock≠some b) w' q:=by
  intro q hu;have h1:dV (fun b=>(base≤b∧v.ownBlock≠some b)∧b<w.heap.size) w q:=hu.strong;have h2:dV (fun b=>(base≤b∧v.ownBlock≠some b)∧b<w.heap.size) w' q:=h1.keep (fun b off y hb hy=>hgrow.cell hy (fun e=>hb.1.2 e.symm));refine h2.mono (fun b hb=>⟨hb.1.1,?_⟩);show some g≠some b
  intro e
  cases e
  rcases hg with hg|hg
  ·exact hb.1.2 hg
  ·omega
 refine⟨by rw[hl,hfl];exact hown,fun q hq=> ?_⟩;rcases List.mem_append.1 hq with hq|hq
 ·exact keep _ (h.2 q hq)
 ·rw[List.mem_singleton.1 hq];exact keep _ hx
theorem yg(x:St)(a b c:Option Addr)(n m k i j l:Nat):∀u,u∈dr x (.slice a n i) (.slice b m j) (.slice c k l)→u.oneCell'=true:=by
 intro u hu;simp only[dr,List.mem_cons,List.not_mem_nil,or_false]at hu;rcases hu with rfl|rfl|rfl|rfl|rfl<;>rfl
end Go.Proofs.YtcfpfnoldgnloaaGreatDoor
