/-
  args: a call's parts. Conditions: the parser lies in memory; the contract of expr.
-/
import Derived.Test.YtcfpfnoldgnloaaGreatDoorPn03
import Derived.Laws.OwnMore
set_option linter.unusedVariables false
set_option linter.unusedSimpArgs false
namespace Go.Proofs.YtcfpfnoldgnloaaGreatDoor
open Go.RowKit
set_option maxHeartbeats 20000000
set_option maxRecDepth 100000
open Go.Lib renaming hid→Za
open SFr renaming of_below→Zb
open Go.Proofs.Tryz renaming prog→Zc,ntmps118→Zh,results118→Zi
open Ac renaming new→Zd
open Below renaming heap_setCell→Ze,refl→Zg
open List renaming length_cons→Zf,getElem?_eq_getElem→Zk
open World renaming block_lt_of_cell?→Zj
@[go_sem] theorem field_tk2 (a b c d:Value) (w:World):(Instr.field 50 (.agg #[a,b,c,d]) 2).run Zc w= .ok c w:=by kernel_rfl
theorem Vc(t:Tk)(r:List Tk):Dg (t::r)=if t.kind=1 then .ok (t.text,r)else .error t.line:=by
 unfold Dg;have:Il 1 (t::r)=if t.kind=1 then Except.ok (t,r)else Except.error t.line:=rfl
 rw[this]
 by_cases h:t.kind=1
 ·rw[if_pos h,if_pos h]
 ·rw[if_neg h,if_neg h]
theorem Mf(t:Tk)(r:List Tk):(Dc (t::r)=some (17,r)∧isP (Al 17) t=true)∨(Dc (t::r)=some (18,r)∧isP (Al 17) t=false∧isP (Al 18) t=true)∨(Dc (t::r)=some (19,r)∧isP (Al 17) t=false∧isP (Al 18) t=false∧isP (Al 19) t=true)∨
  (Dc (t::r)=none∧isP (Al 17) t=false∧isP (Al 18) t=false∧isP (Al 19) t=false):=by
 unfold Dc
 cases h1:isP (Al 17) t with
 |true=>rw[Ao h1];exact .inl ⟨rfl,rfl⟩
 |false=>
  rw[Ad h1]
  cases h2:isP (Al 18) t with
  |true=>rw[Ao h2];exact .inr (.inl ⟨rfl,rfl,rfl⟩)
  |false=>
   rw[Ad h2]
   cases h3:isP (Al 19) t with
   |true=>rw[Ao h3];exact .inr (.inr (.inl ⟨rfl,rfl,rfl,rfl⟩))
   |false=>rw[Ad h3];exact .inr (.inr (.inr ⟨rfl,rfl,rfl,rfl⟩))
theorem Sp(p tb:Nat)(t:Tk)(r:List Tk)(op:Int)(hu:Dc (t::r)=some (op,r))(w:World)(h:Ps w p tb (t::r)):
  Calls Zc 162 #[.pointer (some ⟨p,0,none⟩)] w fun e w'=>e= .returned (.int .i64 op)∧SFr p w w'∧Ps w' p tb r:=by
 rcases Mf t r with⟨e,h1⟩|⟨e,h1,h2⟩|⟨e,h1,h2,h3⟩|⟨e,_⟩
 ·rw[e]at hu;injection hu with hu;injection hu with hu _;subst hu;exact Wu p tb t r w h h1
 ·rw[e]at hu;injection hu with hu;injection hu with hu _;subst hu;exact Xu p tb t r w h h1 h2
 ·rw[e]at hu;injection hu with hu;injection hu with hu _;subst hu;exact Xa p tb t r w h h1 h2 h3
 ·rw[e]at hu;cases hu
theorem Hb(p tb:Nat)(t:Tk)(r:List Tk)(hu:Dc (t::r)=none)(w:World)(h:Ps w p tb (t::r)):
  Calls Zc 162 #[.pointer (some ⟨p,0,none⟩)] w fun e w'=>e= .returned (.int .i64 0)∧SFr p w w'∧Ps w' p tb (t::r):=by
 rcases Mf t r with⟨e,h1⟩|⟨e,h1,h2⟩|⟨e,h1,h2,h3⟩|⟨e,h1,h2,h3⟩
 ·rw[e]at hu;cases hu
 ·rw[e]at hu;cases hu
 ·rw[e]at hu;cases hu
 ·exact Wf p tb t r w h h1 h2 h3
theorem Lp {t:Tk}{r q:List Tk}{op:Int}(h:Dc (t::r)=some (op,q)):q=r∧(op=17∨op=18∨op=19):=by
 rcases Mf t r with⟨e,_⟩|⟨e,_⟩|⟨e,_⟩|⟨e,_⟩<;>rw[e]at h
 ·injection h with h;injection h with h1 h2;exact⟨h2.symm,.inl h1.symm⟩
 ·injection h with h;injection h with h1 h2;exact⟨h2.symm,.inr (.inl h1.symm)⟩
 ·injection h with h;injection h with h1 h2;exact⟨h2.symm,.inr (.inr h1.symm)⟩
 ·cases h
theorem Vx(f:Nat)(ih:Mu f)(t:Tk)(r:List Tk)(w:World)(p tb:Nat)(hl:4*(t::r).length+1≤f+1)(h:Ps w p tb (t::r))(op:Int)(hu:Dc (t::r)=some (op,r)):
  Calls Zc 118 #[.pointer (some ⟨p,0,none⟩)] w (Dt (ExH w.heap.size) w p tb (Bb (f+1) (t::r))):=by
 have HPW:=Za h.lt;have HNE:Hid (w.heap.size≠p):=by show _≠_;have:=h.lt;omega
 have hb0:Below w.heap.size w (w.alloc (.cells #[.int .i64 0,.int .i64 0,.int .i64 0,.string ⟨#[]⟩,.slice none 0 0] 27)):=bA;have HF0:Hid (SFr p w (w.alloc (.cells #[.int .i64 0,.int .i64 0,.int .i64 0,.string ⟨#[]⟩,.slice none 0 0] 27))):=Zb hb0;have HR0:=Za (Zd w [.int .i64 0,.int .i64 0,.int .i64 0,.string ⟨#[]⟩,.slice none 0 0] 27);have HP0:=Za (h.old hb0);clear hb0;obtain⟨R,hR⟩:∃R,Bb (f+1) (t::r)=R:=⟨_,rfl⟩;rw[hR];have HRR:=Za hR;clear hR;have HU:=Za hu;have HT:Hid (∀w1,Ps w1 p tb (t::r)→_):=fun w1 h1=>Sp p tb t r op hu w1 h1
 rw[Zf]at hl;have HC:Hid (∀w1,Ps w1 p tb r→_):=fun w1 h1=>ih r w1 p tb (by omega) h1
 have hop:(op !=0)=true:=by rcases(Lp hu).2 with rfl|rfl|rfl<;>rfl
 have hop2:(op==0)=false:=by rcases(Lp hu).2 with rfl|rfl|rfl<;>rfl
 have hop3:¬op=0:=by rcases(Lp hu).2 with rfl|rfl|rfl<;>decide
 clear hu hl ih;clear h;go_enter Tryz.func118,Zh
 go_wp2_with fail
 refine(HT.out _ HP0.out).mono ?_;rintro e w1 ⟨rfl,hf,hp⟩;have HF1:=Za (HF0.out.trans hf);have HP1:=Za hp;have HR1:=Za (HR0.out.sfr hf HNE.out);clear hf hp;go_wp2_with fail
 refine(HC.out _ HP1.out).mono ?_;intro e w2 he
 cases hA:Bb f r with
 |error n=>
  rw[hA]at he;obtain⟨hf,rfl⟩:=he;have HF:=Za (HF1.out.trans hf);have e1:Bb (f+1) (t::r)= .error n:=by rw[Bb,HU.out];dsimp only;rw[hA]
  have e2:=HRR.out.symm.trans e1;subst e2;clear e1 hf;unfold Ay;go_wp2_with fail
  exact⟨rfl,HF.out,rfl⟩
 |ok q=>
  obtain⟨x,r2⟩:=q;rw[hA]at he;obtain⟨hf,v,rfl,hp,hv⟩:=he;obtain⟨s3,rfl,hx,hn⟩:=hv;obtain⟨a1,a2,rfl⟩:=hx.shape;have HX2:=Za (hx.up (show w.heap.size+1≤w1.heap.size from HR1.out.lt));have HN:=Za hn;clear hx hn;have HF2:=Za (HF1.out.trans hf);have HP2:=Za hp;have HR2:=Za (HR1.out.sfr hf HNE.out);clear hf hp;have HA2:=Za hA;clear hA;obtain⟨⟨x0,x1,x2,x3,x4⟩,xf0,xf1,xf2,xf3,xf4⟩:=Bf HR2.out;have xlt:=HR2.out.lt;go_wp2_with fail
  have e1:Bb (f+1) (t::r)= .ok (.mk 3 op 0 [] [x],r2):=by rw[Bb,HU.out];dsimp only;rw[HA2.out]
  have e2:=HRR.out.symm.trans e1;subst e2;obtain⟨⟨d0,d1,d2,d3,d4⟩,_⟩:=Bf ((Jd HR2.out (.int .i64 3) (.int .i64 op) (.int .i64 0) (.string ⟨#[]⟩) (.slice (some ⟨w2.heap.size,0,none⟩) 1 1)).alloc (.cells #[.int .i64 x.kind,.int .i64 x.op,.int .i64 x.n,.string (Aa x.name),(.slice a1 x.args.length a2)] 27));exact bodyPost_ret (v:= .agg #[.int .i64 3,.int .i64 op,.int .i64 0,.string ⟨#[]⟩,.slice (some ⟨w2.heap.size,0,none⟩) 1 1]) (by simp [results,Zi,go_sem,d0,d1,d2,d3,d4]) rfl (Zu (x:=x) (y:= .mk 3 op 0 [] [x]) HPW.out HF2.out HP2.out HX2.out HN.out HR2.out.lt rfl Dw _ _ _ _ _)
theorem Qk(f:Nat)(ih:Jo f)(t:Tk)(r:List Tk)(w:World)(p tb:Nat)(hl:4*(t::r).length+1≤f+1)(h:Ps w p tb (t::r))(hu:Dc (t::r)=none)(y:isP [40] t=true):
  Calls Zc 118 #[.pointer (some ⟨p,0,none⟩)] w (Dt (ExH w.heap.size) w p tb (Bb (f+1) (t::r))):=by
 have HPW:=Za h.lt;have HNE:Hid (w.heap.size≠p):=by show _≠_;have:=h.lt;omega
 have hb0:Below w.heap.size w (w.alloc (.cells #[.int .i64 0,.int .i64 0,.int .i64 0,.string ⟨#[]⟩,.slice none 0 0] 27)):=bA;have HF0:Hid (SFr p w (w.alloc (.cells #[.int .i64 0,.int .i64 0,.int .i64 0,.string ⟨#[]⟩,.slice none 0 0] 27))):=Zb hb0;have HR0:=Za (Zd w [.int .i64 0,.int .i64 0,.int .i64 0,.string ⟨#[]⟩,.slice none 0 0] 27);have HP0:=Za (h.old hb0);clear hb0;obtain⟨R,hR⟩:∃R,Bb (f+1) (t::r)=R:=⟨_,rfl⟩;rw[hR];have HRR:=Za hR;clear hR;have HU:=Za hu;have HT:Hid (∀w1,Ps w1 p tb (t::r)→_):=fun w1 h1=>Hb p tb t r hu w1 h1
 have HY:=Za y;have HV:Hid (∀w1,Ps w1 p tb (t::r)→_):=fun w1 h1=>Bc p tb t r [40] w1 h1 y
 rw[Zf]at hl;have HC:Hid (∀w1,Ps w1 p tb r→_):=fun w1 h1=>ih r w1 p tb (by omega) h1
 clear hu y hl ih;clear h;go_enter Tryz.func118,Zh
 go_wp2_with fail
 refine(HT.out _ HP0.out).mono ?_;rintro e w1 ⟨rfl,hf,hp⟩;have HF1:=Za (HF0.out.trans hf);have HP1:=Za hp;have HR1:=Za (HR0.out.sfr hf HNE.out);clear hf hp;go_wp2_with fail
 refine(HV.out _ HP1.out).mono ?_;rintro e w2 ⟨rfl,hf,hp⟩;have HF2:=Za (HF1.out.trans hf);have HP2:=Za hp;have HR2:=Za (HR1.out.sfr hf HNE.out);clear hf hp;go_wp2_with fail
 refine(HC.out _ HP2.out).mono ?_;intro e w3 he
 cases hA:Aq f 1 r with
 |error n=>
  rw[hA]at he;obtain⟨hf,rfl⟩:=he;have HF:=Za (HF2.out.trans hf);have e1:Bb (f+1) (t::r)= .error n:=by rw[Bb,HU.out];dsimp only;rw[Ao HY.out];dsimp only;rw[hA]
  have e2:=HRR.out.symm.trans e1;subst e2;clear e1 hf;unfold Ay;go_wp2_with fail
  exact⟨rfl,HF.out,rfl⟩
 |ok q=>
  obtain⟨x,r2⟩:=q;rw[hA]at he;obtain⟨hf,v,rfl,hp,hv⟩:=he;obtain⟨s3,rfl,hx,hn⟩:=hv;obtain⟨a1,a2,rfl⟩:=hx.shape;have HX3:=Za (hx.up (show w.heap.size+1≤w2.heap.size from HR2.out.lt));have HN:=Za hn;clear hx hn;have HF3:=Za (HF2.out.trans hf);have HP3:=Za hp;have HR3:=Za (HR2.out.sfr hf HNE.out);clear hf hp;have HA3:=Za hA;clear hA;go_upto_region 6 with(fail)
  obtain⟨W,hW⟩:∃W,w3.alloc (.cells #[.int .i64 x.kind,.int .i64 x.op,.int .i64 x.n,.string (Aa x.name),.slice a1 x.args.length a2] 27)=W:=⟨_,rfl⟩;rw[hW];have hba:Below w3.heap.size w3 W:=hW ▸ bA;have HF4:=Za (HF3.out.trans (Zb hba));have HP4:=Za (HP3.out.old hba);have HR4:=Za (HR3.out.old hba);have HX4:=Za (HX3.out.old hba);have HE4:=Za (hW ▸ Zd w3 [.int .i64 x.kind,.int .i64 x.op,.int .i64 x.n,.string (Aa x.name),.slice a1 x.args.length a2] 27);have HEP:Hid (w3.heap.size≠p):=by show _≠_;have:=HP3.out.lt;omega
  clear hba hW;obtain⟨w4,hWW⟩:∃w4,w4=W:=⟨_,rfl⟩;subst hWW;have hba:Below w4.heap.size w4 (w4.alloc (.cells #[.string ⟨#[41]⟩] 9)):=bA;have HF5:=Za (HF4.out.trans (Zb hba));have HP5:=Za (HP4.out.old hba);have HR5:=Za (HR4.out.old hba);have HE5:=Za (HE4.out.old hba);have HX5:=Za (HX4.out.old hba);have HWN:=Za (Cd p tb r2 [41] _ HP5.out w4.heap.size 1 ((Zd w4 [.string ⟨#[41]⟩] 9).at 0 _ rfl));clear hba;go_wp2_with fail
  refine(HWN.out).mono ?_;intro e w6 he
  cases hA:Ak [41] r2 with
  |error n=>
   rw[hA]at he;obtain⟨hf,rfl⟩:=he;have HF:=Za (HF5.out.trans hf);have e1:Bb (f+1) (t::r)= .error n:=by rw[Bb,HU.out];dsimp only;rw[Ao HY.out];dsimp only;rw[HA3.out];dsimp only;rw[hA]
   have e2:=HRR.out.symm.trans e1;subst e2;clear e1 hf;unfold Ay;go_wp2_with fail
   exact⟨rfl,HF.out,rfl⟩
  |ok r3=>
   rw[hA]at he;obtain⟨hf,rfl,hp⟩:=he;have HF6:=Za (HF5.out.trans hf);have HP6:=Za hp;have HR6:=Za (HR5.out.sfr hf HNE.out);have HE6:=Za (HE5.out.sfr hf HEP.out);have HX6:=Za (HX5.out.keep (hf.fresh (by have:=HPW.out;omega)));clear hf hp;have HA6:=Za hA;clear hA;clear HWN;obtain⟨⟨e0,e1,e2,e3,e4⟩,ef0,ef1,ef2,ef3,ef4⟩:=Bf HE6.out;have elt:=HE6.out.lt;obtain⟨⟨x0,x1,x2,x3,x4⟩,xf0,xf1,xf2,xf3,xf4⟩:=Bf HR6.out;have xlt:=HR6.out.lt;go_wp2_with fail
   have e1:Bb (f+1) (t::r)= .ok (x,r3):=by rw[Bb,HU.out];dsimp only;rw[Ao HY.out];dsimp only;rw[HA3.out];dsimp only;rw[HA6.out]
   have e2:=HRR.out.symm.trans e1;subst e2;obtain⟨⟨d0,d1,d2,d3,d4⟩,_⟩:=Bf (Jd HR6.out (.int .i64 x.kind) (.int .i64 x.op) (.int .i64 x.n) (.string (Aa x.name)) (.slice a1 x.args.length a2));exact bodyPost_ret (v:= .agg #[.int .i64 x.kind,.int .i64 x.op,.int .i64 x.n,.string (Aa x.name),.slice a1 x.args.length a2]) (by simp [results,Zi,go_sem,d0,d1,d2,d3,d4]) rfl (Jt (x:=x) HPW.out HF6.out HP6.out HX6.out HN.out _ _ _ _ _)
theorem Sv(f:Nat)(t:Tk)(r:List Tk)(w:World)(p tb:Nat)(hl:4*(t::r).length+1≤f+1)(h:Ps w p tb (t::r))(hu:Dc (t::r)=none)(n:isP [40] t=false)(y:isP [114,101,97,100] t=true):
  Calls Zc 118 #[.pointer (some ⟨p,0,none⟩)] w (Dt (ExH w.heap.size) w p tb (Bb (f+1) (t::r))):=by
 have HPW:=Za h.lt;have HNE:Hid (w.heap.size≠p):=by show _≠_;have:=h.lt;omega
 have hb0:Below w.heap.size w (w.alloc (.cells #[.int .i64 0,.int .i64 0,.int .i64 0,.string ⟨#[]⟩,.slice none 0 0] 27)):=bA;have HF0:Hid (SFr p w (w.alloc (.cells #[.int .i64 0,.int .i64 0,.int .i64 0,.string ⟨#[]⟩,.slice none 0 0] 27))):=Zb hb0;have HR0:=Za (Zd w [.int .i64 0,.int .i64 0,.int .i64 0,.string ⟨#[]⟩,.slice none 0 0] 27);have HP0:=Za (h.old hb0);clear hb0;obtain⟨R,hR⟩:∃R,Bb (f+1) (t::r)=R:=⟨_,rfl⟩;rw[hR];have HRR:=Za hR;clear hR;have HU:=Za hu;have HT:Hid (∀w1,Ps w1 p tb (t::r)→_):=fun w1 h1=>Hb p tb t r hu w1 h1
 have HY:=Za y;have HN1:=Za n;have HV:Hid (∀w1,Ps w1 p tb (t::r)→_):=fun w1 h1=>Ai p tb t r [40] w1 h1 n
 have HV2:Hid (∀w1,Ps w1 p tb (t::r)→_):=fun w1 h1=>Bc p tb t r [114,101,97,100] w1 h1 y
 clear hu y n hl;clear h;go_enter Tryz.func118,Zh
 go_wp2_with fail
 refine(HT.out _ HP0.out).mono ?_;rintro e w1 ⟨rfl,hf,hp⟩;have HF1:=Za (HF0.out.trans hf);have HP1:=Za hp;have HR1:=Za (HR0.out.sfr hf HNE.out);clear hf hp;go_wp2_with fail
 refine(HV.out _ HP1.out).mono ?_;rintro e w2 ⟨rfl,hb⟩;have HF2:=Za (HF1.out.trans (Zb hb));have HP2:=Za (HP1.out.old hb);have HR2:=Za (HR1.out.old hb);clear hb;go_wp2_with fail
 refine(HV2.out _ HP2.out).mono ?_;rintro e w3 ⟨rfl,hf,hp⟩;have HF3:=Za (HF2.out.trans hf);have HP3:=Za hp;have HR3:=Za (HR2.out.sfr hf HNE.out);clear hf hp;have hba:Below w3.heap.size w3 (w3.alloc (.cells #[.string ⟨#[40]⟩,.string ⟨#[41]⟩] 9)):=bA;have hwp:w3.heap.size≠p:=by have:=HP3.out.lt;omega
 have HF4:=Za (HF3.out.trans (Zb hba));have HP4:=Za (HP3.out.old hba);have HR4:=Za (HR3.out.old hba);have HWN:=Za (Kt p tb r [40] [41] _ HP4.out w3.heap.size 2 ((Zd w3 [.string ⟨#[40]⟩,.string ⟨#[41]⟩] 9).at 0 _ rfl) ((Zd w3 [.string ⟨#[40]⟩,.string ⟨#[41]⟩] 9).at 1 _ rfl) hwp);clear hba hwp;go_wp2_with fail
 refine(HWN.out).mono ?_;intro e w5 he
 cases hA:Es [40] [41] r with
 |error n=>
  rw[hA]at he;obtain⟨hf,rfl⟩:=he;have HF:=Za (HF4.out.trans hf);have e1:Bb (f+1) (t::r)= .error n:=by rw[Bb,HU.out];dsimp only;rw[Ad HN1.out];dsimp only;rw[Ao HY.out];dsimp only;unfold Es at hA;cases hB:Ak [40] r with
   |error n=>rw[hB]at hA;injection hA with hA;subst hA;rfl
   |ok q=>rw[hB]at hA;dsimp only at hA ⊢;rw[hA]
  have e2:=HRR.out.symm.trans e1;subst e2;clear e1 hf;unfold Ay;go_wp2_with fail
  exact⟨rfl,HF.out,rfl⟩
 |ok r3=>
  rw[hA]at he;obtain⟨hf,rfl,hp⟩:=he;have HF5:=Za (HF4.out.trans hf);have HP5:=Za hp;have HR5:=Za (HR4.out.sfr hf HNE.out);clear hf hp;have HA5:=Za hA;clear hA;clear HWN;obtain⟨⟨x0,x1,x2,x3,x4⟩,xf0,xf1,xf2,xf3,xf4⟩:=Bf HR5.out;have xlt:=HR5.out.lt;go_wp2_with fail
  have e1:Bb (f+1) (t::r)= .ok (.mk 7 0 0 [] [],r3):=by
     have hA:=HA5.out;rw[Bb,HU.out];dsimp only;rw[Ad HN1.out];dsimp only;rw[Ao HY.out];dsimp only;unfold Es at hA
     cases hB:Ak [40] r with
     |error n=>rw[hB]at hA;cases hA
     |ok q=>rw[hB]at hA;dsimp only at hA ⊢;rw[hA]
  have e2:=HRR.out.symm.trans e1;subst e2;obtain⟨⟨d0,d1,d2,d3,d4⟩,_⟩:=Bf (Jd HR5.out (.int .i64 7) (.int .i64 0) (.int .i64 0) (.string ⟨#[]⟩) (.slice none 0 0));exact bodyPost_ret (v:= .agg #[.int .i64 7,.int .i64 0,.int .i64 0,.string ⟨#[]⟩,.slice none 0 0]) (by simp [results,Zi,go_sem,d0,d1,d2,d3,d4]) rfl (Jt (x:= .mk 7 0 0 [] []) HPW.out HF5.out HP5.out Ag.zero Dw _ _ _ _ _)
theorem Uy(f:Nat)(t:Tk)(r:List Tk)(w:World)(p tb:Nat)(hl:4*(t::r).length+1≤f+1)(h:Ps w p tb (t::r))(hu:Dc (t::r)=none)(n1:isP [40] t=false)(n2:isP [114,101,97,100] t=false)(hk:t.kind=3):
  Calls Zc 118 #[.pointer (some ⟨p,0,none⟩)] w (Dt (ExH w.heap.size) w p tb (Bb (f+1) (t::r))):=by
 have HPW:=Za h.lt;have HNE:Hid (w.heap.size≠p):=by show _≠_;have:=h.lt;omega
 have hb0:Below w.heap.size w (w.alloc (.cells #[.int .i64 0,.int .i64 0,.int .i64 0,.string ⟨#[]⟩,.slice none 0 0] 27)):=bA;have HF0:Hid (SFr p w (w.alloc (.cells #[.int .i64 0,.int .i64 0,.int .i64 0,.string ⟨#[]⟩,.slice none 0 0] 27))):=Zb hb0;have HR0:=Za (Zd w [.int .i64 0,.int .i64 0,.int .i64 0,.string ⟨#[]⟩,.slice none 0 0] 27);have HP0:=Za (h.old hb0);clear hb0;obtain⟨R,hR⟩:∃R,Bb (f+1) (t::r)=R:=⟨_,rfl⟩;rw[hR];have HRR:=Za hR;clear hR;have HU:=Za hu;have HT:Hid (∀w1,Ps w1 p tb (t::r)→_):=fun w1 h1=>Hb p tb t r hu w1 h1
 have HN1:=Za n1;have HN2:=Za n2;have HV:Hid (∀w1,Ps w1 p tb (t::r)→_):=fun w1 h1=>Ai p tb t r [40] w1 h1 n1
 have HV2:Hid (∀w1,Ps w1 p tb (t::r)→_):=fun w1 h1=>Ai p tb t r [114,101,97,100] w1 h1 n2
 have HNX:Hid (∀w1,Ps w1 p tb (t::r)→_):=fun w1 h1=>Dx p tb t r w1 h1
 have HKD:Hid (∀w1,Ps w1 p tb (t::r)→_):=fun w1 h1=>Ir p tb (t::r) 3 (by decide) w1 h1
 have HKP:Hid (Il 3 (t::r)= .ok (t,r)):=by show(if t.kind=3 then Except.ok (t,r)else Except.error t.line)=_;rw[if_pos hk]
 have HK:=Za hk;have hk2:(t.kind==3)=true:=by simp [hk]
 have HNUM:=Za (h.nums t List.mem_cons_self);clear hu n1 n2 hl hk;clear h;go_enter Tryz.func118,Zh
 go_wp2_with fail
 refine(HT.out _ HP0.out).mono ?_;rintro e w1 ⟨rfl,hf,hp⟩;have HF1:=Za (HF0.out.trans hf);have HP1:=Za hp;have HR1:=Za (HR0.out.sfr hf HNE.out);clear hf hp;go_wp2_with fail
 refine(HV.out _ HP1.out).mono ?_;rintro e w2 ⟨rfl,hb⟩;have HF2:=Za (HF1.out.trans (Zb hb));have HP2:=Za (HP1.out.old hb);have HR2:=Za (HR1.out.old hb);clear hb;go_wp2_with fail
 refine(HV2.out _ HP2.out).mono ?_;rintro e w3 ⟨rfl,hb⟩;have HF3:=Za (HF2.out.trans (Zb hb));have HP3:=Za (HP2.out.old hb);have HR3:=Za (HR2.out.old hb);clear hb;go_wp2_with fail
 refine(HNX.out _ HP3.out).mono ?_;rintro e w4 ⟨rfl,hb⟩;have HF4:=Za (HF3.out.trans (Zb hb));have HP4:=Za (HP3.out.old hb);have HR4:=Za (HR3.out.old hb);clear hb;unfold tkV;go_wp2_with fail
 have hq:=HKD.out _ HP4.out;rw[HKP.out]at hq;refine hq.mono ?_;clear hq;rintro e w5 ⟨hf,v,rfl,hp,rfl⟩;have HF5:=Za (HF4.out.trans hf);have HP5:=Za hp;have HR5:=Za (HR4.out.sfr hf HNE.out);clear hf hp;unfold tkV;obtain⟨⟨x0,x1,x2,x3,x4⟩,xf0,xf1,xf2,xf3,xf4⟩:=Bf HR5.out;have xlt:=HR5.out.lt;go_wp2_with fail
 have e1:Bb (f+1) (t::r)= .ok (.mk 1 0 t.num [] [],r):=by rw[Bb,HU.out];dsimp only;rw[Ad HN1.out];dsimp only;rw[Ad HN2.out];dsimp only;rw[if_pos HK.out]
 have e2:=HRR.out.symm.trans e1;subst e2;obtain⟨⟨d0,d1,d2,d3,d4⟩,_⟩:=Bf (Jd HR5.out (.int .i64 1) (.int .i64 0) (.int .i64 t.num) (.string ⟨#[]⟩) (.slice none 0 0));exact bodyPost_ret (v:= .agg #[.int .i64 1,.int .i64 0,.int .i64 t.num,.string ⟨#[]⟩,.slice none 0 0]) (by simp [results,Zi,go_sem,d0,d1,d2,d3,d4]) rfl (Jt (x:= .mk 1 0 t.num [] []) HPW.out HF5.out HP5.out Ag.zero HNUM.out _ _ _ _ _)
theorem Sd(f:Nat)(ih:Pl f)(t:Tk)(r:List Tk)(w:World)(p tb:Nat)(hl:4*(t::r).length+1≤f+1)(h:Ps w p tb (t::r))(hu:Dc (t::r)=none)(n1:isP [40] t=false)(n2:isP [114,101,97,100] t=false)(hk:t.kind≠3):
  Calls Zc 118 #[.pointer (some ⟨p,0,none⟩)] w (Dt (ExH w.heap.size) w p tb (Bb (f+1) (t::r))):=by
 have HPW:=Za h.lt;have HNE:Hid (w.heap.size≠p):=by show _≠_;have:=h.lt;omega
 have hb0:Below w.heap.size w (w.alloc (.cells #[.int .i64 0,.int .i64 0,.int .i64 0,.string ⟨#[]⟩,.slice none 0 0] 27)):=bA;have HF0:Hid (SFr p w (w.alloc (.cells #[.int .i64 0,.int .i64 0,.int .i64 0,.string ⟨#[]⟩,.slice none 0 0] 27))):=Zb hb0;have HR0:=Za (Zd w [.int .i64 0,.int .i64 0,.int .i64 0,.string ⟨#[]⟩,.slice none 0 0] 27);have HP0:=Za (h.old hb0);clear hb0;obtain⟨R,hR⟩:∃R,Bb (f+1) (t::r)=R:=⟨_,rfl⟩;rw[hR];have HRR:=Za hR;clear hR;have HU:=Za hu;have HT:Hid (∀w1,Ps w1 p tb (t::r)→_):=fun w1 h1=>Hb p tb t r hu w1 h1
 have HN1:=Za n1;have HN2:=Za n2;have HV:Hid (∀w1,Ps w1 p tb (t::r)→_):=fun w1 h1=>Ai p tb t r [40] w1 h1 n1
 have HV2:Hid (∀w1,Ps w1 p tb (t::r)→_):=fun w1 h1=>Ai p tb t r [114,101,97,100] w1 h1 n2
 have HNX:Hid (∀w1,Ps w1 p tb (t::r)→_):=fun w1 h1=>Dx p tb t r w1 h1
 have HNM:Hid (∀w1,Ps w1 p tb (t::r)→_):=fun w1 h1=>Do p tb (t::r) w1 h1
 rw[Zf]at hl;have HC:Hid (∀s w1,Ps w1 p tb r→_):=fun s w1 h1=>ih s r w1 p tb (by omega) h1
 have HK:=Za hk;have hk2:(t.kind==3)=false:=by simp [hk]
 have HNP:=Za (Vc t r);clear hu n1 n2 hl hk ih;clear h;go_enter Tryz.func118,Zh
 go_wp2_with fail
 refine(HT.out _ HP0.out).mono ?_;rintro e w1 ⟨rfl,hf,hp⟩;have HF1:=Za (HF0.out.trans hf);have HP1:=Za hp;have HR1:=Za (HR0.out.sfr hf HNE.out);clear hf hp;go_wp2_with fail
 refine(HV.out _ HP1.out).mono ?_;rintro e w2 ⟨rfl,hb⟩;have HF2:=Za (HF1.out.trans (Zb hb));have HP2:=Za (HP1.out.old hb);have HR2:=Za (HR1.out.old hb);clear hb;go_wp2_with fail
 refine(HV2.out _ HP2.out).mono ?_;rintro e w3 ⟨rfl,hb⟩;have HF3:=Za (HF2.out.trans (Zb hb));have HP3:=Za (HP2.out.old hb);have HR3:=Za (HR2.out.old hb);clear hb;go_wp2_with fail
 refine(HNX.out _ HP3.out).mono ?_;rintro e w4 ⟨rfl,hb⟩;have HF4:=Za (HF3.out.trans (Zb hb));have HP4:=Za (HP3.out.old hb);have HR4:=Za (HR3.out.old hb);clear hb;unfold tkV;go_wp2_with fail
 refine(HNM.out _ HP4.out).mono ?_;intro e w5 he
 cases hA:Dg (t::r)with
 |error n=>
  rw[hA]at he;obtain⟨hf,rfl⟩:=he;have HF:=Za (HF4.out.trans hf);have e1:Bb (f+1) (t::r)= .error n:=by
    have hB:=HNP.out;rw[hA]at hB
    by_cases h1:t.kind=1
    ·rw[if_pos h1]at hB;cases hB
    ·rw[if_neg h1]at hB;injection hB with hB;subst hB
     rw[Bb,HU.out];dsimp only;rw[Ad HN1.out];dsimp only;rw[Ad HN2.out];dsimp only;rw[if_neg HK.out,if_neg h1]
  have e2:=HRR.out.symm.trans e1;subst e2;clear e1 hf;unfold Ay;go_wp2_with fail
  exact⟨rfl,HF.out,rfl⟩
 |ok q=>
  obtain⟨s,r2⟩:=q;rw[hA]at he;obtain⟨hf,v,rfl,hp,hv⟩:=he;have hv:v= .string (Aa s):=hv;subst hv;obtain⟨h1,rfl,rfl⟩:t.kind=1∧s=t.text∧r=r2:=by
   have hB:=HNP.out;rw[hA]at hB
   by_cases h1:t.kind=1
   ·rw[if_pos h1]at hB;injection hB with hB;injection hB with hB1 hB2;exact⟨h1,hB1,hB2.symm⟩
   ·rw[if_neg h1]at hB;cases hB
  have HK1:=Za h1;clear h1;have HF5:=Za (HF4.out.trans hf);have HP5:=Za hp;have HR5:=Za (HR4.out.sfr hf HNE.out);clear hf hp;have HA5:=Za hA;clear hA;go_wp2_with fail
  refine(HC.out t.text _ HP5.out).mono ?_;intro e w6 he
  cases hA:Cf f t.text r with
  |error n=>
   rw[hA]at he;obtain⟨hf,rfl⟩:=he;have HF:=Za (HF5.out.trans hf);have e1:Bb (f+1) (t::r)= .error n:=by rw[Bb,HU.out];dsimp only;rw[Ad HN1.out];dsimp only;rw[Ad HN2.out];dsimp only;rw[if_neg HK.out,if_pos HK1.out,hA]
   have e2:=HRR.out.symm.trans e1;subst e2;clear e1 hf;unfold Ay;go_wp2_with fail
   exact⟨rfl,HF.out,rfl⟩
  |ok q=>
   obtain⟨x,r3⟩:=q;rw[hA]at he;obtain⟨hf,v,rfl,hp,hv⟩:=he;obtain⟨s3,rfl,hx,hn⟩:=hv;obtain⟨a1,a2,rfl⟩:=hx.shape;have HX6:=Za (hx.up (show w.heap.size+1≤w5.heap.size from HR5.out.lt));have HN:=Za hn;clear hx hn;have HF6:=Za (HF5.out.trans hf);have HP6:=Za hp;have HR6:=Za (HR5.out.sfr hf HNE.out);clear hf hp;have HA6:=Za hA;clear hA;obtain⟨⟨x0,x1,x2,x3,x4⟩,xf0,xf1,xf2,xf3,xf4⟩:=Bf HR6.out;have xlt:=HR6.out.lt;go_wp2_with fail
   have e1:Bb (f+1) (t::r)= .ok (x,r3):=by rw[Bb,HU.out];dsimp only;rw[Ad HN1.out];dsimp only;rw[Ad HN2.out];dsimp only;rw[if_neg HK.out,if_pos HK1.out,HA6.out]
   have e2:=HRR.out.symm.trans e1;subst e2;obtain⟨⟨d0,d1,d2,d3,d4⟩,_⟩:=Bf (Jd HR6.out (.int .i64 x.kind) (.int .i64 x.op) (.int .i64 x.n) (.string (Aa x.name)) (.slice a1 x.args.length a2));exact bodyPost_ret (v:= .agg #[.int .i64 x.kind,.int .i64 x.op,.int .i64 x.n,.string (Aa x.name),.slice a1 x.args.length a2]) (by simp [results,Zi,go_sem,d0,d1,d2,d3,d4]) rfl (Jt (x:=x) HPW.out HF6.out HP6.out HX6.out HN.out _ _ _ _ _)
theorem Yb(f:Nat)(hT:Mu f)(hE:Jo f)(hN:Pl f):Mu (f+1):=by
 intro l w p tb hl h;obtain⟨t,r,rfl⟩:=h.ends.ne
 cases hu:Dc (t::r)with
 |some q=>
  obtain⟨op,q⟩:=q;obtain⟨rfl,_⟩:=Lp hu;exact Vx f hT t _ w p tb hl h op hu
 |none=>
  cases h1:isP [40] t with
  |true=>exact Qk f hE t r w p tb hl h hu h1
  |false=>
   cases h2:isP [114,101,97,100] t with
   |true=>exact Sv f t r w p tb hl h hu h1 h2
   |false=>
    by_cases hk:t.kind=3
    ·exact Uy f t r w p tb hl h hu h1 h2 hk
    ·exact Sd f hN t r w p tb hl h hu h1 h2 hk
theorem Wa(f:Nat)(hA:Un f)(hE:Jo f):Pl (f+1):=by
 intro s l w p tb hl h;obtain⟨t,r,rfl⟩:=h.ends.ne
 cases h1:isP [40] t with
 |true=>exact Td f hA s t r w p tb hl h h1
 |false=>
  cases h2:isP [91] t with
  |true=>exact Ty f hE s t r w p tb hl h h1 h2
  |false=>exact Vs f s t r w p tb h h1 h2
theorem expr_of(f:Nat)(hC:Pe f):Jo f:=by
 intro l w p tb hl h;have HPW:=Za h.lt;have HNE:Hid (w.heap.size≠p):=by show _≠_;have:=h.lt;omega
 have hb0:Below w.heap.size w (w.alloc (.cells #[.int .i64 0,.int .i64 0,.int .i64 0,.string ⟨#[]⟩,.slice none 0 0] 27)):=bA;have HF0:Hid (SFr p w (w.alloc (.cells #[.int .i64 0,.int .i64 0,.int .i64 0,.string ⟨#[]⟩,.slice none 0 0] 27))):=Zb hb0;have HR0:=Za (Zd w [.int .i64 0,.int .i64 0,.int .i64 0,.string ⟨#[]⟩,.slice none 0 0] 27);have HP0:=Za (h.old hb0);clear hb0;obtain⟨R,hR⟩:∃R,Aq f 1 l=R:=⟨_,rfl⟩;rw[hR];have HRR:=Za hR;clear hR;have HC:Hid (∀w1,Ps w1 p tb l→_):=fun w1 h1=>hC 1 l w1 p tb hl h1
 clear hl hC;clear h;go_enter Tryz.func27,Tryz.ntmps27
 go_wp2_with fail
 refine(HC.out _ HP0.out).mono ?_;intro e w1 he
 cases hA:Aq f 1 l with
 |error n=>
  rw[hA]at he;obtain⟨hf,rfl⟩:=he;have HF:=Za (HF0.out.trans hf);have e1:Aq f 1 l= .error n:=hA;have e2:=HRR.out.symm.trans e1;subst e2;clear e1 hf;unfold Ay;go_wp2_with fail
  exact⟨rfl,HF.out,rfl⟩
 |ok q=>
  obtain⟨x,r2⟩:=q;rw[hA]at he;obtain⟨hf,v,rfl,hp,hv⟩:=he;obtain⟨s3,rfl,hx,hn⟩:=hv;obtain⟨a1,a2,rfl⟩:=hx.shape;have HX1:=Za (hx.up (show w.heap.size+1≤_ from HR0.out.lt));have HN:=Za hn;clear hx hn;have HF1:=Za (HF0.out.trans hf);have HP1:=Za hp;have HR1:=Za (HR0.out.sfr hf HNE.out);clear hf hp;have HA1:=Za hA;clear hA;obtain⟨⟨x0,x1,x2,x3,x4⟩,xf0,xf1,xf2,xf3,xf4⟩:=Bf HR1.out;have xlt:=HR1.out.lt;go_wp2_with fail
  have e1:Aq f 1 l= .ok (x,r2):=HA1.out;have e2:=HRR.out.symm.trans e1;subst e2;obtain⟨⟨d0,d1,d2,d3,d4⟩,_⟩:=Bf (Jd HR1.out (.int .i64 x.kind) (.int .i64 x.op) (.int .i64 x.n) (.string (Aa x.name)) (.slice a1 x.args.length a2));exact bodyPost_ret (v:= .agg #[.int .i64 x.kind,.int .i64 x.op,.int .i64 x.n,.string (Aa x.name),.slice a1 x.args.length a2]) (by simp [results,Tryz.results27,go_sem,d0,d1,d2,d3,d4]) rfl (Jt (x:=x) HPW.out HF1.out HP1.out HX1.out HN.out _ _ _ _ _)
def Cn(p:Nat)(w:World):Nat:=match w.cell? ⟨p,0,none⟩with
 |some (.slice _ n _)=>n
 |_=>0
theorem Ps.len {w:World}{p tb:Nat}{l:List Tk}(h:Ps w p tb l):Cn p w=l.length:=by
 obtain⟨o,cap,h⟩:=h;have:=h.own.at 0 _ rfl;unfold Cn;rw[this]
theorem eM {lv:Int}{t:Tk}{r:List Tk}(h:Cb lv (t::r)≠0):t.kind≠5:=by
 intro h5;apply h
 rw[Vk];refine Oi _ (fun j hj=> ?_);have:isP (Al ((j:Int)+1)) t=false:=by unfold isP;rw[h5];rfl
 show(isP (Al ((j:Int)+1)) t && _)=false
 rw[this];rfl
theorem Tj(op:Int):0≤Aj op∧Aj op≤8:=by
 unfold Aj
 repeat' split
 all_goals omega
structure My (w:World)(p tb be:Nat)(lv:Int)(f:Nat)(R:PR Ex)(g:Nat)(x:Ex)(s:Value)(l:List Tk)(wr:World):Prop where
 sfr:SFr p w wr
 ps:Ps wr p tb l
 own:Ac wr w.heap.size [.int .i64 0,.int .i64 0,.int .i64 0,.string ⟨#[]⟩,.slice none 0 0] 27
 e:Ac wr be [.int .i64 x.kind,.int .i64 x.op,.int .i64 x.n,.string (Aa x.name),s] 27
 tree:Ag (fun b=>w.heap.size+1≤b∧b≠be) wr x.args s
 n:I64 x.n
 fuel:4*l.length+5≤g
 le:g≤f
 res:Gg g lv x l=R
theorem My.old {w:World}{p tb be:Nat}{lv:Int}{f:Nat}{R:PR Ex}{g:Nat}{x:Ex}{s:Value}{l:List Tk}{wr w':World}(h:My w p tb be lv f R g x s l wr)(hb:Below wr.heap.size wr w'):My w p tb be lv f R g x s l w':=
 ⟨h.sfr.trans (Zb hb),h.ps.old hb,h.own.old hb,h.e.old hb,h.tree.old hb,h.n,h.fuel,h.le,h.res⟩
theorem set5_ne(w:World)(b:Nat)(c0 c1 c2 c3 c4:Value){k:Nat}(h:k≠b):(((((w.setCell ⟨b,0,none⟩ c0).setCell ⟨b,1,none⟩ c1).setCell ⟨b,2,none⟩ c2).setCell ⟨b,3,none⟩ c3).setCell ⟨b,4,none⟩ c4).heap[k]? =w.heap[k]? :=by
 rw[Ze _ _ _ _ (show k≠b from h),Ze _ _ _ _ (show k≠b from h),Ze _ _ _ _ (show k≠b from h),Ze _ _ _ _ (show k≠b from h),Ze _ _ _ _ (show k≠b from h)]
theorem Wi {w:World}{p tb be:Nat}{lv:Int}{f:Nat}{R:PR Ex}{g:Nat}{x y:Ex}{s u:Value}{op:Int}{l:List Tk}{W:World}(hpw:p<w.heap.size)(hbe:w.heap.size<be)(hF:SFr p w W)(hP:Ps W p tb l)
  (hO:Ac W w.heap.size [.int .i64 0,.int .i64 0,.int .i64 0,.string ⟨#[]⟩,.slice none 0 0] 27) (hE:Ac W be [.int .i64 x.kind,.int .i64 x.op,.int .i64 x.n,.string (Aa x.name),s] 27)
  (hX:Ag (fun b=>w.heap.size+1≤b∧b≠be) W x.args s) (hn:I64 x.n) (hY:Ag (fun b=>w.heap.size+1≤b∧b≠be) W y.args u) (hm:I64 y.n) (hfu:4*l.length+5≤g) (hle:g≤f) (hres:Gg g lv (.mk 4 op 0 [] [x,y]) l=R):
  My w p tb be lv f R g (.mk 4 op 0 [] [x,y]) (.slice (some ⟨W.heap.size,0,none⟩) 2 2) l ((((((W.setCell ⟨be,0,none⟩ (.int .i64 4)).setCell ⟨be,1,none⟩ (.int .i64 op)).setCell ⟨be,2,none⟩ (.int .i64 0)).setCell ⟨be,3,none⟩ (.string ⟨#[]⟩)).setCell ⟨be,4,none⟩ (.slice (some ⟨W.heap.size,0,none⟩) 2 2)).alloc
   (.cells #[.int .i64 x.kind,.int .i64 x.op,.int .i64 x.n,.string (Aa x.name),s,.int .i64 y.kind,.int .i64 y.op,.int .i64 y.n,.string (Aa y.name),u] 27)):=by
 have hbw:=hE.lt;have k1:=hX.keep (Gz W (show ¬(w.heap.size+1≤be∧be≠be)from fun h=>h.2 rfl) (.int .i64 4) (.int .i64 op) (.int .i64 0) (.string ⟨#[]⟩) (.slice (some ⟨W.heap.size,0,none⟩) 2 2));have k2:=hY.keep (Gz W (show ¬(w.heap.size+1≤be∧be≠be)from fun h=>h.2 rfl) (.int .i64 4) (.int .i64 op) (.int .i64 0) (.string ⟨#[]⟩) (.slice (some ⟨W.heap.size,0,none⟩) 2 2));have hs:=Ik W be (.int .i64 4) (.int .i64 op) (.int .i64 0) (.string ⟨#[]⟩) (.slice (some ⟨W.heap.size,0,none⟩) 2 2);refine⟨(eA hF (by omega) _ _ _ _ _).trans (Zb (bA)),(ps5 hP (by omega) _ _ _ _ _).alloc _,?_,(Jd hE _ _ _ _ _).alloc _,?_,Dw,hfu,hle,hres⟩
 ·refine Ac.alloc ?_ _
  exact(set5_ne W be _ _ _ _ _ (by omega)).trans hO
 ·have:=Ag.two (D:=fun b=>w.heap.size+1≤b∧b≠be) x y s u (b:=W.heap.size) ⟨by omega,by omega⟩ (by
   have:=Df.new (((((W.setCell ⟨be,0,none⟩ (.int .i64 4)).setCell ⟨be,1,none⟩ (.int .i64 op)).setCell ⟨be,2,none⟩ (.int .i64 0)).setCell ⟨be,3,none⟩ (.string ⟨#[]⟩)).setCell ⟨be,4,none⟩ (.slice (some ⟨W.heap.size,0,none⟩) 2 2)) (As x s++As y u) 27;rw[hs]at this;exact this) (k1.old (bA)) hn (k2.old (bA)) hm
  exact this
theorem Xg(f:Nat)(hT:Mu f)(ih:∀g,g≤f→Pe g):Pe (f+1):=by
 intro lv l w p tb hl h;have HPW:=Za h.lt;have HNE:Hid (w.heap.size≠p):=by show _≠_;have:=h.lt;omega
 have hb0:Below w.heap.size w (w.alloc (.cells #[.int .i64 0,.int .i64 0,.int .i64 0,.string ⟨#[]⟩,.slice none 0 0] 27)):=bA;have HF0:Hid (SFr p w (w.alloc (.cells #[.int .i64 0,.int .i64 0,.int .i64 0,.string ⟨#[]⟩,.slice none 0 0] 27))):=Zb hb0;have HR0:=Za (Zd w [.int .i64 0,.int .i64 0,.int .i64 0,.string ⟨#[]⟩,.slice none 0 0] 27);have HP0:=Za (h.old hb0);clear hb0;obtain⟨R,hR⟩:∃R,Aq (f+1) lv l=R:=⟨_,rfl⟩;rw[hR];have HRR:=Za hR;clear hR;have HC:Hid (∀w1,Ps w1 p tb l→_):=fun w1 h1=>hT l w1 p tb (by omega) h1
 have IH:=Za ih;have HL:=Za hl;clear hl hT ih;clear h;go_enter Tryz.func60,Tryz.ntmps60
 go_wp2_with fail
 refine(HC.out _ HP0.out).mono ?_;intro e w1 he
 cases hA:Bb f l with
 |error n=>
  rw[hA]at he;obtain⟨hf,rfl⟩:=he;have HF:=Za (HF0.out.trans hf);have e1:Aq (f+1) lv l= .error n:=by rw[Aq,hA]
  have e2:=HRR.out.symm.trans e1;subst e2;clear e1 hf;unfold Ay;go_wp2_with fail
  exact⟨rfl,HF.out,rfl⟩
 |ok q=>
  obtain⟨x,r2⟩:=q;rw[hA]at he;obtain⟨hf,v,rfl,hp,hv⟩:=he;obtain⟨s3,rfl,hx,hn⟩:=hv;obtain⟨a1,a2,rfl⟩:=hx.shape;have HX1:=Za (hx.up (show w.heap.size+1≤_ from HR0.out.lt));have HN:=Za hn;clear hx hn;have HF1:=Za (HF0.out.trans hf);have HP1:=Za hp;have HR1:=Za (HR0.out.sfr hf HNE.out);clear hf hp;have HA1:=Za hA;clear hA;have HXS1:=Za HX1.out.strong;go_upto_region 2 with(fail)
  obtain⟨W,hW⟩:∃W,w1.alloc (.cells #[.int .i64 x.kind,.int .i64 x.op,.int .i64 x.n,.string (Aa x.name),.slice a1 x.args.length a2] 27)=W:=⟨_,rfl⟩;rw[hW];have hba:Below w1.heap.size w1 W:=hW ▸ bA;have HF2:=Za (HF1.out.trans (Zb hba));have HP2:=Za (HP1.out.old hba);have HR2:=Za (HR1.out.old hba);have HX2:=Za (HX1.out.old hba);have HXS2:=Za (HXS1.out.old hba);have HE2:=Za (hW ▸ Zd w1 [.int .i64 x.kind,.int .i64 x.op,.int .i64 x.n,.string (Aa x.name),.slice a1 x.args.length a2] 27);have HEP:Hid (w1.heap.size≠p):=by show _≠_;have:=HP1.out.lt;omega
  clear hba hW;obtain⟨w2,hWW⟩:∃w2,w2=W:=⟨_,rfl⟩;subst hWW;have HB:Hid (∀l1 w1,Ps w1 p tb l1→_):=fun l1 w1 h1=>Ss p tb l1 lv w1 h1
  go_wp2_with fail
  refine(HB.out _ _ HP2.out).mono ?_;rintro e w3 ⟨rfl,hb⟩;have HF3:=Za (HF2.out.trans (Zb hb));have HP3:=Za (HP2.out.old hb);have HR3:=Za (HR2.out.old hb);have HE3:=Za (HE2.out.old hb);have HX3:=Za (HX2.out.old hb);have HXS3:=Za (HXS2.out.old hb);clear hb;have hfu:4*r2.length+5≤f:=by
   have h1:=(Db f).2.2.1 _ _ _ HA1.out;have h2:=HL.out;omega
  have hres:Gg f lv x r2=R:=by
   have:=HRR.out;rw[Aq,HA1.out]at this;exact this
  have hbe:w.heap.size<w1.heap.size:=HR1.out.lt;have hx0:Ag (fun b=>w.heap.size+1≤b∧b≠w1.heap.size) w3 x.args (.slice a1 x.args.length a2):=HXS3.out.mono (fun b hb=>⟨hb.1,by have:=hb.2;omega⟩);have HI0:Hid (My w p tb w1.heap.size lv f R f x (.slice a1 x.args.length a2) r2 w3):=⟨HF3.out,HP3.out,HR3.out,HE3.out,hx0,HN.out,hfu,Nat.le_refl _,hres⟩;have HBE:=Za hbe;have hp3:=HP3.out;clear hfu hres hx0 hbe HX1 HX2 HX3 HXS1 HXS2 HXS3 HF1 HF2 HF3 HF0 HP0 HP1 HP2 HP3 HR0 HR1 HR2 HR3 HE2 HE3 HA1 HL HRR HC HN;obtain⟨be,hbe⟩:∃be,w1.heap.size=be:=⟨_,rfl⟩;rw[hbe]at HI0 HBE HEP ⊢;clear hbe;go_wp2_with fail
  go_loopw [6] (fun s6 wr=> ∃(g:Nat) (x:Ex) (s:Value) (l:List Tk),s6= .int .i64 (Cb lv l)∧Hid (My w p tb be lv f R g x s l wr)) (fun _ wr=>Cn p wr)
  case atStart=>exact⟨f,x,_,r2,rfl,HI0⟩
  case round=>
   obtain⟨g,y,s,l2,rfl,HI⟩:=hrel;clear HI0 hp3;obtain⟨op,hop⟩:∃op,Cb lv l2=op:=⟨_,rfl⟩;rw[hop];obtain⟨sa,sc,rfl⟩:=HI.out.tree.shape;obtain⟨⟨e0,e1,e2,e3,e4⟩,ef0,ef1,ef2,ef3,ef4⟩:=Bf HI.out.e;have elt:=HI.out.e.lt
   by_cases h0:op=0
   ·subst h0
    have hR:Except.ok (y,l2)=R:=by
     have h1:=HI.out.res;have hg:=HI.out.fuel;obtain⟨g',rfl⟩:∃g',g=g'+1:=⟨g - 1,by omega⟩;rw[Gg,if_pos hop]at h1;exact h1
    subst hR;obtain⟨⟨x0,x1,x2,x3,x4⟩,xf0,xf1,xf2,xf3,xf4⟩:=Bf HI.out.own;have xlt:=HI.out.own.lt;clear hop;go_wp2_with fail
    obtain⟨⟨d0,d1,d2,d3,d4⟩,_⟩:=Bf (Jd HI.out.own (.int .i64 y.kind) (.int .i64 y.op) (.int .i64 y.n) (.string (Aa y.name)) (.slice sa y.args.length sc));exact bodyPost_ret (v:= .agg #[.int .i64 y.kind,.int .i64 y.op,.int .i64 y.n,.string (Aa y.name),.slice sa y.args.length sc]) (by simp [results,Tryz.results60,go_sem,d0,d1,d2,d3,d4]) rfl (Jt (x:=y) HPW.out HI.out.sfr HI.out.ps (HI.out.tree.mono (fun b hb=>hb.1)) HI.out.n _ _ _ _ _)
   ·obtain⟨t,r,rfl⟩:=HI.out.ps.ends.ne
    have hk5:t.kind≠5:=eM (by rw[hop];exact h0);have n0:(op !=0)=true:=by simp [h0]
    have n1:(op==0)=false:=by simp [h0]
    have hlr:=Tj op;have hw1:IntKind.i64.wrap (Aj op+1)=Aj op+1:=IntWalk.i64_in _ (by omega);obtain⟨g',hg'⟩:∃g',g=g'+1:=⟨g - 1,by have:=HI.out.fuel;omega⟩;subst hg';have HRES:Hid ((match Aq g' (Aj op+1) r with| .error e=> .error e| .ok (z,q)=>Gg g' lv (.mk 4 op 0 [] [y,z]) q)=R):=by
     have h1:=HI.out.res;rw[Gg,if_neg (by rw[hop];exact h0),hop,List.drop_one,List.tail_cons]at h1;exact h1
    have HCL:Hid (∀w1,Ps w1 p tb r→_):=fun w1 h1=>IH.out g' (by have:=HI.out.le;omega) (Aj op+1) r w1 p tb (by have:=HI.out.fuel;rw[Zf]at this;omega) h1
    have HLV:Hid (∀w1,_):=fun w1=>Gn op w1
    obtain⟨o,cap,h1⟩:=HI.out.ps;have HT:=Za (h1.take hk5);have c0:=h1.own.at 0 _ rfl;have z0:=h1.own.fz 0;have hpl:=h1.own.lt;have hcap:=h1.hcap;have hfit:=h1.fit;obtain⟨n,hn⟩:∃n,r.length=n:=⟨_,rfl⟩;rw[Zf,hn]at c0 hcap;rw[hn]at HT;have hr0:0<n:=by
     obtain⟨u,q,rfl⟩:=(h1.ends.tail hk5).ne;rw[←hn];simp
    have i1:(1:Int)≤(n:Int)+1:=by omega
    have i2:((n:Int)+1)≤(cap:Int):=by omega
    have i3:¬(cap:Int) - 1=0:=by omega
    have i4:¬cap - 1=0:=by omega
    have HOP:=Za hop;clear h1 hop hk5;clear e0 e1 e2 e3 e4 ef0 ef1 ef2 ef3 ef4;go_upto_region 6 with(fail)
    obtain⟨V,hV⟩:∃V,wr.setCell ⟨p,0,none⟩ (.slice (some ⟨tb,o+4,none⟩) n (cap - 1))=V:=⟨_,rfl⟩;rw[hV]at HT ⊢;have HEV:=Za (HI.out.e.sfr HT.out.2 HEP.out);have HOV:=Za (HI.out.own.sfr HT.out.2 HNE.out);have HXV:=Za (HI.out.tree.keep (HT.out.2.keepsD (fun b hb=>by have:=HPW.out;have:=hb.1;omega)));have HFV:=Za (HI.out.sfr.trans HT.out.2);have HPV:=Za HT.out.1;clear c0 z0 hpl hcap hfit hr0 i1 i2 i3 i4 hV HT;go_wp2_with fail
    refine(HLV.out _).mono ?_;rintro e w4 ⟨rfl,hb⟩;have HE4:=Za (HEV.out.old hb);have HO4:=Za (HOV.out.old hb);have HX4:=Za (HXV.out.old hb);have HF4:=Za (HFV.out.trans (Zb hb));have HP4:=Za (HPV.out.old hb);clear hb HEV HOV HXV HFV HPV;go_wp2_with fail
    refine(HCL.out _ HP4.out).mono ?_;intro e w5 he
    cases hA:Aq g' (Aj op+1) r with
    |error n=>
     rw[hA]at he;obtain⟨hf,rfl⟩:=he;have HF:=Za (HF4.out.trans hf);have e2:=HRES.out;rw[hA]at e2;dsimp only at e2;subst e2;clear hf;unfold Ay;go_wp2_with fail
     exact⟨rfl,HF.out,rfl⟩
    |ok q=>
     obtain⟨z,r3⟩:=q;rw[hA]at he;obtain⟨hf,v,rfl,hp,hv⟩:=he;obtain⟨s5,rfl,hx,hn5⟩:=hv;obtain⟨b1,b2,rfl⟩:=hx.shape;have HF5:=Za (HF4.out.trans hf);have HP5:=Za hp;have HE5:=Za (HE4.out.sfr hf HEP.out);have HO5:=Za (HO4.out.sfr hf HNE.out);have HX5:=Za (HX4.out.keep (hf.keepsD (fun b hb=>by have:=HPW.out;have:=hb.1;omega)));have HY5:=Za (hx.mono (D':=fun b=>w.heap.size+1≤b∧b≠be) (fun b hb=>by have h1:w4.heap.size≤b:=hb;have h2:=HE4.out.lt;have h3:=HBE.out;exact⟨by omega,by omega⟩));have HN5:=Za hn5;have e2:=HRES.out;rw[hA]at e2;dsimp only at e2;have HR5:=Za e2;have hfu:4*r3.length+5≤g':=by
      have h1:=(Db g').1 _ _ _ _ hA;have h2:=HI.out.fuel;rw[Zf]at h2;omega
     have hle:g'≤f:=by have:=HI.out.le;omega
     have HFU:=Za hfu;have HLE:=Za hle;have hlen:r3.length<r.length:=(Db g').1 _ _ _ _ hA;have HLEN:=Za hlen;clear hf hp hx hn5 e2 hfu hle hlen;go_upto_region 7 with(fail)
     have hba:Below w5.heap.size w5 (w5.alloc (.cells #[.int .i64 z.kind,.int .i64 z.op,.int .i64 z.n,.string (Aa z.name),.slice b1 z.args.length b2] 27)):=bA;have HE6:=Za (HE5.out.old hba);have HO6:=Za (HO5.out.old hba);have HX6:=Za (HX5.out.old hba);have HY6:=Za (HY5.out.old hba);have HF6:=Za (HF5.out.trans (Zb hba));have HP6:=Za (HP5.out.old hba);have HG6:=Za (Zd w5 [.int .i64 z.kind,.int .i64 z.op,.int .i64 z.n,.string (Aa z.name),.slice b1 z.args.length b2] 27);clear hba;generalize w5.alloc (.cells #[.int .i64 z.kind,.int .i64 z.op,.int .i64 z.n,.string (Aa z.name),.slice b1 z.args.length b2] 27)=W at*;obtain⟨⟨e0,e1,e2,e3,e4⟩,ef0,ef1,ef2,ef3,ef4⟩:=Bf HE6.out;obtain⟨⟨g0,g1,g2,g3,g4⟩,_⟩:=Bf HG6.out;have elt:=HE6.out.lt;have HI7:=Za (Wi (u:= .slice b1 z.args.length b2) HPW.out HBE.out HF6.out HP6.out HO6.out HE6.out HX6.out HI.out.n HY6.out HN5.out HFU.out HLE.out HR5.out);go_upto_region 4 with(fail)
     generalize (((((W.setCell ⟨be,0,none⟩ (.int .i64 4)).setCell ⟨be,1,none⟩ (.int .i64 op)).setCell ⟨be,2,none⟩ (.int .i64 0)).setCell ⟨be,3,none⟩ (.string ⟨#[]⟩)).setCell ⟨be,4,none⟩ (.slice (some ⟨W.heap.size,0,none⟩) 2 2)).alloc (.cells #[.int .i64 y.kind,.int .i64 y.op,.int .i64 y.n,.string (Aa y.name),.slice sa y.args.length sc,.int .i64 z.kind,.int .i64 z.op,.int .i64 z.n,.string (Aa z.name),.slice b1 z.args.length b2] 27)=W7 at*;go_wp2_with fail
     refine(HB.out _ _ HI7.out.ps).mono ?_;rintro e w8 ⟨rfl,hb⟩;have HI8:=Za (HI7.out.old hb);clear hb;go_wp2_with fail
     go_roundw
     case rel=>exact⟨g',.mk 4 op 0 [] [y,z],_,r3,rfl,HI8⟩
     case measure=>
      rw[HI8.out.ps.len,HI.out.ps.len,Zf];have:=HLEN.out;omega
def Hi:List Bool→Nat
 |[]=>0
 |b::l=>(if b then 0 else 1)+Hi l
theorem Ou:∀(l:List Bool) (i:Nat),l[i]? =some false→Hi (l.set i true)+1=Hi l
 |[],i,h=>by simp at h
 |b::l,0,h=>by simp at h;subst h;simp [Hi];omega
 |b::l,i+1,h=>by
  simp at h;have:=Ou l i h;simp only[List.set_cons_succ,Hi];omega
theorem Oo:∀(l:List Bool) (i:Nat),l[i]? =some false→0<Hi l
 |[],i,h=>by simp at h
 |b::l,0,h=>by simp at h;subst h;simp [Hi];omega
 |b::l,i+1,h=>by
  simp at h;have:=Oo l i h;simp only[Hi];omega
theorem Rf {md:Region.Mode}{ops:Array Oper}{listed:Array Bool}{i:Nat}(h:i∈Region.ready md ops listed):i<ops.size∧listed.toList[i]? =some false∧∀o,ops[i]? =some o→∀e,e∈o.after→Region.binds md e=true→listed.getD e.on false=true:=by
 unfold Region.ready at h;rw[List.mem_filter]at h;obtain⟨h1,h2⟩:=h;simp only[Bool.and_eq_true,Bool.not_eq_true']at h2;refine⟨List.mem_range.1 h1,?_,fun o ho e he hb=> ?_⟩
 ·have h3:=h2.1
  rw[Array.getD_eq_getD_getElem?]at h3;rw[Array.getElem?_toList]
  cases hl:listed[i]? with
  |none=>rw[hl]at h3;simp at h3
  |some b=>rw[hl]at h3;simp at h3;rw[h3]
 ·have h3:=h2.2
  rw[ho]at h3;simp only[Option.map_some,Option.getD_some]at h3;have h4:=Array.all_eq_true_iff_forall_mem.1 h3 e he;simpa [hb]using h4
theorem Yr {P:Program}{ops:Array Oper}{Q:Exit→Act→World→Prop}(I:Array Bool→Act→World→Prop)
  (step:∀listed a w i,I listed a w→i<ops.size→listed.toList[i]? =some false→(∀o,ops[i]? =some o→∀e,e∈o.after→Region.binds .any e=true→listed.getD e.on false=true)→wpOp P ops Q i (I (listed.setIfInBounds i true)) a w)
  (fin:∀listed a w,I listed a w→Region.ready .any ops listed=[]→Q .normal a w):∀(fuel:Nat) (listed:Array Bool) (a:Act) (w:World),Hi listed.toList≤fuel→I listed a w→wpAny P .any ops Q fuel listed a w
 |0,listed,a,w,hu,hI=>by
  have hr:Region.ready .any ops listed=[]:=by
   cases hl:Region.ready .any ops listed with
   |nil=>rfl
   |cons i l=>
    have:=Oo _ _ (Rf (show i∈Region.ready .any ops listed by rw[hl];exact List.mem_cons_self)).2.1;omega
  exact⟨hr,fin _ _ _ hI hr⟩
 |fuel+1,listed,a,w,hu,hI=>by
  refine⟨fin _ _ _ hI,fun i hi=> ?_⟩;obtain⟨h1,h2,h3⟩:=Rf hi;refine wpOp_mono (fun a' w' hI'=>Yr I step fin fuel _ a' w' ?_ hI') (step listed a w i hI h1 h2 h3);have:=Ou _ _ h2;rw[Array.toList_setIfInBounds];omega
theorem Pp:∀n,Hi (List.replicate n false)=n
 |0=>rfl
 |n+1=>by rw[List.replicate_succ,Hi,Pp n];simp;omega
theorem Xy {P:Program}{id:Nat}{ops:Array Oper}{Q:Exit→Act→World→Prop}{a:Act}{w:World}(hm:P.follows .mixedOrders=true)(I:Array Bool→Act→World→Prop)(h0:I (Array.replicate ops.size false) a w.drew)
  (step:∀listed a w i,I listed a w→i<ops.size→listed.toList[i]? =some false→(∀o,ops[i]? =some o→∀e,e∈o.after→Region.binds .any e=true→listed.getD e.on false=true)→wpOp P ops Q i (I (listed.setIfInBounds i true)) a w)
  (fin:∀listed a w,I listed a w→Region.ready .any ops listed=[]→Q .normal a w):(Code.region id ops true).wp P Q a w:=
 wp_region_any hm (Yr I step fin _ _ _ _ (by rw[Array.toList_replicate,Pp];exact Nat.le_refl _) h0)
def upd(L:Nat→Bool)(i:Nat):Nat→Bool:=fun j=>if j=i then true else L j
theorem Bh(L:Nat→Bool)(i:Nat):upd L i i=true:=if_pos rfl
theorem Bd(L:Nat→Bool){i j:Nat}(h:j≠i):upd L i j=L j:=if_neg h
def Gr(listed:Array Bool):Nat→Bool:=fun j=>listed.getD j false
theorem Xd(listed:Array Bool)(i:Nat)(h:i<listed.size):Gr (listed.setIfInBounds i true)=upd (Gr listed) i:=by
 funext j
 unfold Gr upd
 by_cases hj:j=i
 ·subst hj;simp [Array.getD_eq_getD_getElem?,h]
 ·have:¬i=j:=fun e=>hj e.symm
  simp [Array.getD_eq_getD_getElem?,Array.getElem?_setIfInBounds,hj,this]
def lowOk(ops:Array Oper):Bool:=(List.range ops.size).all fun i=>((ops[i]?).map (fun o=>o.after.all fun e=> !(Region.binds .any e)||decide (e.on<i))).getD true
theorem dH {ops:Array Oper}{listed:Array Bool}(hlow:lowOk ops=true)(hs:listed.size=ops.size)(h:Region.ready .any ops listed=[]):∀i,i<ops.size→Gr listed i=true:=by
 intro i
 induction i using Nat.strongRecOn with
 |_ i ih=>
  intro hi
  cases hd:Gr listed i with
  |true=>rfl
  |false=>
   exfalso
   have hm:i∈Region.ready .any ops listed:=by
    unfold Region.ready;rw[List.mem_filter];refine⟨List.mem_range.2 hi,?_⟩;rw[Bool.and_eq_true];constructor
    ·have hli:i<listed.size:=by omega
     unfold Gr at hd;simp only[Array.getD_eq_getD_getElem?,Array.getElem?_eq_getElem hli,Option.getD_some]at hd ⊢;rw[hd];rfl
    ·have ho:ops[i]? =some ops[i]:=Array.getElem?_eq_getElem hi
     rw[ho];simp only[Option.map_some,Option.getD_some];rw[Array.all_eq_true_iff_forall_mem];intro e he;have h1:=List.all_eq_true.1 hlow i (List.mem_range.2 hi);rw[ho]at h1;simp only[Option.map_some,Option.getD_some]at h1;have h2:=Array.all_eq_true_iff_forall_mem.1 h1 e he
     cases hb:Region.binds .any e with
     |false=>rfl
     |true=>
      rw[hb]at h2;have h4:e.on<i:=by simpa using h2
      have h3:=ih e.on h4 (by omega);unfold Gr at h3;rw[h3,Bool.or_true]
   rw[h]at hm;cases hm
theorem Fc {P:Program}{id:Nat}{ops:Array Oper}{Q:Exit→Act→World→Prop}{a:Act}{w:World}(hm:P.follows .mixedOrders=true)(hlow:lowOk ops=true)(I:(Nat→Bool)→Act→World→Prop)(h0:I (fun _=>false) a w.drew)
  (step:∀L a w i,I L a w→i<ops.size→L i=false→(∀o,ops[i]? =some o→∀e,e∈o.after→Region.binds .any e=true→L e.on=true)→wpOp P ops Q i (I (upd L i)) a w)
  (fin:∀L a w,I L a w→(∀i,i<ops.size→L i=true)→Q .normal a w):(Code.region id ops true).wp P Q a w:=by
 refine Xy hm (fun listed a w=>listed.size=ops.size∧I (Gr listed) a w) ⟨by simp,?_⟩ ?_ ?_
 ·have:Gr (Array.replicate ops.size false)=fun _=>false:=by
   funext j;unfold Gr
   rw[Array.getD_eq_getD_getElem?,Array.getElem?_replicate];split<;>rfl
  rw[this];exact h0
 ·intro listed a w i hI hi hl hd
  have hli:Gr listed i=false:=by
   unfold Gr;rw[Array.getElem?_toList]at hl;rw[Array.getD_eq_getD_getElem?,hl];rfl
  refine wpOp_mono (fun a' w' h=>⟨by rw[Array.size_setIfInBounds];exact hI.1,?_⟩) (step (Gr listed) a w i hI.2 hi hli hd);rw[Xd _ _ (by rw[hI.1];exact hi)];exact h
 ·intro listed a w hI hr
  exact fin _ _ _ hI.2 (dH hlow hI.1 hr)
theorem Bg {P:Program}{ops:Array Oper}{Q:Exit→Act→World→Prop}{i:Nat}{K:Act→World→Prop}{a:Act}{w:World}(o:Oper)(ho:ops[i]? =some o)(hg:o.guard=none)(h:∀K':Act→World→Prop,(∀a w,K a w→K' a w)→o.wp P a w K' Q):wpOp P ops Q i K a w:=by
 unfold wpOp;rw[ho];simp only[Region.wanted,hg,if_true];exact .inl (h K (fun _ _ q=>q))
theorem kb {L:Nat→Bool}{j k:Nat}{b:Bool}(h:upd L k j=b)(hn:j≠k:=by decide):L j=b:=by rwa[Bd L hn]at h
theorem kc {L:Nat→Bool}{j k:Nat}{P:Prop}(h:L j=true→P)(hn:j≠k:=by decide):upd L k j=true→P:=fun e=>h (kb e hn)
theorem kq {L:Nat→Bool}{j i k:Nat}(h:L j=true→L i=true)(hn:j≠k:=by decide)(hm:i≠k:=by decide):upd L k j=true→upd L k i=true:=fun e=>by rw[Bd L hm];exact h (kb e hn)
theorem kn {L:Nat→Bool}{j k:Nat}{P:Prop}(h:L j=true→L k=true)(hl:L k=false)(hn:j≠k:=by decide):upd L k j=true→P:=fun e=>by
 have:=h (kb e hn);rw[hl]at this;cases this
theorem kl {L:Nat→Bool}{j k:Nat}{P:Prop}(h:L j=false)(hn:j≠k:=by decide):upd L k j=true→P:=fun e=>by
 have:=kb e hn;rw[h]at this;cases this
theorem kf {L:Nat→Bool}{n k:Nat}(h:L n=true→∀j,j<n→L j=true)(hl:L k=false)(hk:k<n:=by decide):L n=false:=by
 cases e:L n with
 |false=>rfl
 |true=>have:=h e k hk;rw[hl]at this;cases this
theorem ks {L:Nat→Bool}{k:Nat}{P:Prop}:upd L k k=false→P:=fun e=>by rw[Bh]at e;cases e
theorem kd {L:Nat→Bool}{j i k:Nat}(h:L i=true)(hm:i≠k:=by decide):upd L k j=true→upd L k i=true:=fun _=>by rw[Bd L hm];exact h
def Hj(n:Nat):Code→Option Code
 | .region k o b=>if k==n then some (.region k o b)else none
 | .loop c=>Hj n c
 | .seq a b=>match Hj n a with
  |some c=>some c
  |none=>Hj n b
 | .block _ c=>Hj n c
 | .scope c=>Hj n c
 | .cond _ a b=>match Hj n a with
  |some c=>some c
  |none=>Hj n b
 |_=>none
theorem infoSt:(Tryz.prog.info? 60).map (fun i=>(i.zero,i.size,i.bytes))=some (some (.agg #[.int .i64 0,.string ⟨#[]⟩,.slice none 0 0,.slice none 0 0,.slice none 0 0]),5,96):=by kernel_rfl
theorem Bn.strong {D:Nat→Prop}{w:World}{l:List St}{v:Value}(h:Bn D w l v):Bn (fun b=>D b∧b<w.heap.size) w l v:=by
 induction h with
 |mk l a cap b off sa st se hcap hfit ha h0 h1 h2 h3 h4 ea _ _ ih1 ih2=>
  refine .mk l a cap b off sa st se hcap hfit ?_ h0 h1 h2 h3 h4 (fun i hi=>(ea i hi).strong) ih1 ih2;rcases ha with ha|⟨ha,hD⟩
  ·exact .inl ha
  ·rcases Nat.eq_zero_or_pos l.length with hz|hz
   ·exact .inl hz
   ·exact .inr ⟨ha,hD,Zj _ _ (h0 0 hz)⟩
structure StV where
 x:St
 a:Value
 t:Value
 e:Value
def Gj(ps:List StV):List Value:=ps.flatMap fun p=>Ez p.x p.a p.t p.e
theorem Ra:∀(ps:List StV) (i q:Nat) (p:StV),ps[i]? =some p→q<5→(Gj ps)[i*5+q]? =(Ez p.x p.a p.t p.e)[q]?
 |[],i,q,p,h,_=>by simp at h
 |x::ps,0,q,p,h,hq=>by
  simp at h;subst h;unfold Gj;rw[List.flatMap_cons,List.getElem?_append_left (by simp [Ez];omega)];simp
 |x::ps,i+1,q,p,h,hq=>by
  simp at h;have:=Ra ps i q p h hq;unfold Gj at*;rw[List.flatMap_cons,List.getElem?_append_right (by simp [Ez];omega)];rw[←this];congr 1;simp [Ez];omega
theorem Wg(a c:List StV):Gj (a++c)=Gj a++Gj c:=by unfold Gj;rw[List.flatMap_append]
def Dr(D:Nat→Prop)(w:World)(p:StV):Prop:=Ag D w p.x.args p.a∧Bn D w p.x.thn p.t∧Bn D w p.x.els p.e
theorem Dr.keep {D:Nat→Prop}{w w':World}(hk:Cp D w w'){p:StV}(h:Dr D w p):Dr D w' p:=⟨h.1.keep hk,h.2.1.keep hk,h.2.2.keep hk⟩
theorem Dr.mono {D D':Nat→Prop}{w:World}(hD:∀b,D b→D' b){p:StV}(h:Dr D w p):Dr D' w p:=⟨h.1.mono hD,h.2.1.mono hD,h.2.2.mono hD⟩
theorem Dr.strong {D:Nat→Prop}{w:World}{p:StV}(h:Dr D w p):Dr (fun b=>D b∧b<w.heap.size) w p:=⟨h.1.strong,h.2.1.strong,h.2.2.strong⟩
def Dp(w:World)(base:Nat)(ps:List StV)(v:Value):Prop:=
 w.ownsRow base 60 5 v ps.length (Gj ps)∧∀p,p∈ps→Dr (fun b=>base≤b∧v.ownBlock≠some b) w p
theorem Dp.zero(w:World)(base:Nat):Dp w base [] (.slice none 0 0):=⟨⟨rfl,.inl ⟨rfl,rfl⟩⟩,fun p hp=>by cases hp⟩
theorem Dp.keep {w w':World}{base:Nat}{ps:List StV}{v:Value}(h:Dp w base ps v)(hk:∀k,k<w.heap.size→base≤k→w'.heap[k]? =w.heap[k]?):Dp w' base ps v:=by
 refine⟨⟨h.1.1,?_⟩,fun p hp=>(h.2 p hp).keep (fun b off x hb hx=>by rw[World.cell?_of_block (w:=w) (hk b (Zj _ _ hx) hb.1)];exact hx)⟩;rcases h.1.2 with hn|⟨g,cap,cur,rfl,hb,hg,r⟩
 ·exact .inl hn
 ·refine .inr ⟨g,cap,cur,rfl,hb,?_,r⟩
  rw[hk g (by
   rcases Nat.lt_or_ge g w.heap.size with h'|h'
   ·exact h'
   ·simp [Array.getElem?_eq_none h']at hg) hb]
  exact hg
theorem Dp.sfr {s:Nat}{w w':World}{base:Nat}{ps:List StV}{v:Value}(h:Dp w base ps v)(hf:SFr s w w')(hs:s<base):Dp w' base ps v:=h.keep (fun k h1 h2=>hf.block k h1 (by omega))
theorem Bi.sfr {s:Nat}{w w':World}{base:Nat}{ps:List (Ex ×Value)}{v:Value}(h:Bi w base ps v)(hf:SFr s w w')(hs:s<base):Bi w' base ps v:=h.keep (fun k h1 h2=>hf.block k h1 (by omega))
theorem Bi.below {w w':World}{base:Nat}{ps:List (Ex ×Value)}{v:Value}(h:Bi w base ps v)(hb:Below w.heap.size w w'):Bi w' base ps v:=h.keep (fun k h1 h2=>hb.block k h1)
theorem Bi.other {w:World}{base:Nat}{ps:List (Ex ×Value)}{v:Value}(h:Bi w base ps v){k:Nat}(hk:k<base)(i:Nat)(u:Value):Bi (w.setCell ⟨k,i,none⟩ u) base ps v:=h.keep (fun b h1 h2=>Ze _ _ _ _ (by show b≠k;omega))
theorem Dp.shape {w:World}{base:Nat}{ps:List StV}{v:Value}(h:Dp w base ps v):∃a cap,v= .slice a ps.length cap:=by
 rcases h.1.2 with⟨rfl,h0⟩|⟨g,cap,cur,rfl,_⟩
 ·exact⟨none,0,by rw[h0]⟩
 ·exact⟨_,_,rfl⟩
theorem Dp.ge {w:World}{base:Nat}{ps:List StV}{v:Value}(h:Dp w base ps v){k:Nat}(hk:v.ownBlock=some k):base≤k∧k<w.heap.size:=h.1.lt k hk
theorem Dp.sts {w:World}{base:Nat}{ps:List StV}{v:Value}(h:Dp w base ps v)(hf:Fa ps.length):Bn (base≤ ·) w (ps.map (·.x)) v:=by
 have hl:(ps.map (·.x)).length=ps.length:=List.length_map _;rcases h.1.2 with⟨rfl,h0⟩|⟨g,cap,cur,rfl,hb,hg,hc,hm,hs,ht⟩
 ·have:ps=[]:=List.length_eq_zero_iff.1 h0
  subst this;exact Bn.zero
 ·have cell:∀i q p u,ps[i]? =some p→q<5→(Ez p.x p.a p.t p.e)[q]? =some u→w.cell? ⟨g,0+i*5+q,none⟩=some u:=by
   intro i q p u hp hq hu;have h1:=h.1.cells (g:=g) rfl (i*5+q) u (by rw[Ra ps i q p hp hq];exact hu);have h2:(⟨g,0,none⟩:Addr).add (i*5+q)=⟨g,0+i*5+q,none⟩:=by unfold Addr.add;split<;>simp_all<;>omega
   rwa[h2]at h1
  have gp:∀i,i<ps.length→∃p,ps[i]? =some p∧Jq (ps.map (·.x)) i=p.x∧p∈ps:=by
   intro i hi;refine⟨ps[i],Zk hi,?_,List.getElem_mem hi⟩;simp [Jq,Zk hi]
  let z:StV:=⟨St.nil,undef,undef,undef⟩
  have e:=Bn.mk (D:=(base≤ ·)) (w:=w) (ps.map (·.x)) (some ⟨g,0,none⟩) cap g 0 (fun i=>(ps.getD i z).a) (fun i=>(ps.getD i z).t) (fun i=>(ps.getD i z).e) (by rw[hl];exact hc) (by rw[hl];exact hf) (.inr ⟨rfl,hb⟩);rw[hl]at e;have sv:∀i p,ps[i]? =some p→ps.getD i z=p:=fun i p hp=>by rw[List.getD_eq_getElem?_getD,hp];rfl
  refine e (fun i hi=> ?_) (fun i hi=> ?_) (fun i hi=> ?_) (fun i hi=> ?_) (fun i hi=> ?_) (fun i hi=> ?_) (fun i hi=> ?_) (fun i hi=> ?_)
  all_goals
   obtain⟨p,hp,hx,hm⟩:=gp i hi
   try rw[hx]
   try rw[sv i p hp]
  ·exact cell i 0 p _ hp (by omega) rfl
  ·exact cell i 1 p _ hp (by omega) rfl
  ·exact cell i 2 p _ hp (by omega) rfl
  ·exact cell i 3 p _ hp (by omega) rfl
  ·exact cell i 4 p _ hp (by omega) rfl
  ·exact(h.2 p hm).1.mono (fun b hb=>hb.1)
  ·exact(h.2 p hm).2.1.mono (fun b hb=>hb.1)
  ·exact(h.2 p hm).2.2.mono (fun b hb=>hb.1)
theorem Dp.snoc {w w':World}{base:Nat}{ps:List StV}{v:Value}(h:Dp w base ps v)(p:StV)(hx:Dr (fun b=>base≤b∧v.ownBlock≠some b) w p){g cap:Nat}
  (hown:w'.ownsRow base 60 5 (.slice (some ⟨g,0,none⟩) (ps.length+1) cap) (ps.length+1) (Gj ps++Ez p.x p.a p.t p.e)) (hgrow:w.grownBy w' v.ownBlock) (hg:v.ownBlock=some g∨g=w.heap.size):
  Dp w' base (ps++[p]) (.slice (some ⟨g,0,none⟩) (ps.length+1) cap):=by
 have hl:(ps++[p]).length=ps.length+1:=by simp
 have hfl:Gj (ps++[p])=Gj ps++Ez p.x p.a p.t p.e:=by rw[Wg];simp [Gj]
 have keep:∀q:StV,Dr (fun b=>base≤b∧v.ownBlock≠some b) w q→Dr (fun b=>base≤b∧(Value.slice (some ⟨g,0,none⟩) (ps.length+1) cap).ownBlock≠some b) w' q:=by
  intro q hu;have h1:Dr (fun b=>(base≤b∧v.ownBlock≠some b)∧b<w.heap.size) w q:=hu.strong;have h2:Dr (fun b=>(base≤b∧v.ownBlock≠some b)∧b<w.heap.size) w' q:=h1.keep (fun b off y hb hy=>hgrow.cell hy (fun e=>hb.1.2 e.symm));refine h2.mono (fun b hb=>⟨hb.1.1,?_⟩);show some g≠some b
  intro e
  cases e
  rcases hg with hg|hg
  ·exact hb.1.2 hg
  ·omega
 refine⟨by rw[hl,hfl];exact hown,fun q hq=> ?_⟩;rcases List.mem_append.1 hq with hq|hq
 ·exact keep _ (h.2 q hq)
 ·rw[List.mem_singleton.1 hq];exact keep _ hx
theorem st_one(x:St)(a b c:Option Addr)(n m k i j l:Nat):∀u,u∈Ez x (.slice a n i) (.slice b m j) (.slice c k l)→u.oneCell'=true:=by
 intro u hu;simp only[Ez,List.mem_cons,List.not_mem_nil,or_false]at hu;rcases hu with rfl|rfl|rfl|rfl|rfl<;>rfl
structure AFr (p ob base:Nat)(w w':World):Prop where
 os:w'.os=w.os
 tape:w'.tape=w.tape
 output:w'.output=w.output
 size:w.heap.size≤w'.heap.size
 block:∀k,k<w.heap.size→k<base→k≠p→k≠ob→w'.heap[k]? =w.heap[k]?
section
variable {p ob base:Nat} {u v w:World}
theorem AFr.refl(p ob base:Nat)(w:World):AFr p ob base w w:=⟨rfl,rfl,rfl,Nat.le_refl _,fun _ _ _ _ _=>rfl⟩
theorem AFr.trans(h:AFr p ob base u v)(k:AFr p ob base v w):AFr p ob base u w:=
 ⟨k.os.trans h.os,k.tape.trans h.tape,k.output.trans h.output,Nat.le_trans h.size k.size,fun i hi hb h1 h2=>(k.block i (Nat.lt_of_lt_of_le hi h.size) hb h1 h2).trans (h.block i hi hb h1 h2)⟩
theorem AFr.of_sfr(h:SFr p v w):AFr p ob base v w:=⟨h.os,h.tape,h.output,h.size,fun k hk _ h1 _=>h.block k hk h1⟩
theorem AFr.of_below(h:Below v.heap.size v w):AFr p ob base v w:=AFr.of_sfr (Zb h)
theorem AFr.old(h:AFr p ob base u v)(hb:Below v.heap.size v w):AFr p ob base u w:=h.trans (AFr.of_below hb)
theorem AFr.set(h:AFr p ob base u v)(i:Nat)(x:Value):AFr p ob base u (v.setCell ⟨ob,i,none⟩ x):=
 ⟨h.os,h.tape,h.output,by simpa [World.setCell]using h.size,fun k hk hb h1 h2=>(Ze _ _ _ _ (show k≠ob from h2)).trans (h.block k hk hb h1 h2)⟩
theorem AFr.high(h:AFr p ob base u v){g:Nat}(hg:base≤g)(i:Nat)(x:Value):AFr p ob base u (v.setCell ⟨g,i,none⟩ x):=
 ⟨h.os,h.tape,h.output,by simpa [World.setCell]using h.size,fun k hk hb h1 h2=>(Ze _ _ _ _ (show k≠g by omega)).trans (h.block k hk hb h1 h2)⟩
theorem AFr.grown(h:AFr p ob base u v){row:Option Nat}(hg:v.grownBy w row)(hr:∀k,row=some k→base≤k):AFr p ob base u w:=
 ⟨hg.os.trans h.os,hg.tape.trans h.tape,hg.output.trans h.output,Nat.le_trans h.size hg.size,fun k hk hb h1 h2=>(hg.block k (Nat.lt_of_lt_of_le hk h.size) (fun e=>by have:=hr k e.symm;omega)).trans (h.block k hk hb h1 h2)⟩
theorem Ac.afr {b:Nat}{cs:List Value}{T:TypeId}(h:Ac v b cs T)(hf:AFr p ob base v w)(h1:b<base)(h2:b≠p)(h3:b≠ob):Ac w b cs T:=(hf.block b h.lt h1 h2 h3).trans h
theorem Ac.grew {b:Nat}{cs:List Value}{T:TypeId}(h:Ac v b cs T){row:Option Nat}(hg:v.grownBy w row)(hr:row≠some b):Ac w b cs T:=(hg.block b h.lt (fun e=>hr e.symm)).trans h
end
theorem Ps.grown {w w':World}{p tb:Nat}{l:List Tk}(h:Ps w p tb l){row:Option Nat}(hg:w.grownBy w' row){base:Nat}(hr:∀k,row=some k→base≤k)(hp:p<base):Ps w' p tb l:=by
 obtain⟨o,cap,h⟩:=h;have hl:=h.lt;refine⟨o,cap,h.own.grew hg (fun e=>by have:=hr p e;omega),h.row.keep (fun b off x hb hx=> ?_),h.hcap,h.fit,h.lt,h.ends,h.nums⟩;have hb:b=tb:=hb;rw[World.cell?_of_block (w:=w) (hg.block b (Zj _ _ hx) (fun e=>by have:=hr b e.symm;omega))];exact hx
theorem Bi.sfrB {p:Nat}{w w':World}{base:Nat}{ps:List (Ex ×Value)}{v:Value}(h:Bi w base ps v)(hf:SFr p w w')(hp:p<base):Bi w' base ps v:=h.keep (fun k h1 h2=>hf.block k h1 (by omega))
theorem Bi.old {w w':World}{base:Nat}{ps:List (Ex ×Value)}{v:Value}(h:Bi w base ps v)(hb:Below w.heap.size w w'):Bi w' base ps v:=h.keep (fun k h1 _=>hb.block k h1)
theorem Bi.low {w:World}{base:Nat}{ps:List (Ex ×Value)}{v:Value}(h:Bi w base ps v){k:Nat}(hk:k<base)(i:Nat)(x:Value):Bi (w.setCell ⟨k,i,none⟩ x) base ps v:=h.keep (fun j _ h2=>Ze _ _ _ _ (show j≠k by omega))
theorem Bi.rowGe {w:World}{base:Nat}{ps:List (Ex ×Value)}{v:Value}(h:Bi w base ps v):∀k,v.ownBlock=some k→base≤k:=fun k e=>(World.ownsRow.lt h.1 k e).1
theorem Bi.yshape {w:World}{base:Nat}{ps:List (Ex ×Value)}{v:Value}(h:Bi w base ps v):∃a cap,v= .slice a ps.length cap:=by
 rcases h.1.2 with⟨rfl,h0⟩|⟨g,cap,cur,rfl,_⟩
 ·exact⟨none,0,by rw[h0]⟩
 ·exact⟨_,_,rfl⟩
def exZ:Ex:= .mk 0 0 0 [] []
theorem Bi.setLast {w:World}{base g cap:Nat}{ps:List (Ex ×Value)}{zv:Value}{z:Ex}(h:Bi w base (ps++[(z,zv)]) (.slice (some ⟨g,0,none⟩) (ps.length+1) cap)){x:Ex}{s:Value}(hx:Ag (fun b=>base≤b∧b≠g) w x.args s)(hn:I64 x.n):
  Bi (((((w.setCell ⟨g,ps.length*5,none⟩ (.int .i64 x.kind)).setCell ⟨g,ps.length*5+1,none⟩ (.int .i64 x.op)).setCell ⟨g,ps.length*5+2,none⟩ (.int .i64 x.n)).setCell ⟨g,ps.length*5+3,none⟩ (.string (Aa x.name))).setCell ⟨g,ps.length*5+4,none⟩ s) base (ps++[(x,s)]) (.slice (some ⟨g,0,none⟩) (ps.length+1) cap):=by
 have hl:(ps++[(z,zv)]).length=ps.length+1:=by simp
 have h0:=h.1;rw[hl]at h0;have h1:=((((h0.stored (ps.length*5) (.int .i64 x.kind)).1.stored (ps.length*5+1) (.int .i64 x.op)).1.stored (ps.length*5+2) (.int .i64 x.n)).1.stored (ps.length*5+3) (.string (Aa x.name))).1.stored (ps.length*5+4) s;have hf:(((((Dv (ps++[(z,zv)])).set (ps.length*5) (.int .i64 x.kind)).set (ps.length*5+1) (.int .i64 x.op)).set (ps.length*5+2) (.int .i64 x.n)).set (ps.length*5+3) (.string (Aa x.name))).set (ps.length*5+4) s=Dv (ps++[(x,s)]):=by
  rw[Kr,Kr];have hq:=Kp ps;rw[←hq];simp [Dv,As,List.set_append]
 rw[hf]at h1;have hk:Cp (fun b=>base≤b∧b≠g) w (((((w.setCell ⟨g,ps.length*5,none⟩ (.int .i64 x.kind)).setCell ⟨g,ps.length*5+1,none⟩ (.int .i64 x.op)).setCell ⟨g,ps.length*5+2,none⟩ (.int .i64 x.n)).setCell ⟨g,ps.length*5+3,none⟩ (.string (Aa x.name))).setCell ⟨g,ps.length*5+4,none⟩ s):=by
  have hng:¬(base≤g∧g≠g):=fun e=>e.2 rfl
  exact((((Am w hng _ _).trans (Am _ hng _ _)).trans (Am _ hng _ _)).trans (Am _ hng _ _)).trans (Am _ hng _ _)
 have hl2:(ps++[(x,s)]).length=ps.length+1:=by simp
 refine⟨by rw[hl2];exact h1.1,fun q hq=> ?_⟩;have ob:∀b,(base≤b∧(Value.slice (some ⟨g,0,none⟩) (ps.length+1) cap).ownBlock≠some b)→base≤b∧b≠g:=fun b hb=>⟨hb.1,fun e=>hb.2 (by rw[e];rfl)⟩
 have bo:∀b,base≤b∧b≠g→(base≤b∧(Value.slice (some ⟨g,0,none⟩) (ps.length+1) cap).ownBlock≠some b):=fun b hb=>⟨hb.1,fun e=>hb.2 (by injection e with e;exact e.symm)⟩
 rcases List.mem_append.1 hq with hq|hq
 ·have:=h.2 q (List.mem_append.2 (.inl hq))
  exact⟨((this.1.mono ob).keep hk).mono bo,this.2⟩
 ·rw[List.mem_singleton.1 hq]
  exact⟨(hx.keep hk).mono bo,hn⟩
section
variable (w:World) {o:Oper} {a:Act} {K:Act→World→Prop} {Q:Exit→Act→World→Prop}
theorem aP(s x:Operand)(ho:o.op= .call {callee:= .builtin .append,args:= #[s,x],argTypes:= #[25,25]})
  (base:Nat) (ps:List (Ex ×Value)) (v:Value) (hs:a.eval s=v) (hown:Bi w base ps v) (b c:Nat) (hx:a.eval x= .slice (some ⟨b,0,none⟩) 1 c) (hnew:Ac w b (As exZ (.slice none 0 0)) 27)
  (hlen:ps.length≤1000000) (hbase:base≤w.heap.size)
  (h:∀g cap w',Bi w' base (ps++[(exZ,.slice none 0 0)]) (.slice (some ⟨g,0,none⟩) (ps.length+1) cap)→w.grownBy w' v.ownBlock→(v.ownBlock=some g∨g=w.heap.size)→g<w'.heap.size→K (a.put o.dst (.slice (some ⟨g,0,none⟩) (ps.length+1) cap)) w'):o.wp Zc a w K Q:=by
 obtain⟨i0,hi,hz0,hz1,hz2⟩:=info_parts dA;refine wp_append_lies (P:=Zc) w s x _ ho base 27 i0 _ 5 _ Tryz.underlying25 hi hz0 hz1 hz2 rfl (by decide) v ps.length (Dv ps) hs hown.1 ⟨b,0,none⟩ 1 c (As exZ (.slice none 0 0)) hx rfl ?_ ?_ (by decide) (by unfold maxLen;omega) (by omega) hbase _ rfl ?_
 ·intro j u hu
  have h2:(⟨b,0,none⟩:Addr).add j=⟨b,j,none⟩:=by unfold Addr.add;split<;>simp_all
  rw[h2];exact hnew.at j u hu
 ·intro u hu
  simp only[As,List.mem_cons,List.not_mem_nil,or_false]at hu;rcases hu with rfl|rfl|rfl|rfl|rfl<;>rfl
 ·intro g cap w' hown' hg hat hlt
  exact h g cap w' (hown.snoc exZ (.slice none 0 0) Ag.zero Dw hown' hg hat) hg hat hlt
end
structure VY1 (p tb cb ob base:Nat)(va:Option Addr)(vc:Nat)(ps:List (Ex ×Value))(l r2:List Tk)(x:Ex)(W:World)(L:Nat→Bool)(sa:Option Addr)(sc:Nat)(nb:Nat)(gn:Nat)(cn:Nat)(z2 z3 z4 z5 z6 z7 z8:Value)(wx:World):Prop where
 p5_0:L 5=true→L 0=true
 p5_2:L 5=true→L 2=true
 p5_4:L 5=true→L 4=true
 p6_5:L 6=true→L 5=true
 p7_2:L 7=true→L 2=true
 p7_4:L 7=true→L 4=true
 p7_5:L 7=true→L 5=true
 p8_2:L 8=true→L 2=true
 p8_4:L 8=true→L 4=true
 p8_5:L 8=true→L 5=true
 c0:L 0=true→z2= .slice va ps.length vc
 c1:L 1=true→z3= .pointer (some ⟨p,0,none⟩)
 c2:L 2=true→z4=exV x (.slice sa x.args.length sc)
 c3:L 3=true→z5= .int .i64 ps.length
 c4:L 4=true→z6= .slice (some ⟨nb,0,none⟩) 1 1
 c5:L 5=true→z7= .slice (some ⟨gn,0,none⟩) (ps.length+1) cn
 c6:L 6=true→z8= .pointer (some ⟨gn,ps.length*5,none⟩)
 fr:AFr p ob base W wx
 pa:L 2=false→Ps wx p tb l
 pb:L 2=true→Ps wx p tb r2
 c:Ac wx cb [.pointer (some ⟨p,0,none⟩)] 64
 oa:L 8=false→Ac wx ob [.slice va ps.length vc] 25
 ob:L 8=true→Ac wx ob [.slice (some ⟨gn,0,none⟩) (ps.length+1) cn] 25
 ra:L 5=false→Bi wx base ps (.slice va ps.length vc)
 g4:L 4=true→L 5=false→Ac wx nb (As exZ (.slice none 0 0)) 27∧base≤nb∧(Value.slice va ps.length vc).ownBlock≠some nb
 xa:L 2=true→L 5=false→Ag (fun b=>base≤b∧(Value.slice va ps.length vc).ownBlock≠some b) wx x.args (.slice sa x.args.length sc)
 xn:L 2=true→I64 x.n
 rb:L 5=true→L 7=false→Bi wx base (ps++[(exZ,.slice none 0 0)]) (.slice (some ⟨gn,0,none⟩) (ps.length+1) cn)
 xb:L 5=true→Ag (fun b=>base≤b∧b≠gn) wx x.args (.slice sa x.args.length sc)
 rc:L 7=true→Bi wx base (ps++[(x,.slice sa x.args.length sc)]) (.slice (some ⟨gn,0,none⟩) (ps.length+1) cn)
 gb:L 5=true→base≤gn∧gn<wx.heap.size
def IY1(p tb cb ob base:Nat)(va:Option Addr)(vc:Nat)(ps:List (Ex ×Value))(l r2:List Tk)(x:Ex)(W:World)(L:Nat→Bool)(a':Act)(w':World):Prop:=
 ∃sa:Option Addr,∃sc:Nat,∃nb:Nat,∃gn:Nat,∃cn:Nat,∃z2 z3 z4 z5 z6 z7 z8:Value,VY1 p tb cb ob base va vc ps l r2 x W L sa sc nb gn cn z2 z3 z4 z5 z6 z7 z8 w'∧a'=⟨[.pointer (some ⟨ob,0,none⟩),.pointer (some ⟨cb,0,none⟩),z2,z3,z4,z5,z6,z7,z8].toArray,[]⟩
def RY1(p tb cb ob base:Nat)(va:Option Addr)(vc:Nat)(ps:List (Ex ×Value))(l r2:List Tk)(x:Ex)(W:World)(a':Act)(w':World):Prop:=
 ∃sa:Option Addr,∃sc:Nat,∃nb:Nat,∃gn:Nat,∃cn:Nat,(AFr p ob base W w'∧Ps w' p tb r2∧Ac w' cb [.pointer (some ⟨p,0,none⟩)] 64∧Ac w' ob [.slice (some ⟨gn,0,none⟩) (ps.length+1) cn] 25∧Bi w' base (ps++[(x,.slice sa x.args.length sc)]) (.slice (some ⟨gn,0,none⟩) (ps.length+1) cn))∧a'=⟨[.pointer (some ⟨ob,0,none⟩),.pointer (some ⟨cb,0,none⟩),.slice va ps.length vc,.pointer (some ⟨p,0,none⟩),exV x (.slice sa x.args.length sc),.int .i64 ps.length,.slice (some ⟨nb,0,none⟩) 1 1,.slice (some ⟨gn,0,none⟩) (ps.length+1) cn,.pointer (some ⟨gn,ps.length*5,none⟩)].toArray,[]⟩
theorem reg_Y1(p tb cb ob base:Nat)(va:Option Addr)(vc:Nat)(ps:List (Ex ×Value))(l r2:List Tk)(x:Ex)(W:World)(hps:Ps W p tb l)(hc:Ac W cb [.pointer (some ⟨p,0,none⟩)] 64)(ho:Ac W ob [.slice va ps.length vc] 25)(hrow:Bi W base ps (.slice va ps.length vc))(hpc:p<cb)(hco:cb<ob)(hob:ob<base)(hbs:base≤W.heap.size)(hll:ps.length≤1000000)(HE:Hid (∀w1,Ps w1 p tb l→Calls Zc 27 #[.pointer (some ⟨p,0,none⟩)] w1 fun e w'=> ∃s,e= .returned (exV x s)∧SFr p w1 w'∧Ps w' p tb r2∧Ag (w1.heap.size≤ ·) w' x.args s∧I64 x.n))(q2 q3 q4 q5 q6 q7 q8:Value)(J K':Act→World→Prop)(hJ:∀a' w',RY1 p tb cb ob base va vc ps l r2 x W a' w'→J a' w')(hM:∀a' w',Met J a' w'→K' a' w'):
  Code.wp Zc ((Tryz.f224.body.bind (Hj 0)).getD .skip) (Exit.then K' (fun _ _ _=>False)) ⟨[.pointer (some ⟨ob,0,none⟩),.pointer (some ⟨cb,0,none⟩),q2,q3,q4,q5,q6,q7,q8].toArray,[]⟩ W:=by
 have HPS:=Za hps;have HC:=Za hc;have HO:=Za ho;have HROW:=Za hrow;clear hps hc ho hrow
 conv=>arg 2;whnf
 (try dsimp only);refine Fc (by kernel_rfl) (by kernel_rfl) (IY1 p tb cb ob base va vc ps l r2 x W) ?_ ?_ ?_
 ·exact⟨none,0,0,0,0,q2,q3,q4,q5,q6,q7,q8,⟨(fun h=>by cases h),(fun h=>by cases h),(fun h=>by cases h),(fun h=>by cases h),(fun h=>by cases h),(fun h=>by cases h),(fun h=>by cases h),(fun h=>by cases h),(fun h=>by cases h),(fun h=>by cases h),(fun h=>by cases h),(fun h=>by cases h),(fun h=>by cases h),(fun h=>by cases h),(fun h=>by cases h),(fun h=>by cases h),(fun h=>by cases h),((AFr.refl p ob base W).old (Zg _ _).drew),(fun _=>HPS.out.old (Zg _ _).drew),(fun h=>by cases h),(HC.out.old (Zg _ _).drew),(fun _=>HO.out.old (Zg _ _).drew),(fun h=>by cases h),(fun _=>HROW.out.old (Zg _ _).drew),(fun h=>fun _=>by cases h),(fun h=>fun _=>by cases h),(fun h=>by cases h),(fun h=>fun _=>by cases h),(fun h=>by cases h),(fun h=>by cases h),(fun h=>by cases h)⟩,rfl⟩
 ·intro L act wx k hI hk hl hd
  obtain⟨sa,sc,nb,gn,cn,z2,z3,z4,z5,z6,z7,z8,hV,rfl⟩:=hI;have hk:k=0∨k=1∨k=2∨k=3∨k=4∨k=5∨k=6∨k=7∨k=8:=by
   have:k<9:=hk;omega
  rcases hk with rfl|rfl|rfl|rfl|rfl|rfl|rfl|rfl|rfl
  ·have l5:L 5=false:=by
    cases e:L 5 with
    |false=>rfl
    |true=>have:=hV.p5_0 e;rw[hl]at this;cases this
   have l8:L 8=false:=by
    cases e:L 8 with
    |false=>rfl
    |true=>have:=hV.p8_5 e;rw[l5]at this;cases this
   have ho:=(hV.oa l8).at 0 _ rfl;refine Bg _ rfl rfl (fun K' hK=> ?_)
   conv=>arg 2;whnf
   go_wp2_with fail
   exact⟨sa,sc,nb,gn,cn,.slice va ps.length vc,z3,z4,z5,z6,z7,z8,⟨(fun _=>Bh L 0),kq hV.p5_2,kq hV.p5_4,kq hV.p6_5,kq hV.p7_2,kq hV.p7_4,kq hV.p7_5,kq hV.p8_2,kq hV.p8_4,kq hV.p8_5,(fun _=>rfl),kc hV.c1,kc hV.c2,kc hV.c3,kc hV.c4,kc hV.c5,kc hV.c6,hV.fr,(fun h0=>hV.pa (kb h0)),kc hV.pb,hV.c,(fun h0=>hV.oa (kb h0)),kc hV.ob,(fun h0=>hV.ra (kb h0)),(fun h0=>fun h1=>hV.g4 (kb h0) (kb h1)),(fun h0=>fun h1=>hV.xa (kb h0) (kb h1)),kc hV.xn,(fun h0=>fun h1=>hV.rb (kb h0) (kb h1)),kc hV.xb,kc hV.rc,kc hV.gb⟩,rfl⟩
  ·have hc0:=hV.c.at 0 _ rfl
   refine Bg _ rfl rfl (fun K' hK=> ?_)
   conv=>arg 2;whnf
   go_wp2_with fail
   exact⟨sa,sc,nb,gn,cn,z2,.pointer (some ⟨p,0,none⟩),z4,z5,z6,z7,z8,⟨kq hV.p5_0,kq hV.p5_2,kq hV.p5_4,kq hV.p6_5,kq hV.p7_2,kq hV.p7_4,kq hV.p7_5,kq hV.p8_2,kq hV.p8_4,kq hV.p8_5,kc hV.c0,(fun _=>rfl),kc hV.c2,kc hV.c3,kc hV.c4,kc hV.c5,kc hV.c6,hV.fr,(fun h0=>hV.pa (kb h0)),kc hV.pb,hV.c,(fun h0=>hV.oa (kb h0)),kc hV.ob,(fun h0=>hV.ra (kb h0)),(fun h0=>fun h1=>hV.g4 (kb h0) (kb h1)),(fun h0=>fun h1=>hV.xa (kb h0) (kb h1)),kc hV.xn,(fun h0=>fun h1=>hV.rb (kb h0) (kb h1)),kc hV.xb,kc hV.rc,kc hV.gb⟩,rfl⟩
  ·have d1:L 1=true:=hd _ rfl ⟨1,.data⟩ (by simp) rfl
   obtain rfl:=(hV.c1 d1).symm;have l5:L 5=false:=by
    cases e:L 5 with
    |false=>rfl
    |true=>have:=hV.p5_2 e;rw[hl]at this;cases this
   have l8:L 8=false:=by
    cases e:L 8 with
    |false=>rfl
    |true=>have:=hV.p8_5 e;rw[l5]at this;cases this
   have l7:L 7=false:=by
    cases e:L 7 with
    |false=>rfl
    |true=>have:=hV.p7_5 e;rw[l5]at this;cases this
   have hps:=hV.pa hl;refine Bg _ rfl rfl (fun K' hK=> ?_)
   conv=>arg 2;whnf
   go_wp2_with fail
   refine(HE.out _ hps).mono ?_;rintro e w7 ⟨s1,rfl,hf7,hp7,hx7,hn7⟩;obtain⟨a7,c7,rfl⟩:=hx7.shape;go_wp2_with fail
   exact⟨a7,c7,nb,gn,cn,z2,.pointer (some ⟨p,0,none⟩),exV x (.slice (a7) x.args.length (c7)),z5,z6,z7,z8,⟨kq hV.p5_0,(fun _=>Bh L 2),kq hV.p5_4,kq hV.p6_5,(fun _=>Bh L 2),kq hV.p7_4,kq hV.p7_5,(fun _=>Bh L 2),kq hV.p8_4,kq hV.p8_5,kc hV.c0,kc hV.c1,(fun _=>rfl),kc hV.c3,kc hV.c4,kc hV.c5,kc hV.c6,(hV.fr.trans (AFr.of_sfr hf7)),(ks),(fun _=>hp7),(hV.c.sfr hf7 (by omega)),(fun _=>(hV.oa l8).sfr hf7 (by omega)),(fun h=>by rw[Bd L (by decide)]at h;rw[l8]at h;cases h),(fun _=>(hV.ra l5).sfrB hf7 (by omega)),(fun h1 h2=>⟨Ac.sfr (hV.g4 (kb h1) (kb h2)).1 hf7 (by have:=(hV.g4 (kb h1) (kb h2)).2.1;omega),(hV.g4 (kb h1) (kb h2)).2⟩),(fun _ _=>hx7.mono (fun b hb=>by have h1:wx.heap.size≤b:=hb;have h2:=hV.fr.size;exact⟨by omega,fun e=>by have:=(World.ownsRow.lt (hV.ra l5).1 _ e).2;omega⟩)),(fun _=>hn7),(fun h _=>by rw[Bd L (by decide)]at h;rw[l5]at h;cases h),(fun h=>by rw[Bd L (by decide)]at h;rw[l5]at h;cases h),(fun h=>by rw[Bd L (by decide)]at h;rw[l7]at h;cases h),(fun h=>by rw[Bd L (by decide)]at h;rw[l5]at h;cases h)⟩,rfl⟩
  ·have d0:L 0=true:=hd _ rfl ⟨0,.data⟩ (by simp) rfl
   obtain rfl:=(hV.c0 d0).symm;refine Bg _ rfl rfl (fun K' hK=> ?_)
   conv=>arg 2;whnf
   go_wp2_with fail
   exact⟨sa,sc,nb,gn,cn,.slice va ps.length vc,z3,z4,.int .i64 ps.length,z6,z7,z8,⟨kq hV.p5_0,kq hV.p5_2,kq hV.p5_4,kq hV.p6_5,kq hV.p7_2,kq hV.p7_4,kq hV.p7_5,kq hV.p8_2,kq hV.p8_4,kq hV.p8_5,kc hV.c0,kc hV.c1,kc hV.c2,(fun _=>rfl),kc hV.c4,kc hV.c5,kc hV.c6,hV.fr,(fun h0=>hV.pa (kb h0)),kc hV.pb,hV.c,(fun h0=>hV.oa (kb h0)),kc hV.ob,(fun h0=>hV.ra (kb h0)),(fun h0=>fun h1=>hV.g4 (kb h0) (kb h1)),(fun h0=>fun h1=>hV.xa (kb h0) (kb h1)),kc hV.xn,(fun h0=>fun h1=>hV.rb (kb h0) (kb h1)),kc hV.xb,kc hV.rc,kc hV.gb⟩,rfl⟩
  ·have hal:Below wx.heap.size wx (wx.alloc (.cells #[.int .i64 0,.int .i64 0,.int .i64 0,.string ⟨#[]⟩,.slice none 0 0] 27)):=bA
   have hfs:=hV.fr.size;have l5:L 5=false:=by
    cases e:L 5 with
    |false=>rfl
    |true=>have:=hV.p5_4 e;rw[hl]at this;cases this
   refine Bg _ rfl rfl (fun K' hK=> ?_)
   conv=>arg 2;whnf
   go_wp2_with fail
   exact⟨sa,sc,wx.heap.size,gn,cn,z2,z3,z4,z5,.slice (some ⟨(wx.heap.size),0,none⟩) 1 1,z7,z8,⟨kq hV.p5_0,kq hV.p5_2,(fun _=>Bh L 4),kq hV.p6_5,kq hV.p7_2,(fun _=>Bh L 4),kq hV.p7_5,kq hV.p8_2,(fun _=>Bh L 4),kq hV.p8_5,kc hV.c0,kc hV.c1,kc hV.c2,kc hV.c3,(fun _=>rfl),kc hV.c5,kc hV.c6,(AFr.old (hV.fr) hal),(fun h0=>Ps.old (hV.pa (kb h0)) hal),(fun h0=>Ps.old (hV.pb (kb h0)) hal),(Ac.old (hV.c) hal),(fun h0=>Ac.old (hV.oa (kb h0)) hal),(kn hV.p8_4 hl),(fun h0=>Bi.old (hV.ra (kb h0)) hal),(fun _ _=>⟨Zd wx (As exZ (.slice none 0 0)) 27,by omega,fun e=>by have:=(World.ownsRow.lt (hV.ra l5).1 _ e).2;omega⟩),(fun h0=>fun h1=>Ag.old hal (hV.xa (kb h0) (kb h1))),(fun h0=>(hV.xn (kb h0))),(kn hV.p5_4 hl),(kn hV.p5_4 hl),(kn hV.p7_4 hl),(kn hV.p5_4 hl)⟩,rfl⟩
  ·have d0:L 0=true:=hd _ rfl ⟨0,.data⟩ (by simp) rfl
   obtain rfl:=(hV.c0 d0).symm;have d2:L 2=true:=hd _ rfl ⟨2,.chain⟩ (by simp) rfl;have d4:L 4=true:=hd _ rfl ⟨4,.data⟩ (by simp) rfl;obtain rfl:=(hV.c4 d4).symm;have l8:L 8=false:=by
    cases e:L 8 with
    |false=>rfl
    |true=>have:=hV.p8_5 e;rw[hl]at this;cases this
   have l7:L 7=false:=by
    cases e:L 7 with
    |false=>rfl
    |true=>have:=hV.p7_5 e;rw[hl]at this;cases this
   have hg4:=hV.g4 d4 hl;have hra:=hV.ra hl;have hxa:=hV.xa d2 hl;have hfs:=hV.fr.size;refine Bg _ rfl rfl (fun K' hK=> ?_)
   conv=>arg 2;whnf
   refine aP wx _ _ rfl base ps (.slice va ps.length vc) rfl hra nb 1 rfl hg4.1 hll (Nat.le_trans hbs hfs) ?_;intro g2 cap2 w2 hr2 hg2 ha2 hl2;have hge:base≤g2:=by
    rcases ha2 with e|e
    ·exact hra.rowGe _ e
    ·omega
   go_wp2_with fail
   exact⟨sa,sc,nb,g2,cap2,.slice va ps.length vc,z3,z4,z5,.slice (some ⟨nb,0,none⟩) 1 1,.slice (some ⟨(g2),0,none⟩) (ps.length+1) (cap2),z8,⟨(kd (d0)),(kd (d2)),(kd (d4)),(fun _=>Bh L 5),kq hV.p7_2,kq hV.p7_4,(fun _=>Bh L 5),kq hV.p8_2,kq hV.p8_4,(fun _=>Bh L 5),kc hV.c0,kc hV.c1,kc hV.c2,kc hV.c3,kc hV.c4,(fun _=>rfl),(kn hV.p6_5 hl),(hV.fr.grown hg2 hra.rowGe),(fun h=>by rw[Bd L (by decide)]at h;rw[d2]at h;cases h),(fun _=>(hV.pb d2).grown hg2 hra.rowGe (by omega)),(hV.c.grew hg2 (fun e=>by have:=hra.rowGe _ e;omega)),(fun _=>(hV.oa l8).grew hg2 (fun e=>by have:=hra.rowGe _ e;omega)),(fun h=>by rw[Bd L (by decide)]at h;rw[l8]at h;cases h),(ks),(fun _=>ks),(fun _=>ks),(fun _=>hV.xn d2),(fun _ _=>hr2),(fun _=>by have h1:=hxa.strong.keep (w':=w2) (fun b off y hb hy=>hg2.cell hy (fun e=>hb.1.2 e.symm));exact h1.mono (fun b hb=>⟨hb.1.1,by rintro rfl;rcases ha2 with e|e;exact hb.1.2 e;have:=hb.2;omega⟩)),(fun h=>by rw[Bd L (by decide)]at h;rw[l7]at h;cases h),(fun _=>⟨hge,hl2⟩)⟩,rfl⟩
  ·have d3:L 3=true:=hd _ rfl ⟨3,.data⟩ (by simp) rfl
   obtain rfl:=(hV.c3 d3).symm;have d5:L 5=true:=hd _ rfl ⟨5,.data⟩ (by simp) rfl;obtain rfl:=(hV.c5 d5).symm;have hgb:=hV.gb d5;refine Bg _ rfl rfl (fun K' hK=> ?_)
   conv=>arg 2;whnf
   go_wp2_with fail
   exact⟨sa,sc,nb,gn,cn,z2,z3,z4,.int .i64 ps.length,z6,.slice (some ⟨gn,0,none⟩) (ps.length+1) cn,.pointer (some ⟨gn,ps.length*5,none⟩),⟨kq hV.p5_0,kq hV.p5_2,kq hV.p5_4,(kd (d5)),kq hV.p7_2,kq hV.p7_4,kq hV.p7_5,kq hV.p8_2,kq hV.p8_4,kq hV.p8_5,kc hV.c0,kc hV.c1,kc hV.c2,kc hV.c3,kc hV.c4,kc hV.c5,(fun _=>rfl),hV.fr,(fun h0=>hV.pa (kb h0)),kc hV.pb,hV.c,(fun h0=>hV.oa (kb h0)),kc hV.ob,(fun h0=>hV.ra (kb h0)),(fun h0=>fun h1=>hV.g4 (kb h0) (kb h1)),(fun h0=>fun h1=>hV.xa (kb h0) (kb h1)),kc hV.xn,(fun h0=>fun h1=>hV.rb (kb h0) (kb h1)),kc hV.xb,kc hV.rc,kc hV.gb⟩,rfl⟩
  ·have d2:L 2=true:=hd _ rfl ⟨2,.data⟩ (by simp) rfl
   obtain rfl:=(hV.c2 d2).symm;have d5:L 5=true:=hd _ rfl ⟨5,.chain⟩ (by simp) rfl;have d6:L 6=true:=hd _ rfl ⟨6,.data⟩ (by simp) rfl;obtain rfl:=(hV.c6 d6).symm;have hrb:=hV.rb d5 hl;have hxb:=hV.xb d5;have hxn:=hV.xn d2;have hgb:=hV.gb d5;have hlr:(ps++[(exZ,Value.slice none 0 0)]).length=ps.length+1:=by simp
   have hrw:=hrb.1;rw[hlr]at hrw;have k0:=hrw.cellAt (ps.length*5) (by omega);have k1:=hrw.cellAt (ps.length*5+1) (by omega);have k2:=hrw.cellAt (ps.length*5+2) (by omega);have k3:=hrw.cellAt (ps.length*5+3) (by omega);have k4:=hrw.cellAt (ps.length*5+4) (by omega);rw[Zk (by rw[Kp,hlr];omega)]at k0 k1 k2 k3 k4;have f0:=hrw.frozenAt (ps.length*5);have f1:=hrw.frozenAt (ps.length*5+1);have f2:=hrw.frozenAt (ps.length*5+2);have f3:=hrw.frozenAt (ps.length*5+3);have f4:=hrw.frozenAt (ps.length*5+4);refine Bg _ rfl rfl (fun K' hK=> ?_)
   conv=>arg 2;whnf
   go_wp2_with fail
   exact⟨sa,sc,nb,gn,cn,z2,z3,exV x (.slice sa x.args.length sc),z5,z6,z7,.pointer (some ⟨gn,ps.length*5,none⟩),⟨kq hV.p5_0,kq hV.p5_2,kq hV.p5_4,kq hV.p6_5,(kd (d2)),(kd (hV.p5_4 d5)),(kd (d5)),kq hV.p8_2,kq hV.p8_4,kq hV.p8_5,kc hV.c0,kc hV.c1,kc hV.c2,kc hV.c3,kc hV.c4,kc hV.c5,kc hV.c6,(((((hV.fr.high hgb.1 _ _).high hgb.1 _ _).high hgb.1 _ _).high hgb.1 _ _).high hgb.1 _ _),(fun h=>by rw[Bd L (by decide)]at h;rw[d2]at h;cases h),(fun _=>((((((hV.pb d2).other (by omega) _ _).other (by omega) _ _).other (by omega) _ _).other (by omega) _ _).other (by omega) _ _)),(((((hV.c.other (by omega) _ _).other (by omega) _ _).other (by omega) _ _).other (by omega) _ _).other (by omega) _ _),(fun h=>((((((hV.oa (kb h)).other (by omega) _ _).other (by omega) _ _).other (by omega) _ _).other (by omega) _ _).other (by omega) _ _)),(fun h=>((((((hV.ob (kb h)).other (by omega) _ _).other (by omega) _ _).other (by omega) _ _).other (by omega) _ _).other (by omega) _ _)),(fun h=>by rw[Bd L (by decide)]at h;rw[d5]at h;cases h),(fun _ h=>by rw[Bd L (by decide)]at h;rw[d5]at h;cases h),(fun _ h=>by rw[Bd L (by decide)]at h;rw[d5]at h;cases h),(fun _=>hxn),(fun _=>ks),(fun _=>((((hxb.keep (Am _ (fun e=>e.2 rfl) _ _)).keep (Am _ (fun e=>e.2 rfl) _ _)).keep (Am _ (fun e=>e.2 rfl) _ _)).keep (Am _ (fun e=>e.2 rfl) _ _)).keep (Am _ (fun e=>e.2 rfl) _ _)),(fun _=>hrb.setLast hxb hxn),(fun _=>by simpa [World.setCell]using hgb)⟩,rfl⟩
  ·have d5:L 5=true:=hd _ rfl ⟨5,.data⟩ (by simp) rfl
   obtain rfl:=(hV.c5 d5).symm;have hx:=hV.oa hl;have x1:=hx.at 0 _ rfl;have fx:=hx.fz 0;have hxl:=hx.lt;have hgb:=hV.gb d5;refine Bg _ rfl rfl (fun K' hK=> ?_)
   conv=>arg 2;whnf
   go_wp2_with fail
   exact⟨sa,sc,nb,gn,cn,z2,z3,z4,z5,z6,.slice (some ⟨gn,0,none⟩) (ps.length+1) cn,z8,⟨kq hV.p5_0,kq hV.p5_2,kq hV.p5_4,kq hV.p6_5,kq hV.p7_2,kq hV.p7_4,kq hV.p7_5,(kd (hV.p5_2 d5)),(kd (hV.p5_4 d5)),(kd (d5)),kc hV.c0,kc hV.c1,kc hV.c2,kc hV.c3,kc hV.c4,kc hV.c5,kc hV.c6,(hV.fr.set _ _),(fun h=>(hV.pa (kb h)).other (by omega) _ _),(fun h=>(hV.pb (kb h)).other (by omega) _ _),(hV.c.other (by omega) _ _),(ks),(fun _=>hx.set 0 (.slice (some ⟨gn,0,none⟩) (ps.length+1) cn)),(fun h=>(hV.ra (kb h)).low hob _ _),(fun _ h=>by rw[Bd L (by decide)]at h;rw[d5]at h;cases h),(fun _ h=>by rw[Bd L (by decide)]at h;rw[d5]at h;cases h),(fun h=>hV.xn (kb h)),(fun h1 h2=>(hV.rb (kb h1) (kb h2)).low hob _ _),(fun h=>(hV.xb (kb h)).keep (Am _ (fun e=>by have:=e.1;omega) _ _)),(fun h=>(hV.rc (kb h)).low hob _ _),(fun h=>by simpa [World.setCell]using hV.gb (kb h))⟩,rfl⟩
 ·intro L act wx hI hall
  obtain⟨sa,sc,nb,gn,cn,z2,z3,z4,z5,z6,z7,z8,hV,rfl⟩:=hI;obtain rfl:=(hV.c0 (hall 0 (by decide))).symm;obtain rfl:=(hV.c1 (hall 1 (by decide))).symm;obtain rfl:=(hV.c2 (hall 2 (by decide))).symm;obtain rfl:=(hV.c3 (hall 3 (by decide))).symm;obtain rfl:=(hV.c4 (hall 4 (by decide))).symm;obtain rfl:=(hV.c5 (hall 5 (by decide))).symm;obtain rfl:=(hV.c6 (hall 6 (by decide))).symm;exact hM _ _ (Met.intro (hJ _ _ ⟨sa,sc,nb,gn,cn,⟨hV.fr,hV.pb (hall 2 (by decide)),hV.c,hV.ob (hall 8 (by decide)),hV.rc (hall 7 (by decide))⟩,rfl⟩))
structure Eo (W:World)(p tb cb ob base:Nat)(va:Option Addr)(vc:Nat)(ps:List (Ex ×Value))(l:List Tk)(wx:World):Prop where
 fr:AFr p ob base W wx
 par:Ps wx p tb l
 c:Ac wx cb [.pointer (some ⟨p,0,none⟩)] 64
 o:Ac wx ob [.slice va ps.length vc] 25
 row:Bi wx base ps (.slice va ps.length vc)
 len:ps.length+l.length≤1000000
structure Jw (p cb ob base:Nat)(W:World):Prop where
 pc:p<cb
 co:cb<ob
 ob:ob<base
 bs:base≤W.heap.size
theorem Eo.old {W:World}{p tb cb ob base:Nat}{va:Option Addr}{vc:Nat}{ps:List (Ex ×Value)}{l:List Tk}{wx w':World}(h:Eo W p tb cb ob base va vc ps l wx)(hb:Below wx.heap.size wx w'):Eo W p tb cb ob base va vc ps l w':=
 ⟨h.fr.old hb,h.par.old hb,h.c.old hb,h.o.old hb,h.row.old hb,h.len⟩
theorem Eo.next {W:World}{p tb cb ob base:Nat}{va:Option Addr}{vc:Nat}{ps:List (Ex ×Value)}{l r:List Tk}{wx w':World}(h:Eo W p tb cb ob base va vc ps l wx)(hn:Jw p cb ob base W)(hf:SFr p wx w')(hp:Ps w' p tb r)(hl:r.length≤l.length):Eo W p tb cb ob base va vc ps r w':=
 ⟨h.fr.trans (AFr.of_sfr hf),hp,h.c.sfr hf (by have:=hn.pc;omega),h.o.sfr hf (by have:=hn.pc;have:=hn.co;omega),h.row.sfrB hf (by have:=hn.pc;have:=hn.co;have:=hn.ob;omega),by have:=h.len;omega⟩
theorem dP(f:Nat)(hE:Jo f)(W wx:World)(p tb cb ob base:Nat)(va:Option Addr)(vc:Nat)(ps:List (Ex ×Value))(l r:List Tk)(x:Ex)(hn:Jw p cb ob base W)(h:Eo W p tb cb ob base va vc ps l wx)(hl:4*l.length+2≤f)(hx:Aq f 1 l= .ok (x,r)):
  Calls Zc 224 #[.pointer (some ⟨ob,0,none⟩),.pointer (some ⟨cb,0,none⟩)] wx fun e w'=>e= .returned (.tuple #[])∧∃sa sc gn cn,Eo W p tb cb ob base (some ⟨gn,0,none⟩) cn (ps++[(x,.slice sa x.args.length sc)]) r w':=by
 have hz:base≤wx.heap.size:=Nat.le_trans hn.bs h.fr.size;have hlen:r.length<l.length:=(Db f).1 _ _ _ _ hx;have key:=reg_Y1 p tb cb ob base va vc ps l r x wx h.par h.c h.o h.row hn.pc hn.co hn.ob hz (by have:=h.len;omega) (fun w1 h1=>by
  have h2:=hE l w1 p tb hl h1;rw[hx]at h2;refine h2.mono ?_;rintro e w' ⟨hf,v,rfl,hp,s,rfl,hs,hm⟩;exact⟨s,rfl,hf,hp,hs,hm⟩) undef undef undef undef undef undef undef _ _ (fun _ _ q=>q) (fun _ _ q=>q)
 have HFR:=Za h.fr;have HLN:=Za h.len;have HLL:=Za hlen;clear h hE hl hx hz hlen hn;go_enter Tryz.func224,Tryz.ntmps224
 refine wp_mono key ?_;intro e a' w' hq
 cases e with
 |normal=>
  obtain⟨sa,sc,nb,gn,cn,⟨h1,h2,h3,h4,h5⟩,rfl⟩:=hq;have hl1:(ps++[(x,Value.slice sa x.args.length sc)]).length=ps.length+1:=by simp
  refine bodyPost_end (v:= .tuple #[]) (by simp [results,Tryz.results224,go_sem]) rfl ⟨rfl,sa,sc,gn,cn,HFR.out.trans h1,h2,h3,?_,?_,?_⟩
  ·rw[hl1];exact h4
  ·rw[hl1];exact h5
  ·rw[hl1];have:=HLN.out;have:=HLL.out;omega
 |_=>exact False.elim hq
structure ErrI (W:World)(p tb cb ob base:Nat)(va:Option Addr)(vc:Nat)(ps:List (Ex ×Value))(l:List Tk)(L:Nat→Bool)(z2 z3:Value)(wx:World):Prop where
 at0:Eo W p tb cb ob base va vc ps l wx
 l2:L 2=false
 l5:L 5=false
 c0:L 0=true→z2= .slice va ps.length vc
 c1:L 1=true→z3= .pointer (some ⟨p,0,none⟩)
theorem aF(f:Nat)(hE:Jo f)(W wx:World)(p tb cb ob base:Nat)(va:Option Addr)(vc:Nat)(ps:List (Ex ×Value))(l:List Tk)(n:Int)(hn:Jw p cb ob base W)(h:Eo W p tb cb ob base va vc ps l wx)(hl:4*l.length+2≤f)(hx:Aq f 1 l= .error n):
  Calls Zc 224 #[.pointer (some ⟨ob,0,none⟩),.pointer (some ⟨cb,0,none⟩)] wx fun e w'=>e=Ay n∧AFr p ob base W w':=by
 have HE:Hid (∀w1,Ps w1 p tb l→Calls Zc 27 #[.pointer (some ⟨p,0,none⟩)] w1 fun e w'=>e=Ay n∧SFr p w1 w'):=fun w1 h1=>by
  have h2:=hE l w1 p tb hl h1;rw[hx]at h2;refine h2.mono ?_;rintro e w' ⟨hf,rfl⟩;exact⟨rfl,hf⟩
 have HN:=Za hn;have HA:=Za h;clear hE hl hx hn h;go_enter Tryz.func224,Tryz.ntmps224
 refine Fc (by kernel_rfl) (by kernel_rfl) (fun L a' w'=> ∃z2 z3 z4 z5 z6 z7 z8:Value,ErrI W p tb cb ob base va vc ps l L z2 z3 w'∧a'=⟨[.pointer (some ⟨ob,0,none⟩),.pointer (some ⟨cb,0,none⟩),z2,z3,z4,z5,z6,z7,z8].toArray,[]⟩) ?_ ?_ ?_
 ·exact⟨undef,undef,undef,undef,undef,undef,undef,⟨HA.out.old (Zg _ _).drew,rfl,rfl,(fun h=>by cases h),(fun h=>by cases h)⟩,rfl⟩
 ·intro L act wx k hI hk hl hd
  obtain⟨z2,z3,z4,z5,z6,z7,z8,hV,rfl⟩:=hI;have hk:k=0∨k=1∨k=2∨k=3∨k=4∨k=5∨k=6∨k=7∨k=8:=by
   have:k<9:=hk;omega
  rcases hk with rfl|rfl|rfl|rfl|rfl|rfl|rfl|rfl|rfl
  ·have h0:=hV.at0.o.at 0 _ rfl
   refine Bg _ rfl rfl (fun K' hK=> ?_)
   conv=>arg 2;whnf
   go_wp2_with fail
   exact⟨.slice va ps.length vc,z3,z4,z5,z6,z7,z8,⟨hV.at0,(Bd L (by decide)).trans hV.l2,(Bd L (by decide)).trans hV.l5,(fun _=>rfl),kc hV.c1⟩,rfl⟩
  ·have h0:=hV.at0.c.at 0 _ rfl
   refine Bg _ rfl rfl (fun K' hK=> ?_)
   conv=>arg 2;whnf
   go_wp2_with fail
   exact⟨z2,.pointer (some ⟨p,0,none⟩),z4,z5,z6,z7,z8,⟨hV.at0,(Bd L (by decide)).trans hV.l2,(Bd L (by decide)).trans hV.l5,kc hV.c0,(fun _=>rfl)⟩,rfl⟩
  ·have d1:L 1=true:=hd _ rfl ⟨1,.data⟩ (by simp) rfl
   obtain rfl:=(hV.c1 d1).symm;have HV:=Za hV.at0;clear hV hd;refine Bg _ rfl rfl (fun K' hK=> ?_);clear hK
   conv=>arg 2;whnf
   go_wp2_with fail
   refine(HE.out _ HV.out.par).mono ?_;rintro e w7 ⟨rfl,hf⟩;unfold Ay;have HF:=Za (HV.out.fr.trans (AFr.of_sfr hf));clear hf;go_wp2_with fail
   exact⟨rfl,rfl,HF.out⟩
  ·have d0:L 0=true:=hd _ rfl ⟨0,.data⟩ (by simp) rfl
   obtain rfl:=(hV.c0 d0).symm;refine Bg _ rfl rfl (fun K' hK=> ?_)
   conv=>arg 2;whnf
   go_wp2_with fail
   exact⟨.slice va ps.length vc,z3,z4,.int .i64 ps.length,z6,z7,z8,⟨hV.at0,(Bd L (by decide)).trans hV.l2,(Bd L (by decide)).trans hV.l5,kc hV.c0,kc hV.c1⟩,rfl⟩
  ·have hal:Below wx.heap.size wx (wx.alloc (.cells #[.int .i64 0,.int .i64 0,.int .i64 0,.string ⟨#[]⟩,.slice none 0 0] 27)):=bA
   refine Bg _ rfl rfl (fun K' hK=> ?_)
   conv=>arg 2;whnf
   go_wp2_with fail
   exact⟨z2,z3,z4,z5,.slice (some ⟨wx.heap.size,0,none⟩) 1 1,z7,z8,⟨hV.at0.old hal,(Bd L (by decide)).trans hV.l2,(Bd L (by decide)).trans hV.l5,kc hV.c0,kc hV.c1⟩,rfl⟩
  ·have d2:L 2=true:=hd _ rfl ⟨2,.chain⟩ (by simp) rfl
   rw[hV.l2]at d2;cases d2
  ·have d5:L 5=true:=hd _ rfl ⟨5,.data⟩ (by simp) rfl
   rw[hV.l5]at d5;cases d5
  ·have d2:L 2=true:=hd _ rfl ⟨2,.data⟩ (by simp) rfl
   rw[hV.l2]at d2;cases d2
  ·have d5:L 5=true:=hd _ rfl ⟨5,.data⟩ (by simp) rfl
   rw[hV.l5]at d5;cases d5
 ·intro L act wx hI hall
  obtain⟨z2,z3,z4,z5,z6,z7,z8,hV,rfl⟩:=hI;have:=hall 2 (by decide);rw[hV.l2]at this;cases this
end Go.Proofs.YtcfpfnoldgnloaaGreatDoor
