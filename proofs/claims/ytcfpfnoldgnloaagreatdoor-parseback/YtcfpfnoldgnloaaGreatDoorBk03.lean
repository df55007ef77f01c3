/-
  is, take, want, kind, name: the next token.
-/
import Derived.Test.YtcfpfnoldgnloaaGreatDoorBk02
import Derived.Deep.AppendLies
set_option linter.unusedVariables false
set_option linter.unusedSimpArgs false
namespace Go.Proofs.YtcfpfnoldgnloaaGreatDoor
open Go.RowKit
set_option maxHeartbeats 20000000
set_option maxRecDepth 100000
open Go.Lib renaming hid→Za
open SFr renaming of_below→Zb
open Go.Proofs.Tryz renaming prog→Zc
open List renaming range→Zd,length_cons→Zg
open aG renaming new→Ze
open Nat renaming le_refl→Zf
theorem nt(p tb:Nat)(t:Tk)(r:List Tk)(s:Bs)(w:World)(h:Ps w p tb (t::r)):
  Calls Zc 124 #[.pointer (some ⟨p,0,none⟩),.string (aB s)] w fun e w'=>e= .returned (.bool (isP s t))∧Below w.heap.size w w':=by
 have HN:=Za (eI p tb t r w h);clear h;have hbi:isP s t=((t.kind==2||t.kind==4) && t.text==s):=rfl;rw[hbi]
 cases e2:(t.kind==2)
 ·cases e4:(t.kind==4)
  ·clear hbi
   go_enter Tryz.func124,Tryz.ntmps124
   go_wp2_with fail
   refine HN.out.mono ?_;rintro e w1 ⟨rfl,hb⟩;unfold tkV;have HB:=Za hb;clear hb;go_wp2_with fail
   go_ret
   exact⟨rfl,HB.out.alloc HB.out.size _⟩
  ·have n2:t.kind≠2:=by simpa using e2
   clear hbi;go_enter Tryz.func124,Tryz.ntmps124
   go_wp2_with fail
   refine HN.out.mono ?_;rintro e w1 ⟨rfl,hb⟩;unfold tkV;have HB:=Za hb;clear hb;go_wp2_with fail
   go_ret
   exact⟨by simp,HB.out.alloc HB.out.size _⟩
 ·clear hbi
  go_enter Tryz.func124,Tryz.ntmps124
  go_wp2_with fail
  refine HN.out.mono ?_;rintro e w1 ⟨rfl,hb⟩;unfold tkV;have HB:=Za hb;clear hb;go_wp2_with fail
  go_ret
  exact⟨by simp,HB.out.alloc HB.out.size _⟩
theorem aO(p tb:Nat)(t:Tk)(r:List Tk)(s:Bs)(w:World)(h:Ps w p tb (t::r))(hs:isP s t=false):
  Calls Zc 66 #[.pointer (some ⟨p,0,none⟩),.string (aB s)] w fun e w'=>e= .returned (.bool false)∧Below w.heap.size w w':=by
 have HN:=Za (nt p tb t r s w h);rw[hs]at HN;clear h hs;go_enter Tryz.func66,Tryz.ntmps66
 go_wp2_with fail
 refine HN.out.mono ?_;rintro e w1 ⟨rfl,hb⟩;have HB:=Za hb;clear hb;go_wp2_with fail
 go_ret
 exact⟨rfl,HB.out⟩
theorem bE(p tb:Nat)(t:Tk)(r:List Tk)(s:Bs)(w:World)(h:Ps w p tb (t::r))(hs:isP s t=true):
  Calls Zc 66 #[.pointer (some ⟨p,0,none⟩),.string (aB s)] w fun e w'=>e= .returned (.bool true)∧SFr p w w'∧Ps w' p tb r:=by
 have HN:=Za (nt p tb t r s w h);rw[hs]at HN;have HK:=Za (sV hs);have HP:=Za h;clear h hs;go_enter Tryz.func66,Tryz.ntmps66
 go_wp2_with fail
 refine HN.out.mono ?_;rintro e w1 ⟨rfl,hb⟩;have HB:=Za hb;obtain⟨o,cap,h1⟩:=HP.out.old hb;have HT:=Za (h1.take HK.out);have c0:=h1.own.at 0 _ rfl;have z0:=h1.own.fz 0;have hpl:=h1.own.lt;have hcap:=h1.hcap;have hfit:=h1.fit;obtain⟨n,hn⟩:∃n,r.length=n:=⟨_,rfl⟩;rw[Zg,hn]at c0 hcap;rw[hn]at HT;have hr0:0<n:=by
  obtain⟨u,q,rfl⟩:=(h1.ends.tail HK.out).ne;rw[←hn];simp
 have i1:(1:Int)≤(n:Int)+1:=by omega
 have i2:((n:Int)+1)≤(cap:Int):=by omega
 have i3:¬(cap:Int) - 1=0:=by omega
 have i4:¬cap - 1=0:=by omega
 clear hb h1;go_wp2_with fail
 go_ret
 exact⟨rfl,(Zb HB.out).trans HT.out.2,HT.out.1⟩
def WEnd(w:World)(p tb:Nat)(r:Except Int (List Tk))(e:Ending)(w':World):Prop:=
 SFr p w w'∧match r with
  | .ok l=>e= .returned (.tuple #[])∧Ps w' p tb l
  | .error n=>e=az n
theorem cM(p tb:Nat)(l:List Tk)(s:Bs)(w:World)(h:Ps w p tb l)(b c:Nat)(hc:w.cell? ⟨b,0,none⟩=some (.string (aB s))):
  Calls Zc 64 #[.pointer (some ⟨p,0,none⟩),.slice (some ⟨b,0,none⟩) 1 c] w (WEnd w p tb (aV s l)):=by
 obtain⟨t,r,rfl⟩:=h.ends.ne
 cases hs:isP s t with
 |true=>
  rw[bR hs];have HT:=Za (bE p tb t r s w h hs);clear h hs;go_enter Tryz.func64,Tryz.ntmps64
  go_wp2_with fail
  refine wp_loop_rounds 2 ?_;rw[rounds_succ];go_wp2_with fail
  refine HT.out.mono ?_;rintro e w1 ⟨rfl,hf,hp⟩;have HF:=Za hf;have HP:=Za hp;clear hf hp;go_wp2_with fail
  rw[rounds_succ];go_wp2_with fail
  go_end0
  exact⟨HF.out,rfl,HP.out⟩
 |false=>
  have e:aV s (t::r)= .error t.line:=by unfold aV;rw[aH hs];rfl
  rw[e];have HT:=Za (aO p tb t r s w h hs);have HP:=Za h;clear h hs e;go_enter Tryz.func64,Tryz.ntmps64
  go_wp2_with fail
  refine wp_loop_rounds 1 ?_;rw[rounds_succ];go_wp2_with fail
  refine HT.out.mono ?_;rintro e w1 ⟨rfl,hb⟩;have HB:=Za hb;have HL:=Za (fy p tb t r w1 (HP.out.old hb));clear hb;go_wp2_with fail
  refine HL.out.mono ?_;rintro e w2 ⟨rfl,hb⟩;have HB2:=Za (HB.out.trans (hb.mono HB.out.size));clear hb;unfold az;go_wp2_with fail
  exact⟨rfl,Zb HB2.out,rfl⟩
def ev(s u:Bs)(l:List Tk):Except Int (List Tk):=match aV s l with
 | .ok r=>aV u r
 | .error e=> .error e
theorem vC {s:Bs}{t:Tk}{r:List Tk}(h:isP s t=false):aV s (t::r)= .error t.line:=by
 unfold aV;rw[aH h];rfl
theorem kP(p tb:Nat)(l:List Tk)(s u:Bs)(w:World)(h:Ps w p tb l)(b c:Nat)(hc:w.cell? ⟨b,0,none⟩=some (.string (aB s)))(hd:w.cell? ⟨b,1,none⟩=some (.string (aB u)))(hbp:b≠p):
  Calls Zc 64 #[.pointer (some ⟨p,0,none⟩),.slice (some ⟨b,0,none⟩) 2 c] w (WEnd w p tb (ev s u l)):=by
 obtain⟨t,r,rfl⟩:=h.ends.ne
 cases hs:isP s t with
 |true=>
  have hr:gE r:=h.ends.tail (sV hs);obtain⟨t2,q,rfl⟩:=hr.ne;have HT:=Za (bE p tb t (t2::q) s w h hs);have e1:ev s u (t::t2::q)=aV u (t2::q):=by unfold ev;rw[bR hs]
  rw[e1]
  cases hu:isP u t2 with
  |true=>
   rw[bR hu];have HU:Hid (∀w1,Ps w1 p tb (t2::q)→_):=fun w1 h1=>bE p tb t2 q u w1 h1 hu
   clear h hs hr e1 hu;go_enter Tryz.func64,Tryz.ntmps64
   go_wp2_with fail
   refine wp_loop_rounds 3 ?_;rw[rounds_succ];go_wp2_with fail
   refine HT.out.mono ?_;rintro e w1 ⟨rfl,hf,hp⟩;have HF:=Za hf;have HP:=Za hp;have d1:=hf.cell hbp hd;clear hf hp;go_wp2_with fail
   rw[rounds_succ];go_wp2_with fail
   refine(HU.out w1 HP.out).mono ?_;rintro e w2 ⟨rfl,hf,hp⟩;have HF2:=Za (HF.out.trans hf);have HP2:=Za hp;clear hf hp;go_wp2_with fail
   rw[rounds_succ];go_wp2_with fail
   go_end0
   exact⟨HF2.out,rfl,HP2.out⟩
  |false=>
   rw[vC hu];have HU:Hid (∀w1,Ps w1 p tb (t2::q)→_):=fun w1 h1=>aO p tb t2 q u w1 h1 hu
   have HL:Hid (∀w1,Ps w1 p tb (t2::q)→_):=fun w1 h1=>fy p tb t2 q w1 h1
   clear h hs hr e1 hu;go_enter Tryz.func64,Tryz.ntmps64
   go_wp2_with fail
   refine wp_loop_rounds 2 ?_;rw[rounds_succ];go_wp2_with fail
   refine HT.out.mono ?_;rintro e w1 ⟨rfl,hf,hp⟩;have HF:=Za hf;have HP:=Za hp;have d1:=hf.cell hbp hd;clear hf hp;go_wp2_with fail
   rw[rounds_succ];go_wp2_with fail
   refine(HU.out w1 HP.out).mono ?_;rintro e w2 ⟨rfl,hb⟩;have HF2:=Za (HF.out.trans (Zb hb));have HP2:=Za (HP.out.old hb);clear hb;go_wp2_with fail
   refine(HL.out w2 HP2.out).mono ?_;rintro e w3 ⟨rfl,hb⟩;have HF3:=Za (HF2.out.trans (Zb hb));clear hb;unfold az;go_wp2_with fail
   exact⟨rfl,HF3.out,rfl⟩
 |false=>
  have e1:ev s u (t::r)= .error t.line:=by unfold ev;rw[vC hs]
  rw[e1];have HT:=Za (aO p tb t r s w h hs);have HL:Hid (∀w1,Ps w1 p tb (t::r)→_):=fun w1 h1=>fy p tb t r w1 h1
  have HP:=Za h;clear h hs e1;go_enter Tryz.func64,Tryz.ntmps64
  go_wp2_with fail
  refine wp_loop_rounds 1 ?_;rw[rounds_succ];go_wp2_with fail
  refine HT.out.mono ?_;rintro e w1 ⟨rfl,hb⟩;have HF:=Za (Zb (s:=p) hb);have HP1:=Za (HP.out.old hb);clear hb;go_wp2_with fail
  refine(HL.out w1 HP1.out).mono ?_;rintro e w2 ⟨rfl,hb⟩;have HF2:=Za (HF.out.trans (Zb hb));clear hb;unfold az;go_wp2_with fail
  exact⟨rfl,HF2.out,rfl⟩
def TkH(t:Tk)(v:Value)(w:World):Prop:=v=tkV t
theorem ip(p tb:Nat)(l:List Tk)(k:Int)(hk5:k≠5)(w:World)(h:Ps w p tb l):
  Calls Zc 67 #[.pointer (some ⟨p,0,none⟩),.int .i64 k] w (eH TkH w p tb (gx k l)):=by
 obtain⟨t,r,rfl⟩:=h.ends.ne
 by_cases hk:t.kind=k
 ·subst hk
  have e1:gx t.kind (t::r)= .ok (t,r):=by show(if t.kind=t.kind then Except.ok (t,r)else Except.error t.line)=_;rw[if_pos rfl]
  rw[e1];have hb1:Below w.heap.size w (w.alloc (.cells #[.int .i64 0,.string ⟨#[]⟩,.int .i64 0,.int .i64 0] 50)):=bA;have HB:=Za hb1;have HP:=Za (h.old hb1);have HN:=Za (eI p tb t r _ (h.old hb1));have HR:=Za (Ze w [.int .i64 0,.string ⟨#[]⟩,.int .i64 0,.int .i64 0] 50);have HK:=Za hk5;have HPW:=Za h.lt;clear h hb1 e1 hk5;go_enter Tryz.func67,Tryz.ntmps67
  go_wp2_with fail
  refine HN.out.mono ?_;rintro e w1 ⟨rfl,hb⟩;unfold tkV;have HR1:=Za (HR.out.old hb);have HB1:=Za (HB.out.trans (hb.mono HB.out.size));have HP1:=Za (HP.out.old hb);clear hb;go_upto_region 2 with(fail)
  obtain⟨W,hW⟩:∃W,w1.alloc (.cells #[.int .i64 t.kind,.string (aB t.text),.int .i64 t.num,.int .i64 t.line] 50)=W:=⟨_,rfl⟩;rw[hW];have hba:Below w1.heap.size w1 W:=hW ▸ bA;have hps:=HP1.out.old hba;have HBW:=Za (HB1.out.trans (hba.mono HB1.out.size));have HRW:=Za (HR1.out.old hba);have HNW:=Za (hW ▸ Ze w1 [.int .i64 t.kind,.string (aB t.text),.int .i64 t.num,.int .i64 t.line] 50);clear hba hW;have x0:=HNW.out.at 0 _ rfl;go_upto_region 4 with(fail)
  obtain⟨o,cap,h1⟩:=hps;have HT:=Za (h1.take HK.out);have c0:=h1.own.at 0 _ rfl;have z0:=h1.own.fz 0;have hpl:=h1.own.lt;have hcap:=h1.hcap;have hfit:=h1.fit;obtain⟨n,hn⟩:∃n,r.length=n:=⟨_,rfl⟩;rw[Zg,hn]at c0 hcap;rw[hn]at HT;have hr0:0<n:=by
   obtain⟨u,q,rfl⟩:=(h1.ends.tail HK.out).ne;rw[←hn];simp
  have i1:(1:Int)≤(n:Int)+1:=by omega
  have i2:((n:Int)+1)≤(cap:Int):=by omega
  have i3:¬(cap:Int) - 1=0:=by omega
  have i4:¬cap - 1=0:=by omega
  clear h1;go_upto_region 5 with(fail)
  have hpw:=HPW.out;have hw1:p<w1.heap.size:=HP1.out.lt;have hpx:p≠w.heap.size:=by omega
  have hpy:p≠w1.heap.size:=by omega
  have HNV:=Za (HNW.out.other (Ne.symm hpy) 0 (.slice (some ⟨tb,o+4,none⟩) n (cap - 1)));have HRV:=Za (HRW.out.other (Ne.symm hpx) 0 (.slice (some ⟨tb,o+4,none⟩) n (cap - 1)));have HF:=Za ((Zb HBW.out).trans HT.out.2);have HPV:=Za HT.out.1;clear HT c0 z0 x0;generalize W.setCell ⟨p,0,none⟩ (.slice (some ⟨tb,o+4,none⟩) n (cap - 1))=V at*;have y0:=HNV.out.at 0 _ rfl;have y1:=HNV.out.at 1 _ rfl;have y2:=HNV.out.at 2 _ rfl;have y3:=HNV.out.at 3 _ rfl;have z0:=HRV.out.at 0 _ rfl;have z1:=HRV.out.at 1 _ rfl;have z2:=HRV.out.at 2 _ rfl;have z3:=HRV.out.at 3 _ rfl;have f0:=HRV.out.fz 0;have f1:=HRV.out.fz 1;have f2:=HRV.out.fz 2;have f3:=HRV.out.fz 3;go_wp2_with fail
  have HS:=Za ((((HRV.out.set 0 (.int .i64 t.kind)).set 1 (.string (aB t.text))).set 2 (.int .i64 t.num)).set 3 (.int .i64 t.line));have d0:=HS.out.at 0 _ rfl;have d1:=HS.out.at 1 _ rfl;have d2:=HS.out.at 2 _ rfl;have d3:=HS.out.at 3 _ rfl;exact bodyPost_ret (v:=tkV t) (by simp [tkV,results,Tryz.results67,go_sem,d0,d1,d2,d3]) rfl ⟨(((HF.out.setNew (Zf _) _ _).setNew (Zf _) _ _).setNew (Zf _) _ _).setNew (Zf _) _ _,_,rfl,(((HPV.out.other hpw _ _).other hpw _ _).other hpw _ _).other hpw _ _,rfl⟩
 ·have e1:gx k (t::r)= .error t.line:=by show(if t.kind=k then Except.ok (t,r)else Except.error t.line)=_;rw[if_neg hk]
  rw[e1];have hb1:Below w.heap.size w (w.alloc (.cells #[.int .i64 0,.string ⟨#[]⟩,.int .i64 0,.int .i64 0] 50)):=bA;have HB:=Za hb1;have HP:=Za (h.old hb1);have HN:=Za (eI p tb t r _ (h.old hb1));have HL:Hid (∀w1,Ps w1 p tb (t::r)→_):=fun w1 h1=>fy p tb t r w1 h1
  have hne:(t.kind !=k)=true:=by simp [hk]
  have hne2:(t.kind==k)=false:=by simp [hk]
  clear h hb1 e1;go_enter Tryz.func67,Tryz.ntmps67
  go_wp2_with fail
  refine HN.out.mono ?_;rintro e w1 ⟨rfl,hb⟩;unfold tkV;have HB1:=Za (HB.out.trans (hb.mono HB.out.size));have HP1:=Za (HP.out.old hb);clear hb;go_wp2_with fail
  refine(HL.out _ (HP1.out.alloc _)).mono ?_;rintro e w3 ⟨rfl,hb⟩;have HB3:=Za ((HB1.out.alloc HB1.out.size _).trans (hb.mono (HB1.out.alloc HB1.out.size _).size));clear hb;unfold az;go_wp2_with fail
  exact⟨rfl,Zb HB3.out,rfl⟩
def NmH(s:Bs)(v:Value)(w:World):Prop:=v= .string (aB s)
theorem dl(p tb:Nat)(l:List Tk)(w:World)(h:Ps w p tb l):
  Calls Zc 65 #[.pointer (some ⟨p,0,none⟩)] w (eH NmH w p tb (dK l)):=by
 have HK:=Za (ip p tb l 1 (by decide) w h);clear h;obtain⟨R,hR⟩:∃R,dK l=R:=⟨_,rfl⟩;rw[hR];go_enter Tryz.func65,Tryz.ntmps65
 go_wp2_with fail
 refine HK.out.mono ?_;intro e w1 he
 cases hk:gx 1 l with
 |error n=>
  rw[hk]at he;have e1:dK l= .error n:=by unfold dK;rw[hk]
  rw[e1]at hR;subst hR;clear e1;obtain⟨hf,rfl⟩:=he;have HF:=Za hf;clear hf HK;unfold az;go_wp2_with fail
  exact⟨rfl,HF.out,rfl⟩
 |ok q=>
  obtain⟨t,r⟩:=q;rw[hk]at he;have e1:dK l= .ok (t.text,r):=by unfold dK;rw[hk]
  rw[e1]at hR;subst hR;clear e1;obtain⟨hf,v,rfl,hp,hv⟩:=he;have HF:=Za hf;have HP:=Za hp;have hv:v=tkV t:=hv;subst hv;unfold tkV;clear hf hp HK;go_wp2_with fail
  go_ret
  exact⟨HF.out,_,rfl,HP.out,rfl⟩
theorem row_eq {s:ByteArray}{l op:Int}{F1 F2:Value}(hs:s=aB (aU op))(hl:l=aP op):
  ∃f1 f2,Ending.returned (.agg #[.string s,.int .i64 l,F1,F2])= .returned (.agg #[.string (aB (aU op)),.int .i64 (aP op),f1,f2]):=by
 subst hs hl;exact⟨_,_,rfl⟩
theorem pG(op:Int)(w:World):
  Calls Zc 128 #[.int .i64 op] w fun e w'=>(∃f1 f2,e= .returned (.agg #[.string (aB (aU op)),.int .i64 (aP op),f1,f2]))∧Below w.heap.size w w':=by
 go_enter Tryz.func128,Tryz.ntmps128
 go_wp2
 all_goals(refine bodyPost_ret (by simp [results,Tryz.results128,go_sem];rfl) rfl ?_)
 all_goals(refine⟨row_eq ?_ ?_,by repeat(first|exact Below.refl _ _|refine Below.alloc ?_ (Zf _) _)⟩)
 all_goals(simp only[beq_iff_eq,beq_eq_false_iff_ne,ne_eq]at*;simp [aU,aP,aB, *])
@[go_sem] theorem field_row0 (a b c d:Value) (w:World):(Instr.field 157 (.agg #[a,b,c,d]) 0).run Zc w= .ok a w:=by kernel_rfl
@[go_sem] theorem field_row1 (a b c d:Value) (w:World):(Instr.field 157 (.agg #[a,b,c,d]) 1).run Zc w= .ok b w:=by kernel_rfl
theorem gD(op:Int)(w:World):
  Calls Zc 74 #[.int .i64 op] w fun e w'=>e= .returned (.int .i64 (aP op))∧Below w.heap.size w w':=by
 go_enter Tryz.func74,Tryz.ntmps74
 go_wp2_with fail
 refine(pG op _).mono ?_;rintro e w1 ⟨⟨f1,f2,rfl⟩,hb⟩;go_wp2_with fail
 go_ret
 exact⟨rfl,hb⟩
theorem cx(op:Int)(w:World):
  Calls Zc 71 #[.int .i64 op] w fun e w'=>e= .returned (.tuple #[.string (aB (aU op)),.bool (!(aU op).isEmpty)])∧Below w.heap.size w w':=by
 go_enter Tryz.func71,Tryz.ntmps71
 go_wp2_with fail
 refine(pG op _).mono ?_;rintro e w1 ⟨⟨f1,f2,rfl⟩,hb⟩;go_wp2_with fail
 go_ret2
 exact⟨by simp [aB],hb⟩
theorem tJ(p tb:Nat)(t:Tk)(r:List Tk)(w:World)(h:Ps w p tb (t::r))(y:isP (aU 17) t=true):
  Calls Zc 162 #[.pointer (some ⟨p,0,none⟩)] w fun e w'=>e= .returned (.int .i64 17)∧SFr p w w'∧Ps w' p tb r:=by
 have Y:Hid (∀w1,Ps w1 p tb (t::r)→_):=fun w1 h1=>bE p tb t r (aU 17) w1 h1 y
 have HP0:=Za h;clear h y;have HF0:=Za (SFr.refl p w);go_enter Tryz.func162,Tryz.ntmps162
 go_wp2_with fail
 refine wp_loop_rounds 1 ?_;rw[rounds_succ];go_wp2_with fail
 refine(cx 17 _).mono ?_;rintro e w1 ⟨rfl,hb⟩;have HP1:=Za (HP0.out.old hb);have HF1:=Za (HF0.out.trans (Zb hb));clear hb;go_wp2_with fail
 refine(Y.out _ HP1.out).mono ?_;rintro e w2 ⟨rfl,hf,hp⟩;have HF:=Za (HF1.out.trans hf);have HP:=Za hp;clear hf hp;go_wp2_with fail
 go_ret
 exact⟨rfl,HF.out,HP.out⟩
theorem uV(p tb:Nat)(t:Tk)(r:List Tk)(w:World)(h:Ps w p tb (t::r))(n17:isP (aU 17) t=false)(y:isP (aU 18) t=true):
  Calls Zc 162 #[.pointer (some ⟨p,0,none⟩)] w fun e w'=>e= .returned (.int .i64 18)∧SFr p w w'∧Ps w' p tb r:=by
 have N17:Hid (∀w1,Ps w1 p tb (t::r)→_):=fun w1 h1=>aO p tb t r (aU 17) w1 h1 n17
 have Y:Hid (∀w1,Ps w1 p tb (t::r)→_):=fun w1 h1=>bE p tb t r (aU 18) w1 h1 y
 have HP0:=Za h;clear h n17 y;have HF0:=Za (SFr.refl p w);go_enter Tryz.func162,Tryz.ntmps162
 go_wp2_with fail
 refine wp_loop_rounds 2 ?_;rw[rounds_succ];go_wp2_with fail
 refine(cx 17 _).mono ?_;rintro e w1 ⟨rfl,hb⟩;have HP1:=Za (HP0.out.old hb);have HF1:=Za (HF0.out.trans (Zb hb));clear hb;go_wp2_with fail
 refine(N17.out _ HP1.out).mono ?_;rintro e w2 ⟨rfl,hb⟩;have HP2:=Za (HP1.out.old hb);have HF2:=Za (HF1.out.trans (Zb hb));clear hb;go_wp2_with fail
 rw[rounds_succ];go_wp2_with fail
 refine(cx 18 _).mono ?_;rintro e w1 ⟨rfl,hb⟩;have HP3:=Za (HP2.out.old hb);have HF3:=Za (HF2.out.trans (Zb hb));clear hb;go_wp2_with fail
 refine(Y.out _ HP3.out).mono ?_;rintro e w2 ⟨rfl,hf,hp⟩;have HF:=Za (HF3.out.trans hf);have HP:=Za hp;clear hf hp;go_wp2_with fail
 go_ret
 exact⟨rfl,HF.out,HP.out⟩
theorem uI(p tb:Nat)(t:Tk)(r:List Tk)(w:World)(h:Ps w p tb (t::r))(n17:isP (aU 17) t=false)(n18:isP (aU 18) t=false)(y:isP (aU 19) t=true):
  Calls Zc 162 #[.pointer (some ⟨p,0,none⟩)] w fun e w'=>e= .returned (.int .i64 19)∧SFr p w w'∧Ps w' p tb r:=by
 have N17:Hid (∀w1,Ps w1 p tb (t::r)→_):=fun w1 h1=>aO p tb t r (aU 17) w1 h1 n17
 have N18:Hid (∀w1,Ps w1 p tb (t::r)→_):=fun w1 h1=>aO p tb t r (aU 18) w1 h1 n18
 have Y:Hid (∀w1,Ps w1 p tb (t::r)→_):=fun w1 h1=>bE p tb t r (aU 19) w1 h1 y
 have HP0:=Za h;clear h n17 n18 y;have HF0:=Za (SFr.refl p w);go_enter Tryz.func162,Tryz.ntmps162
 go_wp2_with fail
 refine wp_loop_rounds 3 ?_;rw[rounds_succ];go_wp2_with fail
 refine(cx 17 _).mono ?_;rintro e w1 ⟨rfl,hb⟩;have HP1:=Za (HP0.out.old hb);have HF1:=Za (HF0.out.trans (Zb hb));clear hb;go_wp2_with fail
 refine(N17.out _ HP1.out).mono ?_;rintro e w2 ⟨rfl,hb⟩;have HP2:=Za (HP1.out.old hb);have HF2:=Za (HF1.out.trans (Zb hb));clear hb;go_wp2_with fail
 rw[rounds_succ];go_wp2_with fail
 refine(cx 18 _).mono ?_;rintro e w1 ⟨rfl,hb⟩;have HP3:=Za (HP2.out.old hb);have HF3:=Za (HF2.out.trans (Zb hb));clear hb;go_wp2_with fail
 refine(N18.out _ HP3.out).mono ?_;rintro e w2 ⟨rfl,hb⟩;have HP4:=Za (HP3.out.old hb);have HF4:=Za (HF3.out.trans (Zb hb));clear hb;go_wp2_with fail
 rw[rounds_succ];go_wp2_with fail
 refine(cx 19 _).mono ?_;rintro e w1 ⟨rfl,hb⟩;have HP5:=Za (HP4.out.old hb);have HF5:=Za (HF4.out.trans (Zb hb));clear hb;go_wp2_with fail
 refine(Y.out _ HP5.out).mono ?_;rintro e w2 ⟨rfl,hf,hp⟩;have HF:=Za (HF5.out.trans hf);have HP:=Za hp;clear hf hp;go_wp2_with fail
 go_ret
 exact⟨rfl,HF.out,HP.out⟩
theorem sw(p tb:Nat)(t:Tk)(r:List Tk)(w:World)(h:Ps w p tb (t::r))(n17:isP (aU 17) t=false)(n18:isP (aU 18) t=false)(n19:isP (aU 19) t=false):
  Calls Zc 162 #[.pointer (some ⟨p,0,none⟩)] w fun e w'=>e= .returned (.int .i64 0)∧SFr p w w'∧Ps w' p tb (t::r):=by
 have N17:Hid (∀w1,Ps w1 p tb (t::r)→_):=fun w1 h1=>aO p tb t r (aU 17) w1 h1 n17
 have N18:Hid (∀w1,Ps w1 p tb (t::r)→_):=fun w1 h1=>aO p tb t r (aU 18) w1 h1 n18
 have N19:Hid (∀w1,Ps w1 p tb (t::r)→_):=fun w1 h1=>aO p tb t r (aU 19) w1 h1 n19
 have HP0:=Za h;clear h n17 n18 n19;have HF0:=Za (SFr.refl p w);go_enter Tryz.func162,Tryz.ntmps162
 go_wp2_with fail
 refine wp_loop_rounds 4 ?_;rw[rounds_succ];go_wp2_with fail
 refine(cx 17 _).mono ?_;rintro e w1 ⟨rfl,hb⟩;have HP1:=Za (HP0.out.old hb);have HF1:=Za (HF0.out.trans (Zb hb));clear hb;go_wp2_with fail
 refine(N17.out _ HP1.out).mono ?_;rintro e w2 ⟨rfl,hb⟩;have HP2:=Za (HP1.out.old hb);have HF2:=Za (HF1.out.trans (Zb hb));clear hb;go_wp2_with fail
 rw[rounds_succ];go_wp2_with fail
 refine(cx 18 _).mono ?_;rintro e w1 ⟨rfl,hb⟩;have HP3:=Za (HP2.out.old hb);have HF3:=Za (HF2.out.trans (Zb hb));clear hb;go_wp2_with fail
 refine(N18.out _ HP3.out).mono ?_;rintro e w2 ⟨rfl,hb⟩;have HP4:=Za (HP3.out.old hb);have HF4:=Za (HF3.out.trans (Zb hb));clear hb;go_wp2_with fail
 rw[rounds_succ];go_wp2_with fail
 refine(cx 19 _).mono ?_;rintro e w1 ⟨rfl,hb⟩;have HP5:=Za (HP4.out.old hb);have HF5:=Za (HF4.out.trans (Zb hb));clear hb;go_wp2_with fail
 refine(N19.out _ HP5.out).mono ?_;rintro e w2 ⟨rfl,hb⟩;have HP6:=Za (HP5.out.old hb);have HF6:=Za (HF5.out.trans (Zb hb));clear hb;go_wp2_with fail
 rw[rounds_succ];go_wp2_with fail
 go_ret
 exact⟨rfl,HF6.out,HP6.out⟩
theorem sM(lv:Int)(t:Tk)(r:List Tk):cJ lv (t::r)=((((Zd 16).map fun i:Nat=>(i:Int)+1).find? fun op=>isP (aU op) t && decide (lv≤aP op))).getD 0:=rfl
theorem find_at(f:Int→Bool)(k:Nat)(hk:k<16)(hno:∀j,j<k→f ((j:Int)+1)=false)(hy:f ((k:Int)+1)=true):(((Zd 16).map fun i:Nat=>(i:Int)+1).find? f).getD 0=(k:Int)+1:=by
 rcases hf:((Zd 16).map fun i:Nat=>(i:Int)+1).find? f with _|op
 ·rw[List.find?_eq_none]at hf
  have:=hf ((k:Int)+1) (List.mem_map.2 ⟨k,List.mem_range.2 hk,rfl⟩);rw[hy]at this;simp at this
 ·rw[List.find?_eq_some_iff_append]at hf
  obtain⟨ho,xs,ys,hl,hn⟩:=hf;obtain⟨j,hj,rfl⟩:=List.mem_map.1 (show op∈(Zd 16).map fun i:Nat=>(i:Int)+1 by rw[hl];simp);have hj:=List.mem_range.1 hj;rcases Nat.lt_trichotomy j k with h|h|h
  ·rw[hno j h]at ho;cases ho
  ·rw[h];rfl
  ·exfalso
   have e1:xs.length=j:=by
    have g1:((Zd 16).map fun i:Nat=>(i:Int)+1)[xs.length]? =some ((j:Int)+1):=by rw[hl];simp
    rw[List.getElem?_map]at g1;have hlt:xs.length<16:=by
     have:=congrArg List.length hl;simp at this;omega
    rw[List.getElem?_range hlt]at g1;simp at g1;omega
   have hm:((k:Int)+1)∈xs:=by
    have g2:((Zd 16).map fun i:Nat=>(i:Int)+1)[k]? =some ((k:Int)+1):=by rw[List.getElem?_map,List.getElem?_range hk];rfl
    rw[hl,List.getElem?_append_left (by omega)]at g2;exact List.mem_of_getElem? g2
   have:=hn _ hm;rw[hy]at this;cases this
theorem nT(f:Int→Bool)(hno:∀j:Nat,j<16→f ((j:Int)+1)=false):(((Zd 16).map fun i:Nat=>(i:Int)+1).find? f).getD 0=0:=by
 have:((Zd 16).map fun i:Nat=>(i:Int)+1).find? f=none:=by
  rw[List.find?_eq_none];intro x hx;obtain⟨j,hj,rfl⟩:=List.mem_map.1 hx;rw[hno j (List.mem_range.1 hj)];decide
 rw[this];rfl
theorem qC(p tb:Nat)(l:List Tk)(lv:Int)(w:World)(h:Ps w p tb l):
  Calls Zc 119 #[.pointer (some ⟨p,0,none⟩),.int .i64 lv] w fun e w'=>e= .returned (.int .i64 (cJ lv l))∧Below w.heap.size w w':=by
 obtain⟨t,r,rfl⟩:=h.ends.ne;rw[sM];obtain⟨f,hf⟩:∃f:Int→Bool,f=fun op=>isP (aU op) t && decide (lv≤aP op):=⟨_,rfl⟩
 rw[←hf];have HN:=Za (nT f);have HA:=Za (find_at f);have HPS:=Za h;have HFE:Hid (∀op,f op=(isP (aU op) t && decide (lv≤aP op))):=fun op=>by rw[hf]
 clear h hf;generalize (((Zd 16).map fun i:Nat=>(i:Int)+1).find? f).getD 0=R at*;go_enter Tryz.func119,Tryz.ntmps119
 go_wp2_with fail
 go_loopw [5] (fun s5 wr=> ∃k:Nat,k≤16∧s5= .int .i64 ((k:Int)+1)∧(∀j:Nat,j<k→f ((j:Int)+1)=false)∧Below w.heap.size w wr) (fun s5 _=>17 - (intOf s5).toNat)
 case atStart=>exact⟨0,by omega,rfl,fun j hj=>by omega,Below.refl _ _⟩
 case round=>
  obtain⟨k,hk,rfl,hno,hb⟩:=hrel;have HNO:=Za hno;have HB:=Za hb;clear hno hb
  by_cases hlt:k<16
  ·have hle:(k:Int)+1≤16:=by omega
   have hge:(0:Int)≤(k:Int)+1:=by omega
   have hw1:IntKind.i64.wrap ((k:Int)+1+1)=(k:Int)+1+1:=IntWalk.i64_in _ (by omega);have HI:Hid (∀w1,Ps w1 p tb (t::r)→_):=fun w1 h1=>nt p tb t r (aU ((k:Int)+1)) w1 h1
   go_wp2_with fail
   refine(cx ((k:Int)+1) _).mono ?_;rintro e w1 ⟨rfl,hb⟩;have HB1:=Za (HB.out.trans (hb.mono HB.out.size));clear hb;go_wp2_with fail
   refine(HI.out _ (HPS.out.old HB1.out)).mono ?_;rintro e w2 ⟨rfl,hb⟩;have HB2:=Za (HB1.out.trans (hb.mono HB1.out.size));clear hb HI
   cases hi:isP (aU ((k:Int)+1)) t with
   |false=>
    have HF:Hid (f ((k:Int)+1)=false):=by show _=_;rw[HFE.out,hi];rfl
    clear hi;go_wp2_with fail
    go_roundw
    case rel=>exact⟨k+1,by omega,by rw[Int.natCast_succ],fun j hj=>by
     rcases Nat.lt_succ_iff_lt_or_eq.1 hj with h'|rfl
     ·exact HNO.out j h'
     ·exact HF.out,HB2.out⟩
    case measure=>simp only[intOf];omega
   |true=>
    by_cases hl:lv≤aP ((k:Int)+1)
    ·have HF:Hid (f ((k:Int)+1)=true):=by show _=_;rw[HFE.out,hi,decide_eq_true hl];rfl
     clear hi;go_wp2_with fail
     refine(gD ((k:Int)+1) _).mono ?_;rintro e w3 ⟨rfl,hb⟩;have HB3:=Za (HB2.out.trans (hb.mono HB2.out.size));clear hb;go_wp2_with fail
     go_ret
     exact⟨e9 (HA.out k hlt HNO.out HF.out).symm,HB3.out⟩
    ·have HF:Hid (f ((k:Int)+1)=false):=by show _=_;rw[HFE.out,hi,decide_eq_false hl];rfl
     have hl':aP ((k:Int)+1)<lv:=by omega
     clear hi;go_wp2_with fail
     refine(gD ((k:Int)+1) _).mono ?_;rintro e w3 ⟨rfl,hb⟩;have HB3:=Za (HB2.out.trans (hb.mono HB2.out.size));clear hb;go_wp2_with fail
     go_roundw
     case rel=>exact⟨k+1,by omega,by rw[Int.natCast_succ],fun j hj=>by
      rcases Nat.lt_succ_iff_lt_or_eq.1 hj with h'|rfl
      ·exact HNO.out j h'
      ·exact HF.out,HB3.out⟩
     case measure=>simp only[intOf];omega
  ·obtain rfl:k=16:=by omega
   clear hlt;go_wp2_with fail
   go_ret
   exact⟨e9 (HN.out HNO.out).symm,HB.out⟩
theorem aJ.strong {D:Nat→Prop}{w:World}{l:List Ex}{v:Value}(h:aJ D w l v):aJ (fun b=>D b∧b<w.heap.size) w l v:=by
 induction h with
 |mk l a cap b off sv hcap hfit ha h0 h1 h2 h3 h4 _ hn ih=>
  refine .mk l a cap b off sv hcap hfit ?_ h0 h1 h2 h3 h4 ih hn;rcases ha with ha|⟨ha,hD⟩
  ·exact .inl ha
  ·rcases Nat.eq_zero_or_pos l.length with hz|hz
   ·exact .inl hz
   ·exact .inr ⟨ha,hD,World.block_lt_of_cell? _ _ (h0 0 hz)⟩
def cz(ps:List (Ex ×Value)):List Value:=ps.flatMap fun p=>aj p.1 p.2
theorem kJ:∀ps,(cz ps).length=ps.length*5
 |[]=>rfl
 |p::ps=>by
  have:=kJ ps;unfold cz at*;simp only[List.flatMap_cons,List.length_append,Zg];rw[this];simp [aj];omega
theorem pd:∀(ps:List (Ex ×Value)) (i q:Nat) (p:Ex ×Value),ps[i]? =some p→q<5→(cz ps)[i*5+q]? =(aj p.1 p.2)[q]?
 |[],i,q,p,h,_=>by simp at h
 |x::ps,0,q,p,h,hq=>by
  simp at h;subst h;unfold cz;rw[List.flatMap_cons,List.getElem?_append_left (by simp [aj];omega)];simp
 |x::ps,i+1,q,p,h,hq=>by
  simp at h;have:=pd ps i q p h hq;unfold cz at*;rw[List.flatMap_cons,List.getElem?_append_right (by simp [aj];omega)];rw[←this];congr 1;simp [aj];omega
theorem kN(a c:List (Ex ×Value)):cz (a++c)=cz a++cz c:=by unfold cz;rw[List.flatMap_append]
def bG(w:World)(base:Nat)(ps:List (Ex ×Value))(v:Value):Prop:=
 w.ownsRow base 27 5 v ps.length (cz ps)∧∀p,p∈ps→aJ (fun b=>base≤b∧v.ownBlock≠some b) w p.1.args p.2∧I64 p.1.n
theorem bG.zero(w:World)(base:Nat):bG w base [] (.slice none 0 0):=⟨⟨rfl,.inl ⟨rfl,rfl⟩⟩,fun p hp=>by cases hp⟩
theorem bG.keep {w w':World}{base:Nat}{ps:List (Ex ×Value)}{v:Value}(h:bG w base ps v)(hk:∀k,k<w.heap.size→base≤k→w'.heap[k]? =w.heap[k]?):bG w' base ps v:=by
 refine⟨⟨h.1.1,?_⟩,fun p hp=>⟨(h.2 p hp).1.keep (fun b off x hb hx=>by rw[World.cell?_of_block (w:=w) (hk b (World.block_lt_of_cell? _ _ hx) hb.1)];exact hx),(h.2 p hp).2⟩⟩;rcases h.1.2 with hn|⟨g,cap,cur,rfl,hb,hg,r⟩
 ·exact .inl hn
 ·refine .inr ⟨g,cap,cur,rfl,hb,?_,r⟩
  rw[hk g (by
   rcases Nat.lt_or_ge g w.heap.size with h'|h'
   ·exact h'
   ·simp [Array.getElem?_eq_none h']at hg) hb]
  exact hg
theorem bG.exs {w:World}{base:Nat}{ps:List (Ex ×Value)}{v:Value}(h:bG w base ps v)(hf:br ps.length):aJ (base≤ ·) w (ps.map (·.1)) v:=by
 have hl:(ps.map (·.1)).length=ps.length:=List.length_map _;rcases h.1.2 with⟨rfl,h0⟩|⟨g,cap,cur,rfl,hb,hg,hc,hm,hs,ht⟩
 ·have:ps=[]:=List.length_eq_zero_iff.1 h0
  subst this;exact aJ.zero
 ·have cell:∀i q p u,ps[i]? =some p→q<5→(aj p.1 p.2)[q]? =some u→w.cell? ⟨g,0+i*5+q,none⟩=some u:=by
   intro i q p u hp hq hu;have h1:=h.1.cells (g:=g) rfl (i*5+q) u (by rw[pd ps i q p hp hq];exact hu);have h2:(⟨g,0,none⟩:Addr).add (i*5+q)=⟨g,0+i*5+q,none⟩:=by unfold Addr.add;split<;>simp_all<;>omega
   rwa[h2]at h1
  have get:∀i,i<(ps.map (·.1)).length→∃p,ps[i]? =some p∧bI (ps.map (·.1)) i=p.1∧p∈ps:=by
   intro i hi;rw[hl]at hi;refine⟨ps[i],List.getElem?_eq_getElem hi,?_,List.getElem_mem hi⟩;simp [bI,List.getElem?_eq_getElem hi]
  have e:=aJ.mk (D:=(base≤ ·)) (w:=w) (ps.map (·.1)) (some ⟨g,0,none⟩) cap g 0 (fun i=>(ps.getD i (Ex.nil,undef)).2) (by rw[hl];exact hc) (by rw[hl];exact hf) (.inr ⟨rfl,hb⟩);rw[hl]at e;have sv:∀i p,ps[i]? =some p→(ps.getD i (Ex.nil,undef)).2=p.2:=fun i p hp=>by rw[List.getD_eq_getElem?_getD,hp];rfl
  have gp:∀i,i<ps.length→∃p,ps[i]? =some p∧bI (ps.map (·.1)) i=p.1∧p∈ps:=fun i hi=>get i (by rw[hl];exact hi)
  refine e (fun i hi=> ?_) (fun i hi=> ?_) (fun i hi=> ?_) (fun i hi=> ?_) (fun i hi=> ?_) (fun i hi=> ?_) (fun i hi=> ?_)
  all_goals
   obtain⟨p,hp,hx,hm⟩:=gp i hi
   try rw[hx]
   try rw[sv i p hp]
  ·exact cell i 0 p _ hp (by omega) rfl
  ·exact cell i 1 p _ hp (by omega) rfl
  ·exact cell i 2 p _ hp (by omega) rfl
  ·exact cell i 3 p _ hp (by omega) rfl
  ·exact cell i 4 p _ hp (by omega) rfl
  ·exact(h.2 p hm).1.mono (fun b hb=>hb.1)
  ·exact(h.2 p hm).2
theorem bG.snoc {w w':World}{base:Nat}{ps:List (Ex ×Value)}{v:Value}(h:bG w base ps v)(x:Ex)(xv:Value)(hx:aJ (fun b=>base≤b∧v.ownBlock≠some b) w x.args xv)(hn:I64 x.n){g cap:Nat}
  (hown:w'.ownsRow base 27 5 (.slice (some ⟨g,0,none⟩) (ps.length+1) cap) (ps.length+1) (cz ps++aj x xv)) (hgrow:w.grownBy w' v.ownBlock) (hg:v.ownBlock=some g∨g=w.heap.size):
  bG w' base (ps++[(x,xv)]) (.slice (some ⟨g,0,none⟩) (ps.length+1) cap):=by
 have hl:(ps++[(x,xv)]).length=ps.length+1:=by simp
 have hfl:cz (ps++[(x,xv)])=cz ps++aj x xv:=by rw[kN];simp [cz]
 have keep:∀(l:List Ex) (u:Value),aJ (fun b=>base≤b∧v.ownBlock≠some b) w l u→aJ (fun b=>base≤b∧(Value.slice (some ⟨g,0,none⟩) (ps.length+1) cap).ownBlock≠some b) w' l u:=by
  intro l u hu;have h1:aJ (fun b=>(base≤b∧v.ownBlock≠some b)∧b<w.heap.size) w l u:=hu.strong;have h2:aJ (fun b=>(base≤b∧v.ownBlock≠some b)∧b<w.heap.size) w' l u:=h1.keep (fun b off y hb hy=>hgrow.cell hy (fun e=>hb.1.2 e.symm));refine h2.mono (fun b hb=>⟨hb.1.1,?_⟩);show some g≠some b
  intro e
  cases e
  rcases hg with hg|hg
  ·exact hb.1.2 hg
  ·omega
 refine⟨by rw[hl,hfl];exact hown,fun p hp=> ?_⟩;rcases List.mem_append.1 hp with hp|hp
 ·exact⟨keep _ _ (h.2 p hp).1,(h.2 p hp).2⟩
 ·rw[List.mem_singleton.1 hp];exact⟨keep _ _ hx,hn⟩
def ExH(B:Nat)(x:Ex)(v:Value)(w:World):Prop:= ∃s,v=exV x s∧aJ (B≤ ·) w x.args s∧I64 x.n
def ExsH(B:Nat)(l:List Ex)(v:Value)(w:World):Prop:=aJ (B≤ ·) w l v
def ns(f:Nat):Prop:= ∀lv l w p tb,4*l.length+2≤f→Ps w p tb l→Calls Zc 60 #[.pointer (some ⟨p,0,none⟩),.int .i64 lv] w (eH (ExH w.heap.size) w p tb (ar f lv l))
def ji(f:Nat):Prop:= ∀l w p tb,4*l.length+2≤f→Ps w p tb l→Calls Zc 27 #[.pointer (some ⟨p,0,none⟩)] w (eH (ExH w.heap.size) w p tb (ar f 1 l))
def mG(f:Nat):Prop:= ∀l w p tb,4*l.length+1≤f→Ps w p tb l→Calls Zc 118 #[.pointer (some ⟨p,0,none⟩)] w (eH (ExH w.heap.size) w p tb (bH f l))
def oG(f:Nat):Prop:= ∀s l w p tb,4*l.length+1≤f→Ps w p tb l→Calls Zc 163 #[.pointer (some ⟨p,0,none⟩),.string (aB s)] w (eH (ExH w.heap.size) w p tb (cQ f s l))
def sC(f:Nat):Prop:= ∀l w p tb,4*l.length+4≤f→Ps w p tb l→Calls Zc 201 #[.pointer (some ⟨p,0,none⟩)] w (eH (ExsH w.heap.size) w p tb (eP f l))
theorem i7 {w:World}{b:Nat}{T:TypeId}{a0 a1 a2 a3 a4:Value}(h:aG w b [a0,a1,a2,a3,a4] T)(c0 c1 c2 c3 c4:Value):aG (((((w.setCell ⟨b,0,none⟩ c0).setCell ⟨b,1,none⟩ c1).setCell ⟨b,2,none⟩ c2).setCell ⟨b,3,none⟩ c3).setCell ⟨b,4,none⟩ c4) b [c0,c1,c2,c3,c4] T:=
 ((((h.set 0 c0).set 1 c1).set 2 c2).set 3 c3).set 4 c4
theorem yN {p:Nat}{w w1:World}(h:SFr p w w1){b:Nat}(hb:w.heap.size≤b)(c0 c1 c2 c3 c4:Value):SFr p w (((((w1.setCell ⟨b,0,none⟩ c0).setCell ⟨b,1,none⟩ c1).setCell ⟨b,2,none⟩ c2).setCell ⟨b,3,none⟩ c3).setCell ⟨b,4,none⟩ c4):=
 ((((h.setNew hb 0 c0).setNew hb 1 c1).setNew hb 2 c2).setNew hb 3 c3).setNew hb 4 c4
theorem ps5 {w:World}{p tb:Nat}{l:List Tk}(h:Ps w p tb l){b:Nat}(hb:p<b)(c0 c1 c2 c3 c4:Value):Ps (((((w.setCell ⟨b,0,none⟩ c0).setCell ⟨b,1,none⟩ c1).setCell ⟨b,2,none⟩ c2).setCell ⟨b,3,none⟩ c3).setCell ⟨b,4,none⟩ c4) p tb l:=
 ((((h.other hb 0 c0).other hb 1 c1).other hb 2 c2).other hb 3 c3).other hb 4 c4
theorem gW {D:Nat→Prop}(w:World){b:Nat}(hb:¬D b)(c0 c1 c2 c3 c4:Value):cd D w (((((w.setCell ⟨b,0,none⟩ c0).setCell ⟨b,1,none⟩ c1).setCell ⟨b,2,none⟩ c2).setCell ⟨b,3,none⟩ c3).setCell ⟨b,4,none⟩ c4):=
 ((((aN w hb 0 c0).trans (aN _ hb 1 c1)).trans (aN _ hb 2 c2)).trans (aN _ hb 3 c3)).trans (aN _ hb 4 c4)
theorem bL {w:World}{b:Nat}{T:TypeId}{a0 a1 a2 a3 a4:Value}(h:aG w b [a0,a1,a2,a3,a4] T):(w.cell? ⟨b,0,none⟩=some a0∧w.cell? ⟨b,1,none⟩=some a1∧w.cell? ⟨b,2,none⟩=some a2∧w.cell? ⟨b,3,none⟩=some a3∧w.cell? ⟨b,4,none⟩=some a4)∧
  w.frozen? ⟨b,0,none⟩=false∧w.frozen? ⟨b,1,none⟩=false∧w.frozen? ⟨b,2,none⟩=false∧w.frozen? ⟨b,3,none⟩=false∧w.frozen? ⟨b,4,none⟩=false:=
 ⟨⟨h.at 0 _ rfl,h.at 1 _ rfl,h.at 2 _ rfl,h.at 3 _ rfl,h.at 4 _ rfl⟩,h.fz 0,h.fz 1,h.fz 2,h.fz 3,h.fz 4⟩
theorem jQ {w W:World}{p tb:Nat}{l:List Tk}{x:Ex}{s:Value}(hp:p<w.heap.size)(HF:SFr p w W)(HP:Ps W p tb l)(HX:aJ (w.heap.size+1≤ ·) W x.args s)(hn:I64 x.n)(c0 c1 c2 c3 c4:Value):
  eH (ExH w.heap.size) w p tb (.ok (x,l)) (.returned (exV x s)) (((((W.setCell ⟨w.heap.size,0,none⟩ c0).setCell ⟨w.heap.size,1,none⟩ c1).setCell ⟨w.heap.size,2,none⟩ c2).setCell ⟨w.heap.size,3,none⟩ c3).setCell ⟨w.heap.size,4,none⟩ c4):=
 ⟨yN HF (Zf _) _ _ _ _ _,_,rfl,ps5 HP hp _ _ _ _ _,_,rfl,(HX.keep (gW W (by show ¬w.heap.size+1≤w.heap.size;omega) _ _ _ _ _)).mono (fun b hb=>by have:w.heap.size+1≤b:=hb;omega),hn⟩
theorem aJ.up {B B':Nat}{w:World}{l:List Ex}{v:Value}(h:aJ (B≤ ·) w l v)(hb:B'≤B):aJ (B'≤ ·) w l v:=h.mono (fun b hx=>Nat.le_trans hb hx)
theorem tM {w:World}{B:Nat}{x:Ex}{s:Value}(h:aJ (B≤ ·) w x.args s)(hn:I64 x.n)(hB:B≤w.heap.size):
  aJ (B≤ ·) (w.alloc (.cells #[.int .i64 x.kind,.int .i64 x.op,.int .i64 x.n,.string (aB x.name),s] 27)) [x] (.slice (some ⟨w.heap.size,0,none⟩) 1 1):=
 .one x s hB (cN.new w (aj x s) 27) (h.old (bA)) hn
theorem ex_box2 {w:World}{B:Nat}{x y:Ex}{s u:Value}(h:aJ (B≤ ·) w x.args s)(hn:I64 x.n)(k:aJ (B≤ ·) w y.args u)(hm:I64 y.n)(hB:B≤w.heap.size):
  aJ (B≤ ·) (w.alloc (.cells #[.int .i64 x.kind,.int .i64 x.op,.int .i64 x.n,.string (aB x.name),s,.int .i64 y.kind,.int .i64 y.op,.int .i64 y.n,.string (aB y.name),u] 27)) [x,y] (.slice (some ⟨w.heap.size,0,none⟩) 2 2):=
 .two x y s u hB (cN.new w (aj x s++aj y u) 27) (h.old (bA)) hn (k.old (bA)) hm
theorem iQ(W:World)(b:Nat)(c0 c1 c2 c3 c4:Value):(((((W.setCell ⟨b,0,none⟩ c0).setCell ⟨b,1,none⟩ c1).setCell ⟨b,2,none⟩ c2).setCell ⟨b,3,none⟩ c3).setCell ⟨b,4,none⟩ c4).heap.size=W.heap.size:=by simp [World.setCell]
theorem ug {w W:World}{p tb:Nat}{l:List Tk}{x y:Ex}{s:Value}(hp:p<w.heap.size)(HF:SFr p w W)(HP:Ps W p tb l)(HX:aJ (w.heap.size+1≤ ·) W x.args s)(hn:I64 x.n)(hlt:w.heap.size<W.heap.size)(hy:y.args=[x])(hyn:I64 y.n)(c0 c1 c2 c3 c4:Value):
  eH (ExH w.heap.size) w p tb (.ok (y,l)) (.returned (exV y (.slice (some ⟨W.heap.size,0,none⟩) 1 1))) ((((((W.setCell ⟨w.heap.size,0,none⟩ c0).setCell ⟨w.heap.size,1,none⟩ c1).setCell ⟨w.heap.size,2,none⟩ c2).setCell ⟨w.heap.size,3,none⟩ c3).setCell ⟨w.heap.size,4,none⟩ c4).alloc (.cells #[.int .i64 x.kind,.int .i64 x.op,.int .i64 x.n,.string (aB x.name),s] 27)):=by
 have h1:=HX.keep (gW W (show ¬w.heap.size+1≤w.heap.size by omega) c0 c1 c2 c3 c4);have h2:=tM h1 hn (by rw[iQ];omega);rw[iQ]at h2;refine⟨(yN HF (Zf _) c0 c1 c2 c3 c4).trans (Zb (bA)),_,rfl,(ps5 HP hp c0 c1 c2 c3 c4).alloc _,_,rfl,?_,hyn⟩;rw[hy];exact h2.mono (fun b hb=>by have:w.heap.size+1≤b:=hb;omega)
theorem dz:I64 0:=⟨by decide,by decide⟩
theorem qJ(f:Nat)(ih:sC f)(s:Bs)(t:Tk)(r:List Tk)(w:World)(p tb:Nat)(hl:4*(t::r).length+1≤f+1)(h:Ps w p tb (t::r))(y:isP [40] t=true):
  Calls Zc 163 #[.pointer (some ⟨p,0,none⟩),.string (aB s)] w (eH (ExH w.heap.size) w p tb (cQ (f+1) s (t::r))):=by
 have HPW:=Za h.lt;have HNE:Hid (w.heap.size≠p):=by show _≠_;have:=h.lt;omega
 have hb0:Below w.heap.size w (w.alloc (.cells #[.int .i64 0,.int .i64 0,.int .i64 0,.string ⟨#[]⟩,.slice none 0 0] 27)):=bA;have HF0:Hid (SFr p w (w.alloc (.cells #[.int .i64 0,.int .i64 0,.int .i64 0,.string ⟨#[]⟩,.slice none 0 0] 27))):=Zb hb0;have HR0:=Za (Ze w [.int .i64 0,.int .i64 0,.int .i64 0,.string ⟨#[]⟩,.slice none 0 0] 27);have HP0:=Za (h.old hb0);clear hb0;obtain⟨R,hR⟩:∃R,cQ (f+1) s (t::r)=R:=⟨_,rfl⟩;rw[hR];have HRR:=Za hR;clear hR;have HY:=Za y;have HT:Hid (∀w1,Ps w1 p tb (t::r)→_):=fun w1 h1=>bE p tb t r [40] w1 h1 y
 rw[Zg]at hl;have HC:Hid (∀w1,Ps w1 p tb r→_):=fun w1 h1=>ih r w1 p tb (by omega) h1
 clear y hl ih;clear h;go_enter Tryz.func163,Tryz.ntmps163
 go_wp2_with fail
 refine(HT.out _ HP0.out).mono ?_;rintro e w1 ⟨rfl,hf,hp⟩;have HF1:=Za (HF0.out.trans hf);have HP1:=Za hp;have HR1:=Za (HR0.out.sfr hf HNE.out);clear hf hp;go_wp2_with fail
 refine(HC.out _ HP1.out).mono ?_;intro e w2 he
 cases hA:eP f r with
 |error n=>
  rw[hA]at he;obtain⟨hf,rfl⟩:=he;have HF:=Za (HF1.out.trans hf);have e1:cQ (f+1) s (t::r)= .error n:=by rw[cQ,aQ HY.out];dsimp only;rw[hA]
  have e2:=HRR.out.symm.trans e1;subst e2;clear e1 hf;unfold az;go_wp2_with fail
  exact⟨rfl,HF.out,rfl⟩
 |ok q=>
  obtain⟨x,r2⟩:=q;rw[hA]at he;obtain⟨hf,v,rfl,hp,hv⟩:=he;have hv:aJ (w1.heap.size≤ ·) w2 x v:=hv;obtain⟨a1,a2,rfl⟩:=hv.shape;have HX2:=Za (hv.up (show w.heap.size+1≤w1.heap.size from HR1.out.lt));clear hv;have HF2:=Za (HF1.out.trans hf);have HP2:=Za hp;have HR2:=Za (HR1.out.sfr hf HNE.out);clear hf hp;have HA2:=Za hA;clear hA;obtain⟨⟨x0,x1,x2,x3,x4⟩,xf0,xf1,xf2,xf3,xf4⟩:=bL HR2.out;have xlt:=HR2.out.lt;go_wp2_with fail
  have e1:cQ (f+1) s (t::r)= .ok (.mk 5 0 0 s x,r2):=by rw[cQ,aQ HY.out];dsimp only;rw[HA2.out]
  have e2:=HRR.out.symm.trans e1;subst e2;obtain⟨⟨d0,d1,d2,d3,d4⟩,_⟩:=bL (i7 HR2.out (.int .i64 5) (.int .i64 0) (.int .i64 0) (.string (aB s)) (.slice a1 x.length a2));exact bodyPost_ret (v:= .agg #[.int .i64 5,.int .i64 0,.int .i64 0,.string (aB s),.slice a1 x.length a2]) (by simp [results,Tryz.results163,go_sem,d0,d1,d2,d3,d4]) rfl (jQ (x:= .mk 5 0 0 s x) HPW.out HF2.out HP2.out HX2.out dz _ _ _ _ _)
theorem rA(f:Nat)(s:Bs)(t:Tk)(r:List Tk)(w:World)(p tb:Nat)(h:Ps w p tb (t::r))(n1:isP [40] t=false)(n2:isP [91] t=false):
  Calls Zc 163 #[.pointer (some ⟨p,0,none⟩),.string (aB s)] w (eH (ExH w.heap.size) w p tb (cQ (f+1) s (t::r))):=by
 have HPW:=Za h.lt;have HNE:Hid (w.heap.size≠p):=by show _≠_;have:=h.lt;omega
 have hb0:Below w.heap.size w (w.alloc (.cells #[.int .i64 0,.int .i64 0,.int .i64 0,.string ⟨#[]⟩,.slice none 0 0] 27)):=bA;have HF0:Hid (SFr p w (w.alloc (.cells #[.int .i64 0,.int .i64 0,.int .i64 0,.string ⟨#[]⟩,.slice none 0 0] 27))):=Zb hb0;have HR0:=Za (Ze w [.int .i64 0,.int .i64 0,.int .i64 0,.string ⟨#[]⟩,.slice none 0 0] 27);have HP0:=Za (h.old hb0);clear hb0;obtain⟨R,hR⟩:∃R,cQ (f+1) s (t::r)=R:=⟨_,rfl⟩;rw[hR];have HRR:=Za hR;clear hR;have HN1:=Za n1;have HN2:=Za n2;have HT:Hid (∀w1,Ps w1 p tb (t::r)→_):=fun w1 h1=>aO p tb t r [40] w1 h1 n1
 have HU:Hid (∀w1,Ps w1 p tb (t::r)→_):=fun w1 h1=>aO p tb t r [91] w1 h1 n2
 clear n1 n2;clear h;go_enter Tryz.func163,Tryz.ntmps163
 go_wp2_with fail
 refine(HT.out _ HP0.out).mono ?_;rintro e w1 ⟨rfl,hb⟩;have HF1:=Za (HF0.out.trans (Zb hb));have HP1:=Za (HP0.out.old hb);have HR1:=Za (HR0.out.old hb);clear hb;go_wp2_with fail
 refine(HU.out _ HP1.out).mono ?_;rintro e w2 ⟨rfl,hb⟩;have HF2:=Za (HF1.out.trans (Zb hb));have HP2:=Za (HP1.out.old hb);have HR2:=Za (HR1.out.old hb);clear hb;obtain⟨⟨x0,x1,x2,x3,x4⟩,xf0,xf1,xf2,xf3,xf4⟩:=bL HR2.out;have xlt:=HR2.out.lt;go_wp2_with fail
 have e1:cQ (f+1) s (t::r)= .ok (.mk 2 0 0 s [],t::r):=by rw[cQ,aH HN1.out];dsimp only;rw[aH HN2.out]
 have e2:=HRR.out.symm.trans e1;subst e2;obtain⟨⟨d0,d1,d2,d3,d4⟩,_⟩:=bL (i7 HR2.out (.int .i64 2) (.int .i64 0) (.int .i64 0) (.string (aB s)) (.slice none 0 0));exact bodyPost_ret (v:= .agg #[.int .i64 2,.int .i64 0,.int .i64 0,.string (aB s),.slice none 0 0]) (by simp [results,Tryz.results163,go_sem,d0,d1,d2,d3,d4]) rfl (jQ (x:= .mk 2 0 0 s []) HPW.out HF2.out HP2.out aJ.zero dz _ _ _ _ _)
theorem qp(f:Nat)(ih:ji f)(s:Bs)(t:Tk)(r:List Tk)(w:World)(p tb:Nat)(hl:4*(t::r).length+1≤f+1)(h:Ps w p tb (t::r))(n1:isP [40] t=false)(y:isP [91] t=true):
  Calls Zc 163 #[.pointer (some ⟨p,0,none⟩),.string (aB s)] w (eH (ExH w.heap.size) w p tb (cQ (f+1) s (t::r))):=by
 have HPW:=Za h.lt;have HNE:Hid (w.heap.size≠p):=by show _≠_;have:=h.lt;omega
 have hb0:Below w.heap.size w (w.alloc (.cells #[.int .i64 0,.int .i64 0,.int .i64 0,.string ⟨#[]⟩,.slice none 0 0] 27)):=bA;have HF0:Hid (SFr p w (w.alloc (.cells #[.int .i64 0,.int .i64 0,.int .i64 0,.string ⟨#[]⟩,.slice none 0 0] 27))):=Zb hb0;have HR0:=Za (Ze w [.int .i64 0,.int .i64 0,.int .i64 0,.string ⟨#[]⟩,.slice none 0 0] 27);have HP0:=Za (h.old hb0);clear hb0;obtain⟨R,hR⟩:∃R,cQ (f+1) s (t::r)=R:=⟨_,rfl⟩;rw[hR];have HRR:=Za hR;clear hR;have HY:=Za y;have HN1:=Za n1;have HT:Hid (∀w1,Ps w1 p tb (t::r)→_):=fun w1 h1=>aO p tb t r [40] w1 h1 n1
 have HU:Hid (∀w1,Ps w1 p tb (t::r)→_):=fun w1 h1=>bE p tb t r [91] w1 h1 y
 rw[Zg]at hl;have HC:Hid (∀w1,Ps w1 p tb r→_):=fun w1 h1=>ih r w1 p tb (by omega) h1
 clear y n1 hl ih;clear h;go_enter Tryz.func163,Tryz.ntmps163
 go_wp2_with fail
 refine(HT.out _ HP0.out).mono ?_;rintro e w1 ⟨rfl,hb⟩;have HF1:=Za (HF0.out.trans (Zb hb));have HP1:=Za (HP0.out.old hb);have HR1:=Za (HR0.out.old hb);clear hb;go_wp2_with fail
 refine(HU.out _ HP1.out).mono ?_;rintro e w2 ⟨rfl,hf,hp⟩;have HF2:=Za (HF1.out.trans hf);have HP2:=Za hp;have HR2:=Za (HR1.out.sfr hf HNE.out);clear hf hp;go_wp2_with fail
 refine(HC.out _ HP2.out).mono ?_;intro e w3 he
 cases hA:ar f 1 r with
 |error n=>
  rw[hA]at he;obtain⟨hf,rfl⟩:=he;have HF:=Za (HF2.out.trans hf);have e1:cQ (f+1) s (t::r)= .error n:=by rw[cQ,aH HN1.out];dsimp only;rw[aQ HY.out];dsimp only;rw[hA]
  have e2:=HRR.out.symm.trans e1;subst e2;clear e1 hf;unfold az;go_wp2_with fail
  exact⟨rfl,HF.out,rfl⟩
 |ok q=>
  obtain⟨x,r2⟩:=q;rw[hA]at he;obtain⟨hf,v,rfl,hp,hv⟩:=he;obtain⟨s3,rfl,hx,hn⟩:=hv;obtain⟨a1,a2,rfl⟩:=hx.shape;have HX3:=Za (hx.up (show w.heap.size+1≤w2.heap.size from HR2.out.lt));have HN:=Za hn;clear hx hn;have HF3:=Za (HF2.out.trans hf);have HP3:=Za hp;have HR3:=Za (HR2.out.sfr hf HNE.out);clear hf hp;have HA3:=Za hA;clear hA;go_upto_region 5 with(fail)
  obtain⟨W,hW⟩:∃W,w3.alloc (.cells #[.int .i64 x.kind,.int .i64 x.op,.int .i64 x.n,.string (aB x.name),.slice a1 x.args.length a2] 27)=W:=⟨_,rfl⟩;rw[hW];have hba:Below w3.heap.size w3 W:=hW ▸ bA;have HF4:=Za (HF3.out.trans (Zb hba));have HP4:=Za (HP3.out.old hba);have HR4:=Za (HR3.out.old hba);have HX4:=Za (HX3.out.old hba);have HE4:=Za (hW ▸ Ze w3 [.int .i64 x.kind,.int .i64 x.op,.int .i64 x.n,.string (aB x.name),.slice a1 x.args.length a2] 27);have HEP:Hid (w3.heap.size≠p):=by show _≠_;have:=HP3.out.lt;omega
  clear hba hW;obtain⟨w4,hWW⟩:∃w4,w4=W:=⟨_,rfl⟩;subst hWW;have hba:Below w4.heap.size w4 (w4.alloc (.cells #[.string ⟨#[93]⟩] 9)):=bA;have HF5:=Za (HF4.out.trans (Zb hba));have HP5:=Za (HP4.out.old hba);have HR5:=Za (HR4.out.old hba);have HE5:=Za (HE4.out.old hba);have HX5:=Za (HX4.out.old hba);have HWN:=Za (cM p tb r2 [93] _ HP5.out w4.heap.size 1 ((Ze w4 [.string ⟨#[93]⟩] 9).at 0 _ rfl));clear hba;go_wp2_with fail
  refine(HWN.out).mono ?_;intro e w6 he
  cases hA:aV [93] r2 with
  |error n=>
   rw[hA]at he;obtain⟨hf,rfl⟩:=he;have HF:=Za (HF5.out.trans hf);have e1:cQ (f+1) s (t::r)= .error n:=by rw[cQ,aH HN1.out];dsimp only;rw[aQ HY.out];dsimp only;rw[HA3.out];dsimp only;rw[hA]
   have e2:=HRR.out.symm.trans e1;subst e2;clear e1 hf;unfold az;go_wp2_with fail
   exact⟨rfl,HF.out,rfl⟩
  |ok r3=>
   rw[hA]at he;obtain⟨hf,rfl,hp⟩:=he;have HF6:=Za (HF5.out.trans hf);have HP6:=Za hp;have HR6:=Za (HR5.out.sfr hf HNE.out);have HE6:=Za (HE5.out.sfr hf HEP.out);have HX6:=Za (HX5.out.keep (hf.fresh (by have:=HPW.out;omega)));clear hf hp;have HA6:=Za hA;clear hA;clear HWN;obtain⟨⟨e0,e1,e2,e3,e4⟩,ef0,ef1,ef2,ef3,ef4⟩:=bL HE6.out;have elt:=HE6.out.lt;obtain⟨⟨x0,x1,x2,x3,x4⟩,xf0,xf1,xf2,xf3,xf4⟩:=bL HR6.out;have xlt:=HR6.out.lt;go_wp2_with fail
   have e1:cQ (f+1) s (t::r)= .ok (.mk 6 0 0 s [x],r3):=by rw[cQ,aH HN1.out];dsimp only;rw[aQ HY.out];dsimp only;rw[HA3.out];dsimp only;rw[HA6.out]
   have e2:=HRR.out.symm.trans e1;subst e2;obtain⟨⟨d0,d1,d2,d3,d4⟩,_⟩:=bL ((i7 HR6.out (.int .i64 6) (.int .i64 0) (.int .i64 0) (.string (aB s)) (.slice (some ⟨w6.heap.size,0,none⟩) 1 1)).alloc (.cells #[.int .i64 x.kind,.int .i64 x.op,.int .i64 x.n,.string (aB x.name),(.slice a1 x.args.length a2)] 27));exact bodyPost_ret (v:= .agg #[.int .i64 6,.int .i64 0,.int .i64 0,.string (aB s),.slice (some ⟨w6.heap.size,0,none⟩) 1 1]) (by simp [results,Tryz.results163,go_sem,d0,d1,d2,d3,d4]) rfl (ug (x:=x) (y:= .mk 6 0 0 s [x]) HPW.out HF6.out HP6.out HX6.out HN.out HR6.out.lt rfl dz _ _ _ _ _)
end Go.Proofs.YtcfpfnoldgnloaaGreatDoor
