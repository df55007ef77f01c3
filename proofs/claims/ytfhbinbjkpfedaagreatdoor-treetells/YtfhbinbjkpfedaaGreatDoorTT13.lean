/-
  Print, PrintExpr of the reference 03. Conditions: what is printed lies in memory; its text is no longer than may be.
-/
import Derived.Test.YtfhbinbjkpfedaaGreatDoorTT12
set_option linter.unusedVariables false
set_option linter.unusedSimpArgs false
namespace Go.Proofs.YtfhbinbjkpfedaaGreatDoor
open Go.RowKit Go.Proofs.Tryz
set_option maxHeartbeats 20000000
set_option maxRecDepth 100000
open Go.Lib renaming hid→Za
open _root_.ByteArray renaming size_append→Zb,ext→Zd
open List renaming length_append→Zc,length→Zf,length_flatten→Zg,map_cons→Zh,map_nil→Zi,sum_cons→Zj,sum_nil→Zk,length_nil→Zl,length_cons→Zm,all_eq_true→Zs,getElem?_eq_getElem→Zt,take_of_length_le→Zu,flatMap_append→Zv
open Bool renaming and_eq_true→Ze
open Go.Proofs.Tryz renaming prog→Zn
open Below renaming refl→Zo
open Al renaming new→Zp
open Nat renaming zero_le→Zq
open Bk renaming old→Zr
theorem eL {x:St}(h:Kr x=true):(x.kind=1∨x.kind=2∨x.kind=3∨x.kind=4∨x.kind=5∨x.kind=6∨x.kind=7∨x.kind=8∨x.kind=9∨x.kind=10)∧x.args.length=Cz x.kind:=by
 rw[Tb,Ze,beq_iff_eq]at h;refine⟨?_,h.2⟩;have h1:=h.1;apply Classical.byContradiction
 intro hn;unfold Cv at h1;rw[if_neg (by omega),if_neg (by omega),if_neg (by omega),if_neg (by omega),if_neg (by omega),if_neg (by omega)]at h1
 cases h1
theorem Tx(t:Nat):Aa (Am t)++⟨#[9]⟩=Aa (Am (t+1)):=by
 unfold Am;rw[List.replicate_succ',←Cu]
theorem Ga(t:Nat)(x:St):Br t x=Cf t x.kind x.name x.args x.els.isEmpty (Ag (t+1) x.thn) (Ag (t+1) x.els):=by cases x;rw[Br];rfl
def iX(l:List St):Prop:=Ee l=true→∀(t:Nat),(Ag t l).length≤140737488355328→∀(D:Nat→Prop) (v:Value) (w:World),Ap D w l v→
 Calls Zn 35 #[v,.string (Aa (Am t))] w fun e w'=>e=.returned (.string (Aa (Ag t l)))∧Below w.heap.size w w'
theorem bk_step(l:List St)(iht:∀x,x∈l→iX x.thn)(ihe:∀x,x∈l→iX x.els):iX l:=by
 intro hr t hf D v w h;obtain⟨a,c,rfl⟩:=h.shape;have l63:=h.fits.lt;have H:=Za h;have IHT:=Za iht;have IHE:=Za ihe;rw[Jw,Zs]at hr;have HR:=Za hr;have HF:=Za hf;clear h iht ihe hr hf;go_enter func35,ntmps35
 go_wp2_with fail
 go_loopw [5,6] (fun s5 s6 wr=> ∃k:Nat,k≤l.length∧s6=.int .i64 k∧s5=.string (Aa (Ag t (l.take k)))∧Hid (Below w.heap.size w wr)) (fun _ s6 _=>l.length-(intOf s6).toNat)
 case atStart=>exact⟨0,Zq _,rfl,by simp [Ag,Aa],Zo _ _⟩
 case round=>
  obtain⟨k,hk,rfl,rfl,GB⟩:=hrel;have GA:=Za (H.out.old GB.out)
  by_cases hlt:k<l.length
  ·have hkI:(k:Int)<(l.length:Int):=by omega
   obtain⟨eb,off,es,et,ee,rfl,hD,hebl,c0,c1,c2,c3,c4,hes,het,hee⟩:=Ap.cellAt GA.out k hlt;obtain⟨s1,s2,rfl⟩:=hes.shape;obtain⟨t1,t2,rfl⟩:=het.shape;obtain⟨u1,u2,rfl⟩:=hee.shape;have IHTX:=Za (IHT.out _ (Dy hlt));have IHEX:=Za (IHE.out _ (Dy hlt));have hrx:=HR.o _ (Dy hlt);have hnx:=Nb t l k hlt;have hle:=Ku t l (k+1);have hfl:=HF.o;rw[hnx,Zc]at hle;have HNX:=Za hnx;clear hnx;obtain⟨x,hx⟩:∃x,Db l k=x:=⟨_,rfl⟩;rw[hx]at c0 c1 c2 c3 c4 hes het hee IHTX IHEX hrx hle HNX;clear hx;rw[Nt]at hrx;simp only[Ze]at hrx;obtain⟨⟨⟨hra,hrt⟩,hre⟩,hh⟩:=hrx;obtain⟨hkd,hal⟩:=eL hh;have HRA:=Za (Zs.1 hra);have HRT:=Za hrt;have HRE:=Za hre;clear hra hrt hre hh;have hO:(Ag t (l.take k)).length≤140737488355328:=by omega
   have hX:(Br t x).length≤140737488355328:=by omega
   clear hle hfl;have hsO:=Av (Ag t (l.take k));have hsT:=Av (Am t);have hbA:Below wr.heap.size wr (wr.alloc (.cells #[.int .i64 x.kind,.string (Aa x.name),.slice s1 x.args.length s2,.slice t1 x.thn.length t2,.slice u1 x.els.length u2] 56)):=bA;have GB1:=Za (GB.out.trans (hbA.mono GB.out.size));have GO1:=Za (Zp wr [.int .i64 x.kind,.string (Aa x.name),.slice s1 x.args.length s2,.slice t1 x.thn.length t2,.slice u1 x.els.length u2] 56);have GS1:=Za (hes.old hbA);have GT1:=Za (het.old hbA);have GE1:=Za (hee.old hbA);clear hbA hes het hee hD hebl GA GB;have HKD:=Za hkd;have HAL:=Za hal;clear hkd hal;go_upto_region 7 with(fail)
   clear c0 c1 c2 c3 c4;generalize wr.alloc (.cells #[.int .i64 x.kind,.string (Aa x.name),.slice s1 x.args.length s2,.slice t1 x.thn.length t2,.slice u1 x.els.length u2] 56)=W1 at*;generalize wr.heap.size=sb at*;rcases HKD.o with h1|h1|h1|h1|h1|h1|h1|h1|h1|h1
   ·have HT:Hid (Br t x=Cf t 1 x.name x.args x.els.isEmpty (Ag (t+1) x.thn) (Ag (t+1) x.els)):=by show _=_;rw[Ga,h1]
    rw[Ox]at HT;have hlen:=congrArg Zf HT.o;simp only[ln,Zc,Zg,Zh,Zi,Zj,Zk,Zm,Zl]at hlen;have ha:x.args.length=1:=by rw[HAL.o,h1];rfl
    have H1:=Za h1;rw[h1]at GO1;clear h1 HKD HAL;have q0:=GO1.out.at 0 _ rfl;have q2:=GO1.out.at 2 _ rfl;have haI:((x.args.length:Int)>0):=by omega
    have haJ:((0:Int)<(x.args.length:Int)):=by omega
    have hal0:0<x.args.length:=by omega
    obtain⟨xb,xo,xs,rfl,hD,hb,d0,d1,d2,d3,d4,hxs,hn64⟩:=GS1.out.at0 hal0;have hE:(Ae (Ao x.args 0)).length≤140737488355328:=by omega
    have hwe:Bb (Ao x.args 0)=true:=by have:=HRA.o _ (Bf hal0);unfold Be at this;rw[Ze]at this;exact this.2
    have HC:=Za (Fy (Ao x.args 0) hwe hE hn64 D xs W1 hxs);have hsE:=Av (Ae (Ao x.args 0));clear hxs hn64 hD hb;have hsN:=Av x.name;have HX:Hid (Aa (Ag t (l.take (k+1)))=Aa (Ag t (l.take k))++Aa (Am t)++Aa (x.name)++(⟨#[32,61,32]⟩:ByteArray)++Aa (Ae (Ao x.args 0))++(⟨#[59]⟩:ByteArray)++(⟨#[10]⟩:ByteArray)):=by
     show _=_
     rw[HNX.o,HT.o];unfold ln;apply Zd
     simp [Aa]
    have hN:x.name.length≤140737488355328:=by omega
    have hTB:(Am t).length≤140737488355328:=by omega
    clear hlen HT HNX ha IHTX IHEX HRA HRT HRE;have bO:(Aa (Ag t (l.take k))).size≤140737488355328:=by rw[hsO];exact hO
    have bTB:(Aa (Am t)).size≤140737488355328:=by rw[hsT];exact hTB
    have bNM:(Aa (x.name)).size≤140737488355328:=by rw[hsN];exact hN
    have bE:(Aa (Ae (Ao x.args 0))).size≤140737488355328:=by rw[hsE];exact hE
    clear hO hsO hTB hsT hN hsN hE hsE;generalize Ao x.args 0=x0 at*;generalize Aa (Ag t (l.take k))=O at*;generalize Aa (x.name)=NM at*;generalize Aa (Ae (x0))=E at*;go_wp2_with fail
    refine HC.o.mono ?_;rintro r w2 ⟨rfl,hb2⟩;have GB2:=Za (GB1.out.trans (hb2.mono GB1.out.size));have GW2:=Za hb2;have GO2:=Za (GO1.out.old hb2);clear hb2 HC q0 q2 d0 d1 d2 d3 d4 hwe GB1;have r0:=GO2.out.at 0 _ rfl;have r1:=GO2.out.at 1 _ rfl;have r2:=GO2.out.at 2 _ rfl;have r3:=GO2.out.at 3 _ rfl;have r4:=GO2.out.at 4 _ rfl;have z0:(⟨#[32,61,32]⟩:ByteArray).size=3:=rfl;have z1:(⟨#[59]⟩:ByteArray).size=1:=rfl;have z2:(⟨#[10]⟩:ByteArray).size=1:=rfl;have hno0:¬(O.size+(Aa (Am t)).size>9223372036854775807):=Aw (by omega);have hno1:¬((O++Aa (Am t)).size+NM.size>9223372036854775807):=Aw (by simp only[Zb];omega);have hno2:¬((O++Aa (Am t)++NM).size+(⟨#[32,61,32]⟩:ByteArray).size>9223372036854775807):=Aw (by simp only[Zb];omega);have hno3:¬((O++Aa (Am t)++NM++(⟨#[32,61,32]⟩:ByteArray)).size+E.size>9223372036854775807):=Aw (by simp only[Zb];omega);have hno4:¬((O++Aa (Am t)++NM++(⟨#[32,61,32]⟩:ByteArray)++E).size+(⟨#[59]⟩:ByteArray).size>9223372036854775807):=Aw (by simp only[Zb];omega);have hno5:¬((O++Aa (Am t)++NM++(⟨#[32,61,32]⟩:ByteArray)++E++(⟨#[59]⟩:ByteArray)).size+(⟨#[10]⟩:ByteArray).size>9223372036854775807):=Aw (by simp only[Zb];omega);clear z0 z1 z2 bO bTB bNM bE;have GB3:=GB2;go_wp2_with fail
    go_roundw
    case rel=>exact⟨k+1,by omega,by go_num,by rw[HX.o],GB3⟩
    case measure=>simp [intOf];omega
   ·have HT:Hid (Br t x=Cf t 2 x.name x.args x.els.isEmpty (Ag (t+1) x.thn) (Ag (t+1) x.els)):=by show _=_;rw[Ga,h1]
    rw[Pa]at HT;have hlen:=congrArg Zf HT.o;simp only[ln,Zc,Zg,Zh,Zi,Zj,Zk,Zm,Zl]at hlen;have ha:x.args.length=2:=by rw[HAL.o,h1];rfl
    have H1:=Za h1;rw[h1]at GO1;clear h1 HKD HAL;have q0:=GO1.out.at 0 _ rfl;have q2:=GO1.out.at 2 _ rfl;have haI:((x.args.length:Int)>0):=by omega
    have haJ:((0:Int)<(x.args.length:Int)):=by omega
    have hal0:0<x.args.length:=by omega
    have hal1:1<x.args.length:=by omega
    have haK:((1:Int)<(x.args.length:Int)):=by omega
    obtain⟨xb,xo,xs,rfl,hD,hb,d0,d1,d2,d3,d4,hxs,hn64⟩:=GS1.out.at0 hal0;have hE:(Ae (Ao x.args 0)).length≤140737488355328:=by omega
    have hwe:Bb (Ao x.args 0)=true:=by have:=HRA.o _ (Bf hal0);unfold Be at this;rw[Ze]at this;exact this.2
    have HC:=Za (Fy (Ao x.args 0) hwe hE hn64 D xs W1 hxs);have hsE:=Av (Ae (Ao x.args 0));have hE2:(Ae (Ao x.args 1)).length≤140737488355328:=by omega
    have hwe2:Bb (Ao x.args 1)=true:=by have:=HRA.o _ (Bf hal1);unfold Be at this;rw[Ze]at this;exact this.2
    have hsE2:=Av (Ae (Ao x.args 1));clear hxs hn64 hD hb;have hsN:=Av x.name;have HX:Hid (Aa (Ag t (l.take (k+1)))=Aa (Ag t (l.take k))++Aa (Am t)++Aa (x.name)++(⟨#[91]⟩:ByteArray)++Aa (Ae (Ao x.args 0))++(⟨#[93,32,61,32]⟩:ByteArray)++Aa (Ae (Ao x.args 1))++(⟨#[59]⟩:ByteArray)++(⟨#[10]⟩:ByteArray)):=by
     show _=_
     rw[HNX.o,HT.o];unfold ln;apply Zd
     simp [Aa]
    have hN:x.name.length≤140737488355328:=by omega
    have hTB:(Am t).length≤140737488355328:=by omega
    clear hlen HT HNX ha IHTX IHEX HRA HRT HRE;obtain⟨ys,e0,e1,e2,e3,e4,hys,hm64⟩:=GS1.out.at1 hal1;have HCY:=Za (fun(w':World) (hw:Below W1.heap.size W1 w')=>Fy (Ao x.args 1) hwe2 hE2 hm64 D ys w' (hys.old hw));clear hys hm64 hwe2;have bO:(Aa (Ag t (l.take k))).size≤140737488355328:=by rw[hsO];exact hO
    have bTB:(Aa (Am t)).size≤140737488355328:=by rw[hsT];exact hTB
    have bNM:(Aa (x.name)).size≤140737488355328:=by rw[hsN];exact hN
    have bE:(Aa (Ae (Ao x.args 0))).size≤140737488355328:=by rw[hsE];exact hE
    have bE2:(Aa (Ae (Ao x.args 1))).size≤140737488355328:=by rw[hsE2];exact hE2
    clear hO hsO hTB hsT hN hsN hE hsE hE2 hsE2;generalize Ao x.args 0=x0 at*;generalize Ao x.args 1=x1 at*;generalize Aa (Ag t (l.take k))=O at*;generalize Aa (x.name)=NM at*;generalize Aa (Ae (x0))=E at*;generalize Aa (Ae (x1))=E2 at*;go_wp2_with fail
    refine HC.o.mono ?_;rintro r w2 ⟨rfl,hb2⟩;have GB2:=Za (GB1.out.trans (hb2.mono GB1.out.size));have GW2:=Za hb2;have GO2:=Za (GO1.out.old hb2);clear hb2 HC q0 q2 d0 d1 d2 d3 d4 hwe GB1;have r0:=GO2.out.at 0 _ rfl;have r1:=GO2.out.at 1 _ rfl;have r2:=GO2.out.at 2 _ rfl;have r3:=GO2.out.at 3 _ rfl;have r4:=GO2.out.at 4 _ rfl;have z0:(⟨#[91]⟩:ByteArray).size=1:=rfl;have z1:(⟨#[93,32,61,32]⟩:ByteArray).size=4:=rfl;have z2:(⟨#[59]⟩:ByteArray).size=1:=rfl;have z3:(⟨#[10]⟩:ByteArray).size=1:=rfl;have hno0:¬(O.size+(Aa (Am t)).size>9223372036854775807):=Aw (by omega);have hno1:¬((O++Aa (Am t)).size+NM.size>9223372036854775807):=Aw (by simp only[Zb];omega);have hno2:¬((O++Aa (Am t)++NM).size+(⟨#[91]⟩:ByteArray).size>9223372036854775807):=Aw (by simp only[Zb];omega);have hno3:¬((O++Aa (Am t)++NM++(⟨#[91]⟩:ByteArray)).size+E.size>9223372036854775807):=Aw (by simp only[Zb];omega);have hno4:¬((O++Aa (Am t)++NM++(⟨#[91]⟩:ByteArray)++E).size+(⟨#[93,32,61,32]⟩:ByteArray).size>9223372036854775807):=Aw (by simp only[Zb];omega);have hno5:¬((O++Aa (Am t)++NM++(⟨#[91]⟩:ByteArray)++E++(⟨#[93,32,61,32]⟩:ByteArray)).size+E2.size>9223372036854775807):=Aw (by simp only[Zb];omega);have hno6:¬((O++Aa (Am t)++NM++(⟨#[91]⟩:ByteArray)++E++(⟨#[93,32,61,32]⟩:ByteArray)++E2).size+(⟨#[59]⟩:ByteArray).size>9223372036854775807):=Aw (by simp only[Zb];omega)
    have hno7:¬((O++Aa (Am t)++NM++(⟨#[91]⟩:ByteArray)++E++(⟨#[93,32,61,32]⟩:ByteArray)++E2++(⟨#[59]⟩:ByteArray)).size+(⟨#[10]⟩:ByteArray).size>9223372036854775807):=Aw (by simp only[Zb];omega);clear z0 z1 z2 z3 bO bTB bNM bE bE2;obtain⟨Ix,hIx,F,HFB,HFI⟩:=Kl w2;have HCL:Hid (∀n,Calls Zn 53 #[exV x1 ys] (F n) fun r w'=>r=.returned (.string E2)∧∃m,w'=F m):=fun n=>by
     refine(HCY.o (F n) (GW2.out.trans ((HFB.o n).mono GW2.out.size))).mono ?_;rintro r w' ⟨he,hb⟩;exact⟨he,HFI.o w' ((HFB.o n).trans (hb.mono (HFB.o n).size))⟩
    have HST:Hid (∃n,w2.drew=F n):=HFI.o _ (Zo _ _).drew;clear HCY;go_upto_region 15 with(fail)
    have g1:∀n,(F n).cell? ⟨sb,1,none⟩=some (.string NM):=fun n=>Ac (HFB.o n) r1
    have g2:∀n,(F n).cell? ⟨sb,2,none⟩=some (.slice (some ⟨xb,xo,none⟩) x.args.length s2):=fun n=>Ac (HFB.o n) r2
    have m0:∀n,(F n).cell? ⟨xb,xo+5,none⟩=some (.int .i64 x1.kind):=fun n=>Ac (HFB.o n) (Ac GW2.out e0)
    have m1:∀n,(F n).cell? ⟨xb,xo+5+1,none⟩=some (.int .i64 x1.op):=fun n=>Ac (HFB.o n) (Ac GW2.out e1)
    have m2:∀n,(F n).cell? ⟨xb,xo+5+2,none⟩=some (.int .i64 x1.n):=fun n=>Ac (HFB.o n) (Ac GW2.out e2)
    have m3:∀n,(F n).cell? ⟨xb,xo+5+3,none⟩=some (.string (Aa x1.name)):=fun n=>Ac (HFB.o n) (Ac GW2.out e3)
    have m4:∀n,(F n).cell? ⟨xb,xo+5+4,none⟩=some (ys):=fun n=>Ac (HFB.o n) (Ac GW2.out e4)
    clear r0 r1 r2 r3 r4 e0 e1 e2 e3 e4;go_wp2_with fail
    refine Hv F (by kernel_rfl) (by kernel_rfl) HST.o ?_
    repeat(go_big_quiet_step ((go_at_call 53;exact HCL.o _)))
    refine wpQuiet_nil ?_;intro _ hw';obtain⟨nq,hw''⟩:=hw';subst hw'';have GB3:=Za (GB2.out.trans ((HFB.o nq).mono GB2.out.size));go_wp2_with fail
    go_roundw
    case rel=>exact⟨k+1,by omega,by go_num,by rw[HX.o],GB3⟩
    case measure=>simp [intOf];omega
   ·have HT:Hid (Br t x=Cf t 3 x.name x.args x.els.isEmpty (Ag (t+1) x.thn) (Ag (t+1) x.els)):=by show _=_;rw[Ga,h1]
    rw[Lr]at HT;have hlen:=congrArg Zf HT.o;simp only[ln,Zc,Zg,Zh,Zi,Zj,Zk,Zm,Zl]at hlen;have ha:x.args.length=1:=by rw[HAL.o,h1];rfl
    have H1:=Za h1;rw[h1]at GO1;clear h1 HKD HAL;have q0:=GO1.out.at 0 _ rfl;have q2:=GO1.out.at 2 _ rfl;have haI:((x.args.length:Int)>0):=by omega
    have haJ:((0:Int)<(x.args.length:Int)):=by omega
    have hal0:0<x.args.length:=by omega
    obtain⟨xb,xo,xs,rfl,hD,hb,d0,d1,d2,d3,d4,hxs,hn64⟩:=GS1.out.at0 hal0;have hE:(Ae (Ao x.args 0)).length≤140737488355328:=by omega
    have hwe:Bb (Ao x.args 0)=true:=by have:=HRA.o _ (Bf hal0);unfold Be at this;rw[Ze]at this;exact this.2
    have HC:=Za (Fy (Ao x.args 0) hwe hE hn64 D xs W1 hxs);have hsE:=Av (Ae (Ao x.args 0));clear hxs hn64 hD hb;have hsN:=Av x.name;have HXN:Hid (x.els.isEmpty=true→Aa (Ag t (l.take (k+1)))=Aa (Ag t (l.take k))++Aa (Am t)++(⟨#[105,102,32,40]⟩:ByteArray)++Aa (Ae (Ao x.args 0))++(⟨#[41,32,123,10]⟩:ByteArray)++Aa (Ag (t+1) x.thn)++Aa (Am t)++(⟨#[125]⟩:ByteArray)++(⟨#[10]⟩:ByteArray)):=by
     intro hc;rw[HNX.o,HT.o,hc];unfold ln;apply Zd
     simp [Aa]
    have HXY:Hid (x.els.isEmpty=false→Aa (Ag t (l.take (k+1)))=Aa (Ag t (l.take k))++Aa (Am t)++(⟨#[105,102,32,40]⟩:ByteArray)++Aa (Ae (Ao x.args 0))++(⟨#[41,32,123,10]⟩:ByteArray)++Aa (Ag (t+1) x.thn)++Aa (Am t)++(⟨#[125]⟩:ByteArray)++(⟨#[32,101,108,115,101,32,123,10]⟩:ByteArray)++Aa (Ag (t+1) x.els)++Aa (Am t)++(⟨#[125]⟩:ByteArray)++(⟨#[10]⟩:ByteArray)):=by
     intro hc;rw[HNX.o,HT.o,hc];unfold ln;apply Zd
     simp [Aa]
    have hT:(Ag (t+1) x.thn).length≤140737488355328:=by omega
    have hsTh:=Av (Ag (t+1) x.thn);have hEl:x.els.isEmpty=false→(Ag (t+1) x.els).length≤140737488355328:=fun hc=>by
     have h2:=congrArg Zf HT.o;rw[hc]at h2;simp only[ln,Zc,Zg,Zh,Zi,Zj,Zk,Zm,Zl,if_false,Bool.false_eq_true]at h2;omega
    have hsEl:=Av (Ag (t+1) x.els);have hTB:(Am t).length≤140737488355328:=by omega
    have HTC:=Za (fun(w':World) (hw:Below W1.heap.size W1 w')=>IHTX.out HRT.o (t+1) hT D _ w' (GT1.out.old hw));have HTN:=Za (Tx t);have hnoT:¬((Aa (Am t)).size+(⟨#[9]⟩:ByteArray).size>9223372036854775807):=Aw (by rw[hsT];show _+1≤_;omega);have HEC:=Za (fun hc (w':World) (hw:Below W1.heap.size W1 w')=>IHEX.out HRE.o (t+1) (hEl hc) D _ w' (GE1.out.old hw));clear hlen HT HNX ha IHTX IHEX HRA HRT HRE;have bO:(Aa (Ag t (l.take k))).size≤140737488355328:=by rw[hsO];exact hO
    have bTB:(Aa (Am t)).size≤140737488355328:=by rw[hsT];exact hTB
    have bE:(Aa (Ae (Ao x.args 0))).size≤140737488355328:=by rw[hsE];exact hE
    have bT:(Aa (Ag (t+1) x.thn)).size≤140737488355328:=by rw[hsTh];exact hT
    have bX:x.els.isEmpty=false→(Aa (Ag (t+1) x.els)).size≤140737488355328:=fun hc=>by rw[hsEl];exact hEl hc
    clear hO hsO hTB hsT hE hsE hT hsTh hEl hsEl hsN;generalize Ao x.args 0=x0 at*;generalize Aa (Ag t (l.take k))=O at*;generalize Aa (Ae (x0))=E at*;generalize Aa (Ag (t+1) x.thn)=T at*;generalize Aa (Ag (t+1) x.els)=X at*;go_wp2_with fail
    refine HC.o.mono ?_;rintro r w2 ⟨rfl,hb2⟩;have GB2:=Za (GB1.out.trans (hb2.mono GB1.out.size));have GW2:=Za hb2;have GO2:=Za (GO1.out.old hb2);clear hb2 HC q0 q2 d0 d1 d2 d3 d4 hwe GB1;have r0:=GO2.out.at 0 _ rfl;have r1:=GO2.out.at 1 _ rfl;have r2:=GO2.out.at 2 _ rfl;have r3:=GO2.out.at 3 _ rfl;have r4:=GO2.out.at 4 _ rfl;have z0:(⟨#[105,102,32,40]⟩:ByteArray).size=4:=rfl;have z1:(⟨#[41,32,123,10]⟩:ByteArray).size=4:=rfl;have z2:(⟨#[125]⟩:ByteArray).size=1:=rfl;have z3:(⟨#[10]⟩:ByteArray).size=1:=rfl;have z4:(⟨#[32,101,108,115,101,32,123,10]⟩:ByteArray).size=8:=rfl;have hno0:¬(O.size+(Aa (Am t)).size>9223372036854775807):=Aw (by omega);have hno1:¬((O++Aa (Am t)).size+(⟨#[105,102,32,40]⟩:ByteArray).size>9223372036854775807):=Aw (by simp only[Zb];omega);have hno2:¬((O++Aa (Am t)++(⟨#[105,102,32,40]⟩:ByteArray)).size+E.size>9223372036854775807):=Aw (by simp only[Zb];omega);have hno3:¬((O++Aa (Am t)++(⟨#[105,102,32,40]⟩:ByteArray)++E).size+(⟨#[41,32,123,10]⟩:ByteArray).size>9223372036854775807):=Aw (by simp only[Zb];omega);have hno4:¬((O++Aa (Am t)++(⟨#[105,102,32,40]⟩:ByteArray)++E++(⟨#[41,32,123,10]⟩:ByteArray)).size+T.size>9223372036854775807):=Aw (by simp only[Zb];omega);have hno5:¬((O++Aa (Am t)++(⟨#[105,102,32,40]⟩:ByteArray)++E++(⟨#[41,32,123,10]⟩:ByteArray)++T).size+(Aa (Am t)).size>9223372036854775807):=Aw (by simp only[Zb];omega)
    have hno6:¬((O++Aa (Am t)++(⟨#[105,102,32,40]⟩:ByteArray)++E++(⟨#[41,32,123,10]⟩:ByteArray)++T++Aa (Am t)).size+(⟨#[125]⟩:ByteArray).size>9223372036854775807):=Aw (by simp only[Zb];omega)
    by_cases hE0:x.els.isEmpty=true
    ·have hu:x.els.length=0:=by simpa using hE0
     have hu1:¬((x.els.length:Int)>0):=by omega
     have hu2:¬((0:Int)<(x.els.length:Int)):=by omega
     have HXF:=Za (HXN.o hE0);have hno7:¬((O++Aa (Am t)++(⟨#[105,102,32,40]⟩:ByteArray)++E++(⟨#[41,32,123,10]⟩:ByteArray)++T++Aa (Am t)++(⟨#[125]⟩:ByteArray)).size+(⟨#[10]⟩:ByteArray).size>9223372036854775807):=Aw (by simp only[Zb];omega);clear HXN HXY HEC hE0 hu z0 z1 z2 z3 z4 bO bTB bE bT bX;go_upto_region 17 with(fail)
     skip
     have HK:=Za (HTC.o w2 GW2.out);go_wp2_with fail
     rw[HTN.o];refine HK.o.mono ?_;rintro r w3 ⟨rfl,hb3⟩;have GB3:=Za (GB2.out.trans (hb3.mono GB2.out.size));have GO3:=Za (GO2.out.old hb3);clear hb3 HK r0 r1 r2 r3 r4;have r4:=GO3.out.at 4 _ rfl;go_wp2_with fail
     go_roundw
     case rel=>exact⟨k+1,by omega,by go_num,by rw[HXF.o],GB3⟩
     case measure=>simp [intOf];omega
    ·have hE1:x.els.isEmpty=false:=by simpa using hE0
     have hu:0<x.els.length:=by cases hx:x.els with|nil=>rw[hx]at hE1;cases hE1|cons y r=>simp
     have hu1:((x.els.length:Int)>0):=by omega
     have hu2:((0:Int)<(x.els.length:Int)):=by omega
     have HXF:=Za (HXY.o hE1);have bX2:=bX hE1;have HEC2:=Za (HEC.o hE1);have hno7:¬((O++Aa (Am t)++(⟨#[105,102,32,40]⟩:ByteArray)++E++(⟨#[41,32,123,10]⟩:ByteArray)++T++Aa (Am t)++(⟨#[125]⟩:ByteArray)).size+(⟨#[32,101,108,115,101,32,123,10]⟩:ByteArray).size>9223372036854775807):=Aw (by simp only[Zb];omega);have hno8:¬((O++Aa (Am t)++(⟨#[105,102,32,40]⟩:ByteArray)++E++(⟨#[41,32,123,10]⟩:ByteArray)++T++Aa (Am t)++(⟨#[125]⟩:ByteArray)++(⟨#[32,101,108,115,101,32,123,10]⟩:ByteArray)).size+X.size>9223372036854775807):=Aw (by simp only[Zb];omega);have hno9:¬((O++Aa (Am t)++(⟨#[105,102,32,40]⟩:ByteArray)++E++(⟨#[41,32,123,10]⟩:ByteArray)++T++Aa (Am t)++(⟨#[125]⟩:ByteArray)++(⟨#[32,101,108,115,101,32,123,10]⟩:ByteArray)++X).size+(Aa (Am t)).size>9223372036854775807):=Aw (by simp only[Zb];omega);have hno10:¬((O++Aa (Am t)++(⟨#[105,102,32,40]⟩:ByteArray)++E++(⟨#[41,32,123,10]⟩:ByteArray)++T++Aa (Am t)++(⟨#[125]⟩:ByteArray)++(⟨#[32,101,108,115,101,32,123,10]⟩:ByteArray)++X++Aa (Am t)).size+(⟨#[125]⟩:ByteArray).size>9223372036854775807):=Aw (by simp only[Zb];omega);have hno11:¬((O++Aa (Am t)++(⟨#[105,102,32,40]⟩:ByteArray)++E++(⟨#[41,32,123,10]⟩:ByteArray)++T++Aa (Am t)++(⟨#[125]⟩:ByteArray)++(⟨#[32,101,108,115,101,32,123,10]⟩:ByteArray)++X++Aa (Am t)++(⟨#[125]⟩:ByteArray)).size+(⟨#[10]⟩:ByteArray).size>9223372036854775807):=Aw (by simp only[Zb];omega)
     clear HXN HXY HEC hE0 hE1 hu z0 z1 z2 z3 z4 bO bTB bE bT bX bX2;have HK:=Za (HTC.o w2 GW2.out);go_wp2_with fail
     rw[HTN.o];refine HK.o.mono ?_;rintro r w3 ⟨rfl,hb3⟩;have GB3:=Za (GB2.out.trans (hb3.mono GB2.out.size));have GW3:=Za (GW2.out.trans (hb3.mono GW2.out.size));have GO3:=Za (GO2.out.old hb3);clear hb3 HK r0 r1 r2 r3 r4;have r4:=GO3.out.at 4 _ rfl;have HK:=Za (HEC2.o w3 GW3.out);go_wp2_with fail
     rw[HTN.o];refine HK.o.mono ?_;rintro r w4 ⟨rfl,hb4⟩;have GB4:=Za (GB3.out.trans (hb4.mono GB3.out.size));clear hb4 HK r4;go_wp2_with fail
     go_roundw
     case rel=>exact⟨k+1,by omega,by go_num,by rw[HXF.o],GB4⟩
     case measure=>simp [intOf];omega
   ·have HT:Hid (Br t x=Cf t 4 x.name x.args x.els.isEmpty (Ag (t+1) x.thn) (Ag (t+1) x.els)):=by show _=_;rw[Ga,h1]
    rw[Ot]at HT;have hlen:=congrArg Zf HT.o;simp only[ln,Zc,Zg,Zh,Zi,Zj,Zk,Zm,Zl]at hlen;have ha:x.args.length=1:=by rw[HAL.o,h1];rfl
    have H1:=Za h1;rw[h1]at GO1;clear h1 HKD HAL;have q0:=GO1.out.at 0 _ rfl;have q2:=GO1.out.at 2 _ rfl;have haI:((x.args.length:Int)>0):=by omega
    have haJ:((0:Int)<(x.args.length:Int)):=by omega
    have hal0:0<x.args.length:=by omega
    obtain⟨xb,xo,xs,rfl,hD,hb,d0,d1,d2,d3,d4,hxs,hn64⟩:=GS1.out.at0 hal0;have hE:(Ae (Ao x.args 0)).length≤140737488355328:=by omega
    have hwe:Bb (Ao x.args 0)=true:=by have:=HRA.o _ (Bf hal0);unfold Be at this;rw[Ze]at this;exact this.2
    have HC:=Za (Fy (Ao x.args 0) hwe hE hn64 D xs W1 hxs);have hsE:=Av (Ae (Ao x.args 0));clear hxs hn64 hD hb;have hsN:=Av x.name;have HX:Hid (Aa (Ag t (l.take (k+1)))=Aa (Ag t (l.take k))++Aa (Am t)++(⟨#[119,104,105,108,101,32,40]⟩:ByteArray)++Aa (Ae (Ao x.args 0))++(⟨#[41,32,123,10]⟩:ByteArray)++Aa (Ag (t+1) x.thn)++Aa (Am t)++(⟨#[125]⟩:ByteArray)++(⟨#[10]⟩:ByteArray)):=by
     show _=_
     rw[HNX.o,HT.o];unfold ln;apply Zd
     simp [Aa]
    have hT:(Ag (t+1) x.thn).length≤140737488355328:=by omega
    have hsTh:=Av (Ag (t+1) x.thn);have hTB:(Am t).length≤140737488355328:=by omega
    have HTC:=Za (fun(w':World) (hw:Below W1.heap.size W1 w')=>IHTX.out HRT.o (t+1) hT D _ w' (GT1.out.old hw));have HTN:=Za (Tx t);have hnoT:¬((Aa (Am t)).size+(⟨#[9]⟩:ByteArray).size>9223372036854775807):=Aw (by rw[hsT];show _+1≤_;omega);clear hlen HT HNX ha IHTX IHEX HRA HRT HRE;have bO:(Aa (Ag t (l.take k))).size≤140737488355328:=by rw[hsO];exact hO
    have bTB:(Aa (Am t)).size≤140737488355328:=by rw[hsT];exact hTB
    have bE:(Aa (Ae (Ao x.args 0))).size≤140737488355328:=by rw[hsE];exact hE
    have bT:(Aa (Ag (t+1) x.thn)).size≤140737488355328:=by rw[hsTh];exact hT
    clear hO hsO hTB hsT hE hsE hT hsTh hsN;generalize Ao x.args 0=x0 at*;generalize Aa (Ag t (l.take k))=O at*;generalize Aa (Ae (x0))=E at*;generalize Aa (Ag (t+1) x.thn)=T at*;go_wp2_with fail
    refine HC.o.mono ?_;rintro r w2 ⟨rfl,hb2⟩;have GB2:=Za (GB1.out.trans (hb2.mono GB1.out.size));have GW2:=Za hb2;have GO2:=Za (GO1.out.old hb2);clear hb2 HC q0 q2 d0 d1 d2 d3 d4 hwe GB1;have r0:=GO2.out.at 0 _ rfl;have r1:=GO2.out.at 1 _ rfl;have r2:=GO2.out.at 2 _ rfl;have r3:=GO2.out.at 3 _ rfl;have r4:=GO2.out.at 4 _ rfl;have z0:(⟨#[119,104,105,108,101,32,40]⟩:ByteArray).size=7:=rfl;have z1:(⟨#[41,32,123,10]⟩:ByteArray).size=4:=rfl;have z2:(⟨#[125]⟩:ByteArray).size=1:=rfl;have z3:(⟨#[10]⟩:ByteArray).size=1:=rfl;have hno0:¬(O.size+(Aa (Am t)).size>9223372036854775807):=Aw (by omega);have hno1:¬((O++Aa (Am t)).size+(⟨#[119,104,105,108,101,32,40]⟩:ByteArray).size>9223372036854775807):=Aw (by simp only[Zb];omega);have hno2:¬((O++Aa (Am t)++(⟨#[119,104,105,108,101,32,40]⟩:ByteArray)).size+E.size>9223372036854775807):=Aw (by simp only[Zb];omega);have hno3:¬((O++Aa (Am t)++(⟨#[119,104,105,108,101,32,40]⟩:ByteArray)++E).size+(⟨#[41,32,123,10]⟩:ByteArray).size>9223372036854775807):=Aw (by simp only[Zb];omega);have hno4:¬((O++Aa (Am t)++(⟨#[119,104,105,108,101,32,40]⟩:ByteArray)++E++(⟨#[41,32,123,10]⟩:ByteArray)).size+T.size>9223372036854775807):=Aw (by simp only[Zb];omega);have hno5:¬((O++Aa (Am t)++(⟨#[119,104,105,108,101,32,40]⟩:ByteArray)++E++(⟨#[41,32,123,10]⟩:ByteArray)++T).size+(Aa (Am t)).size>9223372036854775807):=Aw (by simp only[Zb];omega)
    have hno6:¬((O++Aa (Am t)++(⟨#[119,104,105,108,101,32,40]⟩:ByteArray)++E++(⟨#[41,32,123,10]⟩:ByteArray)++T++Aa (Am t)).size+(⟨#[125]⟩:ByteArray).size>9223372036854775807):=Aw (by simp only[Zb];omega);have hno7:¬((O++Aa (Am t)++(⟨#[119,104,105,108,101,32,40]⟩:ByteArray)++E++(⟨#[41,32,123,10]⟩:ByteArray)++T++Aa (Am t)++(⟨#[125]⟩:ByteArray)).size+(⟨#[10]⟩:ByteArray).size>9223372036854775807):=Aw (by simp only[Zb];omega);clear z0 z1 z2 z3 bO bTB bE bT;have HK:=Za (HTC.o w2 GW2.out);go_wp2_with fail
    rw[HTN.o];refine HK.o.mono ?_;rintro r w3 ⟨rfl,hb3⟩;have GB3:=Za (GB2.out.trans (hb3.mono GB2.out.size));clear hb3 HK r0 r1 r2 r3 r4;go_wp2_with fail
    go_roundw
    case rel=>exact⟨k+1,by omega,by go_num,by rw[HX.o],GB3⟩
    case measure=>simp [intOf];omega
   ·have HT:Hid (Br t x=Cf t 5 x.name x.args x.els.isEmpty (Ag (t+1) x.thn) (Ag (t+1) x.els)):=by show _=_;rw[Ga,h1]
    rw[Om]at HT;have hlen:=congrArg Zf HT.o;simp only[ln,Zc,Zg,Zh,Zi,Zj,Zk,Zm,Zl]at hlen;have ha:x.args.length=0:=by rw[HAL.o,h1];rfl
    have H1:=Za h1;rw[h1]at GO1;clear h1 HKD HAL;have q0:=GO1.out.at 0 _ rfl;have q2:=GO1.out.at 2 _ rfl;have haI:¬((x.args.length:Int)>0):=by omega
    have haJ:¬((0:Int)<(x.args.length:Int)):=by omega
    have hsN:=Av x.name;have HX:Hid (Aa (Ag t (l.take (k+1)))=Aa (Ag t (l.take k))++Aa (Am t)++(⟨#[98,114,101,97,107,59]⟩:ByteArray)++(⟨#[10]⟩:ByteArray)):=by
     show _=_
     rw[HNX.o,HT.o];unfold ln;apply Zd
     simp [Aa]
    have hTB:(Am t).length≤140737488355328:=by omega
    clear hlen HT HNX ha IHTX IHEX HRA HRT HRE;have bO:(Aa (Ag t (l.take k))).size≤140737488355328:=by rw[hsO];exact hO
    have bTB:(Aa (Am t)).size≤140737488355328:=by rw[hsT];exact hTB
    clear hO hsO hTB hsT hsN;generalize Aa (Ag t (l.take k))=O at*;have GB2:=GB1;have GO2:=GO1;have GW2:=Za (Zo W1.heap.size W1);have r0:=GO2.out.at 0 _ rfl;have r1:=GO2.out.at 1 _ rfl;have r2:=GO2.out.at 2 _ rfl;have r3:=GO2.out.at 3 _ rfl;have r4:=GO2.out.at 4 _ rfl;have z0:(⟨#[98,114,101,97,107,59]⟩:ByteArray).size=6:=rfl;have z1:(⟨#[10]⟩:ByteArray).size=1:=rfl;have hno0:¬(O.size+(Aa (Am t)).size>9223372036854775807):=Aw (by omega);have hno1:¬((O++Aa (Am t)).size+(⟨#[98,114,101,97,107,59]⟩:ByteArray).size>9223372036854775807):=Aw (by simp only[Zb];omega);have hno2:¬((O++Aa (Am t)++(⟨#[98,114,101,97,107,59]⟩:ByteArray)).size+(⟨#[10]⟩:ByteArray).size>9223372036854775807):=Aw (by simp only[Zb];omega);clear z0 z1 bO bTB;have GB3:=GB2;go_wp2_with fail
    go_roundw
    case rel=>exact⟨k+1,by omega,by go_num,by rw[HX.o],GB3⟩
    case measure=>simp [intOf];omega
   ·have HT:Hid (Br t x=Cf t 6 x.name x.args x.els.isEmpty (Ag (t+1) x.thn) (Ag (t+1) x.els)):=by show _=_;rw[Ga,h1]
    rw[Oz]at HT;have hlen:=congrArg Zf HT.o;simp only[ln,Zc,Zg,Zh,Zi,Zj,Zk,Zm,Zl]at hlen;have ha:x.args.length=0:=by rw[HAL.o,h1];rfl
    have H1:=Za h1;rw[h1]at GO1;clear h1 HKD HAL;have q0:=GO1.out.at 0 _ rfl;have q2:=GO1.out.at 2 _ rfl;have haI:¬((x.args.length:Int)>0):=by omega
    have haJ:¬((0:Int)<(x.args.length:Int)):=by omega
    have hsN:=Av x.name;have HX:Hid (Aa (Ag t (l.take (k+1)))=Aa (Ag t (l.take k))++Aa (Am t)++(⟨#[99,111,110,116,105,110,117,101,59]⟩:ByteArray)++(⟨#[10]⟩:ByteArray)):=by
     show _=_
     rw[HNX.o,HT.o];unfold ln;apply Zd
     simp [Aa]
    have hTB:(Am t).length≤140737488355328:=by omega
    clear hlen HT HNX ha IHTX IHEX HRA HRT HRE;have bO:(Aa (Ag t (l.take k))).size≤140737488355328:=by rw[hsO];exact hO
    have bTB:(Aa (Am t)).size≤140737488355328:=by rw[hsT];exact hTB
    clear hO hsO hTB hsT hsN;generalize Aa (Ag t (l.take k))=O at*;have GB2:=GB1;have GO2:=GO1;have GW2:=Za (Zo W1.heap.size W1);have r0:=GO2.out.at 0 _ rfl;have r1:=GO2.out.at 1 _ rfl;have r2:=GO2.out.at 2 _ rfl;have r3:=GO2.out.at 3 _ rfl;have r4:=GO2.out.at 4 _ rfl;have z0:(⟨#[99,111,110,116,105,110,117,101,59]⟩:ByteArray).size=9:=rfl;have z1:(⟨#[10]⟩:ByteArray).size=1:=rfl;have hno0:¬(O.size+(Aa (Am t)).size>9223372036854775807):=Aw (by omega);have hno1:¬((O++Aa (Am t)).size+(⟨#[99,111,110,116,105,110,117,101,59]⟩:ByteArray).size>9223372036854775807):=Aw (by simp only[Zb];omega);have hno2:¬((O++Aa (Am t)++(⟨#[99,111,110,116,105,110,117,101,59]⟩:ByteArray)).size+(⟨#[10]⟩:ByteArray).size>9223372036854775807):=Aw (by simp only[Zb];omega);clear z0 z1 bO bTB;have GB3:=GB2;go_wp2_with fail
    go_roundw
    case rel=>exact⟨k+1,by omega,by go_num,by rw[HX.o],GB3⟩
    case measure=>simp [intOf];omega
   ·have HT:Hid (Br t x=Cf t 7 x.name x.args x.els.isEmpty (Ag (t+1) x.thn) (Ag (t+1) x.els)):=by show _=_;rw[Ga,h1]
    rw[On]at HT;have hlen:=congrArg Zf HT.o;simp only[ln,Zc,Zg,Zh,Zi,Zj,Zk,Zm,Zl]at hlen;have ha:x.args.length=1:=by rw[HAL.o,h1];rfl
    have H1:=Za h1;rw[h1]at GO1;clear h1 HKD HAL;have q0:=GO1.out.at 0 _ rfl;have q2:=GO1.out.at 2 _ rfl;have haI:((x.args.length:Int)>0):=by omega
    have haJ:((0:Int)<(x.args.length:Int)):=by omega
    have hal0:0<x.args.length:=by omega
    obtain⟨xb,xo,xs,rfl,hD,hb,d0,d1,d2,d3,d4,hxs,hn64⟩:=GS1.out.at0 hal0;have hE:(Ae (Ao x.args 0)).length≤140737488355328:=by omega
    have hwe:Bb (Ao x.args 0)=true:=by have:=HRA.o _ (Bf hal0);unfold Be at this;rw[Ze]at this;exact this.2
    have HC:=Za (Fy (Ao x.args 0) hwe hE hn64 D xs W1 hxs);have hsE:=Av (Ae (Ao x.args 0));clear hxs hn64 hD hb;have hsN:=Av x.name;have HX:Hid (Aa (Ag t (l.take (k+1)))=Aa (Ag t (l.take k))++Aa (Am t)++(⟨#[114,101,116,117,114,110,32]⟩:ByteArray)++Aa (Ae (Ao x.args 0))++(⟨#[59]⟩:ByteArray)++(⟨#[10]⟩:ByteArray)):=by
     show _=_
     rw[HNX.o,HT.o];unfold ln;apply Zd
     simp [Aa]
    have hTB:(Am t).length≤140737488355328:=by omega
    clear hlen HT HNX ha IHTX IHEX HRA HRT HRE;have bO:(Aa (Ag t (l.take k))).size≤140737488355328:=by rw[hsO];exact hO
    have bTB:(Aa (Am t)).size≤140737488355328:=by rw[hsT];exact hTB
    have bE:(Aa (Ae (Ao x.args 0))).size≤140737488355328:=by rw[hsE];exact hE
    clear hO hsO hTB hsT hE hsE hsN;generalize Ao x.args 0=x0 at*;generalize Aa (Ag t (l.take k))=O at*;generalize Aa (Ae (x0))=E at*;go_wp2_with fail
    refine HC.o.mono ?_;rintro r w2 ⟨rfl,hb2⟩;have GB2:=Za (GB1.out.trans (hb2.mono GB1.out.size));have GW2:=Za hb2;have GO2:=Za (GO1.out.old hb2);clear hb2 HC q0 q2 d0 d1 d2 d3 d4 hwe GB1;have r0:=GO2.out.at 0 _ rfl;have r1:=GO2.out.at 1 _ rfl;have r2:=GO2.out.at 2 _ rfl;have r3:=GO2.out.at 3 _ rfl;have r4:=GO2.out.at 4 _ rfl;have z0:(⟨#[114,101,116,117,114,110,32]⟩:ByteArray).size=7:=rfl;have z1:(⟨#[59]⟩:ByteArray).size=1:=rfl;have z2:(⟨#[10]⟩:ByteArray).size=1:=rfl;have hno0:¬(O.size+(Aa (Am t)).size>9223372036854775807):=Aw (by omega);have hno1:¬((O++Aa (Am t)).size+(⟨#[114,101,116,117,114,110,32]⟩:ByteArray).size>9223372036854775807):=Aw (by simp only[Zb];omega);have hno2:¬((O++Aa (Am t)++(⟨#[114,101,116,117,114,110,32]⟩:ByteArray)).size+E.size>9223372036854775807):=Aw (by simp only[Zb];omega);have hno3:¬((O++Aa (Am t)++(⟨#[114,101,116,117,114,110,32]⟩:ByteArray)++E).size+(⟨#[59]⟩:ByteArray).size>9223372036854775807):=Aw (by simp only[Zb];omega);have hno4:¬((O++Aa (Am t)++(⟨#[114,101,116,117,114,110,32]⟩:ByteArray)++E++(⟨#[59]⟩:ByteArray)).size+(⟨#[10]⟩:ByteArray).size>9223372036854775807):=Aw (by simp only[Zb];omega);clear z0 z1 z2 bO bTB bE;have GB3:=GB2;go_wp2_with fail
    go_roundw
    case rel=>exact⟨k+1,by omega,by go_num,by rw[HX.o],GB3⟩
    case measure=>simp [intOf];omega
   ·have HT:Hid (Br t x=Cf t 8 x.name x.args x.els.isEmpty (Ag (t+1) x.thn) (Ag (t+1) x.els)):=by show _=_;rw[Ga,h1]
    rw[Ol]at HT;have hlen:=congrArg Zf HT.o;simp only[ln,Zc,Zg,Zh,Zi,Zj,Zk,Zm,Zl]at hlen;have ha:x.args.length=1:=by rw[HAL.o,h1];rfl
    have H1:=Za h1;rw[h1]at GO1;clear h1 HKD HAL;have q0:=GO1.out.at 0 _ rfl;have q2:=GO1.out.at 2 _ rfl;have haI:((x.args.length:Int)>0):=by omega
    have haJ:((0:Int)<(x.args.length:Int)):=by omega
    have hal0:0<x.args.length:=by omega
    obtain⟨xb,xo,xs,rfl,hD,hb,d0,d1,d2,d3,d4,hxs,hn64⟩:=GS1.out.at0 hal0;have hE:(Ae (Ao x.args 0)).length≤140737488355328:=by omega
    have hwe:Bb (Ao x.args 0)=true:=by have:=HRA.o _ (Bf hal0);unfold Be at this;rw[Ze]at this;exact this.2
    have HC:=Za (Fy (Ao x.args 0) hwe hE hn64 D xs W1 hxs);have hsE:=Av (Ae (Ao x.args 0));clear hxs hn64 hD hb;have hsN:=Av x.name;have HX:Hid (Aa (Ag t (l.take (k+1)))=Aa (Ag t (l.take k))++Aa (Am t)++(⟨#[112,114,105,110,116,40]⟩:ByteArray)++Aa (Ae (Ao x.args 0))++(⟨#[41,59]⟩:ByteArray)++(⟨#[10]⟩:ByteArray)):=by
     show _=_
     rw[HNX.o,HT.o];unfold ln;apply Zd
     simp [Aa]
    have hTB:(Am t).length≤140737488355328:=by omega
    clear hlen HT HNX ha IHTX IHEX HRA HRT HRE;have bO:(Aa (Ag t (l.take k))).size≤140737488355328:=by rw[hsO];exact hO
    have bTB:(Aa (Am t)).size≤140737488355328:=by rw[hsT];exact hTB
    have bE:(Aa (Ae (Ao x.args 0))).size≤140737488355328:=by rw[hsE];exact hE
    clear hO hsO hTB hsT hE hsE hsN;generalize Ao x.args 0=x0 at*;generalize Aa (Ag t (l.take k))=O at*;generalize Aa (Ae (x0))=E at*;go_wp2_with fail
    refine HC.o.mono ?_;rintro r w2 ⟨rfl,hb2⟩;have GB2:=Za (GB1.out.trans (hb2.mono GB1.out.size));have GW2:=Za hb2;have GO2:=Za (GO1.out.old hb2);clear hb2 HC q0 q2 d0 d1 d2 d3 d4 hwe GB1;have r0:=GO2.out.at 0 _ rfl;have r1:=GO2.out.at 1 _ rfl;have r2:=GO2.out.at 2 _ rfl;have r3:=GO2.out.at 3 _ rfl;have r4:=GO2.out.at 4 _ rfl;have z0:(⟨#[112,114,105,110,116,40]⟩:ByteArray).size=6:=rfl;have z1:(⟨#[41,59]⟩:ByteArray).size=2:=rfl;have z2:(⟨#[10]⟩:ByteArray).size=1:=rfl;have hno0:¬(O.size+(Aa (Am t)).size>9223372036854775807):=Aw (by omega);have hno1:¬((O++Aa (Am t)).size+(⟨#[112,114,105,110,116,40]⟩:ByteArray).size>9223372036854775807):=Aw (by simp only[Zb];omega);have hno2:¬((O++Aa (Am t)++(⟨#[112,114,105,110,116,40]⟩:ByteArray)).size+E.size>9223372036854775807):=Aw (by simp only[Zb];omega);have hno3:¬((O++Aa (Am t)++(⟨#[112,114,105,110,116,40]⟩:ByteArray)++E).size+(⟨#[41,59]⟩:ByteArray).size>9223372036854775807):=Aw (by simp only[Zb];omega);have hno4:¬((O++Aa (Am t)++(⟨#[112,114,105,110,116,40]⟩:ByteArray)++E++(⟨#[41,59]⟩:ByteArray)).size+(⟨#[10]⟩:ByteArray).size>9223372036854775807):=Aw (by simp only[Zb];omega);clear z0 z1 z2 bO bTB bE;have GB3:=GB2;go_wp2_with fail
    go_roundw
    case rel=>exact⟨k+1,by omega,by go_num,by rw[HX.o],GB3⟩
    case measure=>simp [intOf];omega
   ·have HT:Hid (Br t x=Cf t 9 x.name x.args x.els.isEmpty (Ag (t+1) x.thn) (Ag (t+1) x.els)):=by show _=_;rw[Ga,h1]
    rw[Ow]at HT;have hlen:=congrArg Zf HT.o;simp only[ln,Zc,Zg,Zh,Zi,Zj,Zk,Zm,Zl]at hlen;have ha:x.args.length=1:=by rw[HAL.o,h1];rfl
    have H1:=Za h1;rw[h1]at GO1;clear h1 HKD HAL;have q0:=GO1.out.at 0 _ rfl;have q2:=GO1.out.at 2 _ rfl;have haI:((x.args.length:Int)>0):=by omega
    have haJ:((0:Int)<(x.args.length:Int)):=by omega
    have hal0:0<x.args.length:=by omega
    obtain⟨xb,xo,xs,rfl,hD,hb,d0,d1,d2,d3,d4,hxs,hn64⟩:=GS1.out.at0 hal0;have hE:(Ae (Ao x.args 0)).length≤140737488355328:=by omega
    have hwe:Bb (Ao x.args 0)=true:=by have:=HRA.o _ (Bf hal0);unfold Be at this;rw[Ze]at this;exact this.2
    have HC:=Za (Fy (Ao x.args 0) hwe hE hn64 D xs W1 hxs);have hsE:=Av (Ae (Ao x.args 0));clear hxs hn64 hD hb;have hsN:=Av x.name;have HX:Hid (Aa (Ag t (l.take (k+1)))=Aa (Ag t (l.take k))++Aa (Am t)++(⟨#[116,114,97,112,40]⟩:ByteArray)++Aa (Ae (Ao x.args 0))++(⟨#[41,59]⟩:ByteArray)++(⟨#[10]⟩:ByteArray)):=by
     show _=_
     rw[HNX.o,HT.o];unfold ln;apply Zd
     simp [Aa]
    have hTB:(Am t).length≤140737488355328:=by omega
    clear hlen HT HNX ha IHTX IHEX HRA HRT HRE;have bO:(Aa (Ag t (l.take k))).size≤140737488355328:=by rw[hsO];exact hO
    have bTB:(Aa (Am t)).size≤140737488355328:=by rw[hsT];exact hTB
    have bE:(Aa (Ae (Ao x.args 0))).size≤140737488355328:=by rw[hsE];exact hE
    clear hO hsO hTB hsT hE hsE hsN;generalize Ao x.args 0=x0 at*;generalize Aa (Ag t (l.take k))=O at*;generalize Aa (Ae (x0))=E at*;go_wp2_with fail
    refine HC.o.mono ?_;rintro r w2 ⟨rfl,hb2⟩;have GB2:=Za (GB1.out.trans (hb2.mono GB1.out.size));have GW2:=Za hb2;have GO2:=Za (GO1.out.old hb2);clear hb2 HC q0 q2 d0 d1 d2 d3 d4 hwe GB1;have r0:=GO2.out.at 0 _ rfl;have r1:=GO2.out.at 1 _ rfl;have r2:=GO2.out.at 2 _ rfl;have r3:=GO2.out.at 3 _ rfl;have r4:=GO2.out.at 4 _ rfl;have z0:(⟨#[116,114,97,112,40]⟩:ByteArray).size=5:=rfl;have z1:(⟨#[41,59]⟩:ByteArray).size=2:=rfl;have z2:(⟨#[10]⟩:ByteArray).size=1:=rfl;have hno0:¬(O.size+(Aa (Am t)).size>9223372036854775807):=Aw (by omega);have hno1:¬((O++Aa (Am t)).size+(⟨#[116,114,97,112,40]⟩:ByteArray).size>9223372036854775807):=Aw (by simp only[Zb];omega);have hno2:¬((O++Aa (Am t)++(⟨#[116,114,97,112,40]⟩:ByteArray)).size+E.size>9223372036854775807):=Aw (by simp only[Zb];omega);have hno3:¬((O++Aa (Am t)++(⟨#[116,114,97,112,40]⟩:ByteArray)++E).size+(⟨#[41,59]⟩:ByteArray).size>9223372036854775807):=Aw (by simp only[Zb];omega);have hno4:¬((O++Aa (Am t)++(⟨#[116,114,97,112,40]⟩:ByteArray)++E++(⟨#[41,59]⟩:ByteArray)).size+(⟨#[10]⟩:ByteArray).size>9223372036854775807):=Aw (by simp only[Zb];omega);clear z0 z1 z2 bO bTB bE;have GB3:=GB2;go_wp2_with fail
    go_roundw
    case rel=>exact⟨k+1,by omega,by go_num,by rw[HX.o],GB3⟩
    case measure=>simp [intOf];omega
   ·have HT:Hid (Br t x=Cf t 10 x.name x.args x.els.isEmpty (Ag (t+1) x.thn) (Ag (t+1) x.els)):=by show _=_;rw[Ga,h1]
    rw[Mo]at HT;have hlen:=congrArg Zf HT.o;simp only[ln,Zc,Zg,Zh,Zi,Zj,Zk,Zm,Zl]at hlen;have ha:x.args.length=1:=by rw[HAL.o,h1];rfl
    have H1:=Za h1;rw[h1]at GO1;clear h1 HKD HAL;have q0:=GO1.out.at 0 _ rfl;have q2:=GO1.out.at 2 _ rfl;have haI:((x.args.length:Int)>0):=by omega
    have haJ:((0:Int)<(x.args.length:Int)):=by omega
    have hal0:0<x.args.length:=by omega
    obtain⟨xb,xo,xs,rfl,hD,hb,d0,d1,d2,d3,d4,hxs,hn64⟩:=GS1.out.at0 hal0;have hE:(Ae (Ao x.args 0)).length≤140737488355328:=by omega
    have hwe:Bb (Ao x.args 0)=true:=by have:=HRA.o _ (Bf hal0);unfold Be at this;rw[Ze]at this;exact this.2
    have HC:=Za (Fy (Ao x.args 0) hwe hE hn64 D xs W1 hxs);have hsE:=Av (Ae (Ao x.args 0));clear hxs hn64 hD hb;have hsN:=Av x.name;have HX:Hid (Aa (Ag t (l.take (k+1)))=Aa (Ag t (l.take k))++Aa (Am t)++Aa (Ae (Ao x.args 0))++(⟨#[59]⟩:ByteArray)++(⟨#[10]⟩:ByteArray)):=by
     show _=_
     rw[HNX.o,HT.o];unfold ln;apply Zd
     simp [Aa]
    have hTB:(Am t).length≤140737488355328:=by omega
    clear hlen HT HNX ha IHTX IHEX HRA HRT HRE;have bO:(Aa (Ag t (l.take k))).size≤140737488355328:=by rw[hsO];exact hO
    have bTB:(Aa (Am t)).size≤140737488355328:=by rw[hsT];exact hTB
    have bE:(Aa (Ae (Ao x.args 0))).size≤140737488355328:=by rw[hsE];exact hE
    clear hO hsO hTB hsT hE hsE hsN;generalize Ao x.args 0=x0 at*;generalize Aa (Ag t (l.take k))=O at*;generalize Aa (Ae (x0))=E at*;go_wp2_with fail
    refine HC.o.mono ?_;rintro r w2 ⟨rfl,hb2⟩;have GB2:=Za (GB1.out.trans (hb2.mono GB1.out.size));have GW2:=Za hb2;have GO2:=Za (GO1.out.old hb2);clear hb2 HC q0 q2 d0 d1 d2 d3 d4 hwe GB1;have r0:=GO2.out.at 0 _ rfl;have r1:=GO2.out.at 1 _ rfl;have r2:=GO2.out.at 2 _ rfl;have r3:=GO2.out.at 3 _ rfl;have r4:=GO2.out.at 4 _ rfl;have z0:(⟨#[59]⟩:ByteArray).size=1:=rfl;have z1:(⟨#[10]⟩:ByteArray).size=1:=rfl;have hno0:¬(O.size+(Aa (Am t)).size>9223372036854775807):=Aw (by omega);have hno1:¬((O++Aa (Am t)).size+E.size>9223372036854775807):=Aw (by simp only[Zb];omega);have hno2:¬((O++Aa (Am t)++E).size+(⟨#[59]⟩:ByteArray).size>9223372036854775807):=Aw (by simp only[Zb];omega);have hno3:¬((O++Aa (Am t)++E++(⟨#[59]⟩:ByteArray)).size+(⟨#[10]⟩:ByteArray).size>9223372036854775807):=Aw (by simp only[Zb];omega);clear z0 z1 bO bTB bE;have GB3:=GB2;go_wp2_with fail
    go_roundw
    case rel=>exact⟨k+1,by omega,by go_num,by rw[HX.o],GB3⟩
    case measure=>simp [intOf];omega
  ·have e:l.take k=l:=Zu (by omega)
   rw[e];clear e;go_wp2_with fail
   go_ret
   exact⟨rfl,GB.out⟩
theorem cI:∀(n:Nat) (l:List St),SizeOf.sizeOf l≤n→iX l
 |0,l,h=>by cases l<;>simp at h
 |n+1,l,h=>bk_step l
  (fun x hx=>cI n x.thn (by
   have h1:=List.sizeOf_lt_of_mem hx
   cases x with
   |mk k nm us t e=>show SizeOf.sizeOf t≤n;simp at h1;omega))
  (fun x hx=>cI n x.els (by
   have h1:=List.sizeOf_lt_of_mem hx
   cases x with
   |mk k nm us t e=>show SizeOf.sizeOf e≤n;simp at h1;omega))
theorem bk_any(l:List St):iX l:=cI _ l (Nat.le_refl _)
theorem Rb {B:Nat}{a w:World}(h:Below B a w)(n:Nat):Below B a (w.drewN n):=⟨h.os,h.tape,h.output,h.size,h.block⟩
theorem kP {α:Type}(f:α→Bool)(d:α)(l:List α)(k:Nat)(hk:k<l.length)(h:f (l.getD k d)=false):l.all f=false:=by
 cases q:l.all f
 ·rfl
 ·have:=Zs.1 q (l[k]) (List.getElem_mem hk)
  rw[show l.getD k d=l[k]by simp [Zt hk]]at h;rw[h]at this;cases this
theorem jD {α:Type}(f:α→Bool)(d:α)(l:List α)(h:∀i,i<l.length→f (l.getD i d)=true):l.all f=true:=by
 rw[Zs];intro x hx;obtain⟨i,hi,rfl⟩:=List.getElem_of_mem hx;have:=h i hi
 rwa[show l.getD i d=l[i]by simp [Zt hi]]at this
theorem Ou(p:Pr)(D:Nat→Prop)(sa sf:Value)(w:World)(ha:Bp D w p.arrays sa)(hf:Bk D w p.funcs sf):
  Calls Zn 12 #[.agg #[sa,sf]] w fun e w'=>e=.returned (.bool (Cd p))∧Below w.heap.size w w':=by
 obtain⟨a1,a2,rfl⟩:=ha.shape;obtain⟨f1,f2,rfl⟩:=hf.shape;have la:=ha.fits.lt;have lf:=hf.fits.lt;have E:Hid (Cd p=(p.arrays.all Ch && p.funcs.all Co)):=rfl;have hbA:Below w.heap.size w (w.alloc (.cells #[.slice a1 p.arrays.length a2,.slice f1 p.funcs.length f2] 27)):=bA;have GB1:=Za hbA;have GO1:=Za (Zp w [.slice a1 p.arrays.length a2,.slice f1 p.funcs.length f2] 27);have GA1:=Za (ha.old hbA);have GF1:=Za (Zr hbA hf);clear hbA ha hf;go_enter func12,ntmps12
 go_upto_region 1 with(fail)
 generalize w.alloc (.cells #[.slice a1 p.arrays.length a2,.slice f1 p.funcs.length f2] 27)=W1 at*;have HZ:Hid (∃pb,w.heap.size=pb):=⟨_,rfl⟩;go_wp2_with fail
 go_loopw [3] (fun s3 wr=> ∃k:Nat,k≤p.arrays.length∧s3=.int .i64 k∧Hid (∀i,i<k→Ch (Dj p.arrays i)=true)∧wr=W1) (fun s3 _=>p.arrays.length-(intOf s3).toNat)
 case atStart=>exact⟨0,Zq _,rfl,fun i hi=>absurd hi (by omega),rfl⟩
 case round=>
  obtain⟨k,hk,rfl,HI,hwr⟩:=hrel;subst hwr;have q0:=GO1.out.at 0 _ rfl
  by_cases hlt:k<p.arrays.length
  ·have hkI:(k:Int)<(p.arrays.length:Int):=by omega
   obtain⟨b,off,rfl,hD,hb,c0,c1⟩:=GA1.out.cellAt k hlt;have HNX:Hid (Ch (Dj p.arrays k)=true→∀i,i<k+1→Ch (Dj p.arrays i)=true):=fun h i hi=>by
    rcases Nat.lt_succ_iff_lt_or_eq.1 hi with h'|h'
    ·exact HI.o i h'
    ·subst h';exact h
   have HBD:Hid (Ch (Dj p.arrays k)=false→Cd p=false):=fun h=>by rw[E.out,kP Ch Ar.nil _ k hlt h];rfl
   have HR:Hid (Ch (Dj p.arrays k)=(An (Dj p.arrays k).name && decide (1≤(Dj p.arrays k).size∧(Dj p.arrays k).size≤1048576))):=rfl;clear hD hb HI;generalize Dj p.arrays k=x at*;generalize Ch x=rx at*;generalize x.size=z at*;have HN:=Za (Ig x.name wr)
   cases hn:An x.name
   ·rw[hn]at HN HR
    clear hn HNX;go_wp2_with fail
    refine HN.o.mono ?_;rintro e w2 ⟨rfl,hw2⟩;subst hw2;go_wp2_with fail
    go_ret
    exact⟨Af (HBD.o (by rw[HR.o];rfl)).symm,GB1.out⟩
   ·rw[hn]at HN HR
    clear hn
    by_cases h1:z<1
    ·clear HNX
     go_wp2_with fail
     refine HN.o.mono ?_;rintro e w2 ⟨rfl,hw2⟩;subst hw2;go_wp2_with fail
     go_ret
     exact⟨Af (HBD.o (by rw[HR.o];simp;omega)).symm,GB1.out⟩
    ·by_cases h2:z>1048576
     ·have h2':(1048576:Int)<z:=h2
      clear HNX;go_wp2_with fail
      refine HN.o.mono ?_;rintro e w2 ⟨rfl,hw2⟩;subst hw2;go_wp2_with fail
      go_ret
      exact⟨Af (HBD.o (by rw[HR.o];simp;omega)).symm,GB1.out⟩
     ·have h2':¬(1048576:Int)<z:=h2
      clear HBD;go_wp2_with fail
      refine HN.o.mono ?_;rintro e w2 ⟨rfl,hw2⟩;subst hw2;go_wp2_with fail
      go_roundw
      case rel=>exact⟨k+1,by omega,by go_num,HNX.o (by rw[HR.o];simp;omega),by first|trivial|rfl⟩
      case measure=>simp [intOf];omega
  ·have HA:Hid (p.arrays.all Ch=true):=jD Ch Ar.nil _ (fun i hi=>HI.o i (by omega))
   have GOF:Hid (∀w',Below wr.heap.size wr w'→Al w' w.heap.size [.slice a1 p.arrays.length a2,.slice f1 p.funcs.length f2] 27):=fun w' h=>GO1.out.old h
   have GFF:Hid (∀w',Below wr.heap.size wr w'→Bk D w' p.funcs (.slice f1 p.funcs.length f2)):=fun w' h=>Zr h GF1.out
   clear HI GA1 GF1 GO1;go_wp2_with fail
   go_loopw [5] (fun s5 wr'=> ∃k:Nat,k≤p.funcs.length∧s5=.int .i64 k∧Hid (∀i,i<k→Co (Bc p.funcs i)=true)∧Hid (Below w.heap.size w wr')∧Hid (Below wr.heap.size wr wr')) (fun s5 _=>p.funcs.length-(intOf s5).toNat)
   case atStart=>exact⟨0,Zq _,rfl,fun i hi=>absurd hi (by omega),GB1,Zo _ _⟩
   case round=>
    obtain⟨k,hk,rfl,HI,GB,GW⟩:=hrel;have FO:=Za (GOF.out _ GW.out);have FF:=Za (GFF.out _ GW.out);clear GB1;have q1:=FO.out.at 1 _ rfl
    by_cases hlt:k<p.funcs.length
    ·have hkI:(k:Int)<(p.funcs.length:Int):=by omega
     obtain⟨fb,off,pv,lv,sv,rfl,hD,hfb,c0,c1,c2,c3,h1,h2,h3⟩:=FF.out.cellAt k hlt;obtain⟨p1,p2,rfl⟩:=h1.shape;obtain⟨l1,l2,rfl⟩:=h2.shape;obtain⟨s1,s2,rfl⟩:=h3.shape;have p63:=h1.fits.lt;have HNX:Hid (Co (Bc p.funcs k)=true→∀i,i<k+1→Co (Bc p.funcs i)=true):=fun h i hi=>by
      rcases Nat.lt_succ_iff_lt_or_eq.1 hi with h'|h'
      ·exact HI.o i h'
      ·subst h';exact h
     have HBD:Hid (Co (Bc p.funcs k)=false→Cd p=false):=fun h=>by rw[E.out,kP Co Fu.nil _ k hlt h];simp
     have HR:Hid (Co (Bc p.funcs k)=(An (Bc p.funcs k).name && (Bc p.funcs k).params.all An && (Bc p.funcs k).locals.all An && decide ((Bc p.funcs k).params.length≤6) && (decide ((Ik 42 (Bc p.funcs k).body:Int)≤40) && Ee (Bc p.funcs k).body))):=by show _=_;rw[Tn];rfl
     have hbA:Below wr.heap.size wr (wr.alloc (.cells #[.string (Aa (Bc p.funcs k).name),.slice p1 (Bc p.funcs k).params.length p2,.slice l1 (Bc p.funcs k).locals.length l2,.slice s1 (Bc p.funcs k).body.length s2] 47)):=bA;have EO:=Za (Zp wr [.string (Aa (Bc p.funcs k).name),.slice p1 (Bc p.funcs k).params.length p2,.slice l1 (Bc p.funcs k).locals.length l2,.slice s1 (Bc p.funcs k).body.length s2] 47);have EB:=Za (GB.out.trans (hbA.mono GB.out.size));have EW:=Za (GW.out.trans (hbA.mono GW.out.size));have E1:=Za (h1.old hbA);have E2:=Za (h2.old hbA);have E3:=Za (h3.old hbA);clear hbA h1 h2 h3 hD hfb HI GB GW FO FF;have hfar:=Mu 42 (Bc p.funcs k).body;generalize Bc p.funcs k=x at*;go_upto_region 11 with(fail)
     clear q1 c0 c1 c2 c3;generalize wr.alloc (.cells #[.string (Aa x.name),.slice p1 x.params.length p2,.slice l1 x.locals.length l2,.slice s1 x.body.length s2] 47)=W2 at*;generalize wr.heap.size=fb2 at*;have r0:=EO.out.at 0 _ rfl;have r1:=EO.out.at 1 _ rfl;have r2:=EO.out.at 2 _ rfl;have r3:=EO.out.at 3 _ rfl;have N1:=Za (Ig x.name W2);have N2:=Za (Ob x.params _ _ W2 E1.out);have N3:=Za (Ob x.locals _ _ W2 E2.out);have N4:=Za (far_any x.body 42 (by omega) D _ W2 E3.out);have N5:=Za (fun w' hw=>sj_any x.body D (.slice s1 x.body.length s2) w' (E3.out.old (w':=w') hw));clear E1 E2 E3;generalize Co x=rx at*;generalize An x.name=b1 at*;generalize x.params.all An=b2 at*;generalize x.locals.all An=b3 at*;generalize x.params.length=pn at*;generalize Ik 42 x.body=fn at*;generalize Ee x.body=b5 at*;go_wp2_with fail
     refine N1.out.mono ?_;rintro e w2 ⟨rfl,hw2⟩;subst hw2;go_wp2_with fail
     refine N2.out.mono ?_;rintro e w3 ⟨rfl,hw3⟩;subst hw3;go_wp2_with fail
     refine N3.out.mono ?_;rintro e w4 ⟨rfl,hw4⟩;subst hw4;clear N1 N2 N3
     cases b1
     ·go_wp2_with fail
      go_ret
      exact⟨Af (HBD.o (by rw[HR.o];rfl)).symm,EB.out⟩
     cases b2
     ·go_wp2_with fail
      go_ret
      exact⟨Af (HBD.o (by rw[HR.o];rfl)).symm,EB.out⟩
     cases b3
     ·go_wp2_with fail
      go_ret
      exact⟨Af (HBD.o (by rw[HR.o];rfl)).symm,EB.out⟩
     by_cases h6:(pn:Int)>6
     ·have h6':(6:Int)<(pn:Int):=h6
      go_wp2_with fail
      go_ret
      exact⟨Af (HBD.o (by rw[HR.o,decide_eq_false (show ¬pn≤6 by omega)];rfl)).symm,EB.out⟩
     have h6':¬(6:Int)<(pn:Int):=h6
     by_cases h40:(fn:Int)>40
     ·have h40':(40:Int)<(fn:Int):=h40
      go_wp2_with fail
      refine N4.out.mono ?_;rintro e w5 ⟨rfl,n,hw5⟩;subst hw5;go_wp2_with fail
      go_ret
      exact⟨Af (HBD.o (by rw[HR.o,decide_eq_false (show ¬(fn:Int)≤40 by omega)];simp)).symm,Rb EB.out n⟩
     have h40':¬(40:Int)<(fn:Int):=h40;go_wp2_with fail
     refine N4.out.mono ?_;rintro e w5 ⟨rfl,n,hw5⟩;have hb5:Below w4.heap.size w4 w5:=by rw[hw5];exact Rb (Zo _ _) n
     have GB5:=Za (EB.out.trans (hb5.mono EB.out.size));have GW5:=Za (EW.out.trans (hb5.mono EW.out.size));have N6:=Za (N5.out w5 hb5);have GO5:=Za (EO.out.old hb5);clear hb5 hw5 N4 N5 r0 r1 r2 r3 EB EW EO;have r3:=GO5.out.at 3 _ rfl;have HR2:Hid (rx=b5):=by show _=_;rw[HR.o,decide_eq_true (show pn≤6 by omega),decide_eq_true (show(fn:Int)≤40 by omega)];simp
     clear HR
     cases b5
     ·go_wp2_with fail
      refine N6.out.mono ?_;rintro e w6 ⟨rfl,hb6⟩;have GB6:=Za (GB5.out.trans (hb6.mono GB5.out.size));clear hb6 N6 r3;go_wp2_with fail
      go_ret
      exact⟨Af (HBD.o HR2.o).symm,GB6.out⟩
     ·go_wp2_with fail
      refine N6.out.mono ?_;rintro e w6 ⟨rfl,hb6⟩;have GB6:=Za (GB5.out.trans (hb6.mono GB5.out.size));have GW6:=Za (GW5.out.trans (hb6.mono GW5.out.size));clear hb6 N6 r3;go_wp2_with fail
      go_roundw
      case rel=>exact⟨k+1,by omega,by go_num,HNX.o HR2.o,GB6,GW6⟩
      case measure=>simp [intOf];omega
    ·have HB:Hid (p.funcs.all Co=true):=jD Co Fu.nil _ (fun i hi=>HI.o i (by omega))
     clear HI;go_wp2_with fail
     go_ret
     exact⟨Af (by rw[E.out,HA.o,HB.o];rfl),GB.out⟩
theorem Ud(e:Ex)(hr:Be e=true)(hf:(Ae e).length≤140737488355328)(hn:I64 e.n)(D:Nat→Prop)(s:Value)(w:World)(h:Aj D w e.args s):
  Calls Zn 19 #[exV e s] w fun r w'=>r=.returned (.tuple #[.string (Aa (Ae e)),.int .i64 0])∧Below w.heap.size w w':=by
 obtain⟨a,c,rfl⟩:=h.shape;have hbA:Below w.heap.size w (w.alloc (.cells #[.int .i64 e.kind,.int .i64 e.op,.int .i64 e.n,.string (Aa e.name),.slice a e.args.length c] 31)):=bA;have GB1:=Za hbA;have GO1:=Za (Zp w [.int .i64 e.kind,.int .i64 e.op,.int .i64 e.n,.string (Aa e.name),.slice a e.args.length c] 31);have HC:=Za (Hj e D _ _ (h.old hbA));have hw:Bb e=true:=by unfold Be at hr;rw[Ze]at hr;exact hr.2
 have HX:=Za (fun w' h=>Fy e hw hf hn D (.slice a e.args.length c) w' h);have HE:=Za (h.old hbA);rw[hr]at HC;clear hbA h hr hf hn hw;go_enter func19,ntmps19
 go_upto_region 1 with(fail)
 generalize w.alloc (.cells #[.int .i64 e.kind,.int .i64 e.op,.int .i64 e.n,.string (Aa e.name),.slice a e.args.length c] 31)=W1 at*;have q0:=GO1.out.at 0 _ rfl;have q1:=GO1.out.at 1 _ rfl;have q2:=GO1.out.at 2 _ rfl;have q3:=GO1.out.at 3 _ rfl;have q4:=GO1.out.at 4 _ rfl;go_wp2_with fail
 refine HC.o.mono ?_;rintro r w2 ⟨rfl,hb2⟩;have GB2:=Za (GB1.out.trans (hb2.mono GB1.out.size));have GO2:=Za (GO1.out.old hb2);have HC2:=Za (HX.o w2 (HE.o.old hb2));clear hb2 HC q0 q1 q2 q3 q4 GB1 GO1 HX HE;have q0:=GO2.out.at 0 _ rfl;have q1:=GO2.out.at 1 _ rfl;have q2:=GO2.out.at 2 _ rfl;have q3:=GO2.out.at 3 _ rfl;have q4:=GO2.out.at 4 _ rfl;go_wp2_with fail
 refine HC2.o.mono ?_;rintro r w3 ⟨rfl,hb3⟩;have GB3:=Za (GB2.out.trans (hb3.mono GB2.out.size));clear hb3 HC2 q0 q1 q2 q3 q4;go_wp2_with fail
 go_ret2
 exact⟨rfl,GB3.out⟩
theorem We(e:Ex)(hr:Be e=false)(D:Nat→Prop)(s:Value)(w:World)(h:Aj D w e.args s):
  Calls Zn 19 #[exV e s] w fun r w'=>r=.returned (.tuple #[.string (Aa []),.int .i64 1])∧Below w.heap.size w w':=by
 obtain⟨a,c,rfl⟩:=h.shape;have hbA:Below w.heap.size w (w.alloc (.cells #[.int .i64 e.kind,.int .i64 e.op,.int .i64 e.n,.string (Aa e.name),.slice a e.args.length c] 31)):=bA;have GB1:=Za hbA;have GO1:=Za (Zp w [.int .i64 e.kind,.int .i64 e.op,.int .i64 e.n,.string (Aa e.name),.slice a e.args.length c] 31);have HC:=Za (Hj e D _ _ (h.old hbA));rw[hr]at HC;clear hbA h hr;go_enter func19,ntmps19
 go_upto_region 1 with(fail)
 generalize w.alloc (.cells #[.int .i64 e.kind,.int .i64 e.op,.int .i64 e.n,.string (Aa e.name),.slice a e.args.length c] 31)=W1 at*;have q0:=GO1.out.at 0 _ rfl;have q1:=GO1.out.at 1 _ rfl;have q2:=GO1.out.at 2 _ rfl;have q3:=GO1.out.at 3 _ rfl;have q4:=GO1.out.at 4 _ rfl;go_wp2_with fail
 refine HC.o.mono ?_;rintro r w2 ⟨rfl,hb2⟩;have GB2:=Za (GB1.out.trans (hb2.mono GB1.out.size));clear hb2 HC q0 q1 q2 q3 q4 GB1 GO1;go_wp2_with fail
 go_ret2
 exact⟨rfl,GB2.out⟩
theorem aM(p:Pr)(hr:Cd p=false)(D:Nat→Prop)(sa sf:Value)(w:World)(ha:Bp D w p.arrays sa)(hf:Bk D w p.funcs sf):
  Calls Zn 10 #[.agg #[sa,sf]] w fun r w'=>r=.returned (.tuple #[.string (Aa []),.int .i64 1])∧Below w.heap.size w w':=by
 obtain⟨a1,a2,rfl⟩:=ha.shape;obtain⟨f1,f2,rfl⟩:=hf.shape;have hbA:Below w.heap.size w (w.alloc (.cells #[.slice a1 p.arrays.length a2,.slice f1 p.funcs.length f2] 27)):=bA;have GB1:=Za hbA;have GO1:=Za (Zp w [.slice a1 p.arrays.length a2,.slice f1 p.funcs.length f2] 27);have HC:=Za (Ou p D _ _ _ (ha.old hbA) (Zr hbA hf));rw[hr]at HC;clear hbA ha hf hr;go_enter func10,ntmps10
 go_upto_region 1 with(fail)
 generalize w.alloc (.cells #[.slice a1 p.arrays.length a2,.slice f1 p.funcs.length f2] 27)=W1 at*;have q0:=GO1.out.at 0 _ rfl;have q1:=GO1.out.at 1 _ rfl;go_wp2_with fail
 refine HC.o.mono ?_;rintro r w2 ⟨rfl,hb2⟩;have GB2:=Za (GB1.out.trans (hb2.mono GB1.out.size));clear hb2 HC q0 q1 GB1 GO1;go_wp2_with fail
 go_ret2
 exact⟨rfl,GB2.out⟩
theorem kB(l:List Ar)(k:Nat)(h:k<l.length):Bm (l.take (k+1))=Bm (l.take k)++Il (Dj l k):=by
 unfold Bm;rw[List.take_succ_eq_append_getElem h,Zv];simp [Zt h]
theorem Xo(l:List Ar)(k:Nat):(Bm (l.take k)).length≤(Bm l).length:=by
 have e:Bm l=Bm (l.take k)++Bm (l.drop k):=by unfold Bm;rw[←Zv,List.take_append_drop]
 rw[e];simp
theorem gS(l:List Fu)(k:Nat)(h:k<l.length):Bv (l.take (k+1))=Bv (l.take k)++Er (Bc l k):=by
 unfold Bv;rw[List.take_succ_eq_append_getElem h,Zv];simp [Zt h]
theorem Xv(l:List Fu)(k:Nat):(Bv (l.take k)).length≤(Bv l).length:=by
 have e:Bv l=Bv (l.take k)++Bv (l.drop k):=by unfold Bv;rw[←Zv,List.take_append_drop]
 rw[e];simp
def Kx(l:List Bs)(k:Nat):Bs:=Ba ((l.take k).map Fm)
theorem gJ(l:List Bs)(k:Nat):(Kx l k).length≤(Ba (l.map Fm)).length:=by
 unfold Kx;rw[List.map_take];exact Pe _ _
theorem jN {l:List Bs}{k:Nat}(hk:k<l.length):Kx l (k+1)=if k=0 then Kx l k++Fm (l.getD k [])else Kx l k++[44,32]++Fm (l.getD k []):=by
 unfold Kx;rw[List.take_add_one,Zt hk,List.map_append,show(Option.some l[k]).toList.map Fm=[Fm l[k]]from rfl,Gr];have e:l.getD k []=l[k]:=by simp [Zt hk]
 rw[e]
 cases k with
 |zero=>simp [Ba]
 |succ k=>
  rw[if_neg (by intro h;have h2:=congrArg Zf h;rw[List.length_map,List.length_take,Zl]at h2;omega),if_neg (by omega)]
theorem Xd(p:Pr)(hr:Cd p=true)(hl:(Dv p).length≤140737488355328)(D:Nat→Prop)(sa sf:Value)(w:World)(ha:Bp D w p.arrays sa)(hf:Bk D w p.funcs sf):
  Calls Zn 10 #[.agg #[sa,sf]] w fun r w'=>r=.returned (.tuple #[.string (Aa (Dv p)),.int .i64 0])∧Below w.heap.size w w':=by
 obtain⟨a1,a2,rfl⟩:=ha.shape;obtain⟨f1,f2,rfl⟩:=hf.shape;have lal:=ha.fits.lt;have lfl:=hf.fits.lt;have hbA:Below w.heap.size w (w.alloc (.cells #[.slice a1 p.arrays.length a2,.slice f1 p.funcs.length f2] 27)):=bA;have GB1:=Za hbA;have GO1:=Za (Zp w [.slice a1 p.arrays.length a2,.slice f1 p.funcs.length f2] 27);have GA1:=Za (ha.old hbA);have GF1:=Za (Zr hbA hf);have HC:=Za (Ou p D _ _ _ (ha.old hbA) (Zr hbA hf));rw[hr]at HC;have hr2:p.arrays.all Ch=true∧p.funcs.all Co=true:=by unfold Cd at hr;rw[Ze]at hr;exact hr
 have HRA:=Za (Zs.1 hr2.1);have HRF:=Za (Zs.1 hr2.2);have hpl:(Bm p.arrays).length+(Bv p.funcs).length≤140737488355328:=by unfold Dv at hl;rwa[Zc]at hl
 have HPL:=Za hpl;have HPT:Hid (Dv p=Bm p.arrays++Bv p.funcs):=rfl;clear hbA ha hf hr hr2 hl hpl;go_enter func10,ntmps10
 go_upto_region 1 with(fail)
 generalize w.alloc (.cells #[.slice a1 p.arrays.length a2,.slice f1 p.funcs.length f2] 27)=W1 at*;have q0:=GO1.out.at 0 _ rfl;have q1:=GO1.out.at 1 _ rfl;go_wp2_with fail
 refine HC.o.mono ?_;rintro r w2 ⟨rfl,hb2⟩;have GB2:=Za (GB1.out.trans (hb2.mono GB1.out.size));have GO2:=Za (GO1.out.old hb2);have GA2:=Za (GA1.out.old hb2);have GF2:=Za (Zr hb2 GF1.out);clear hb2 HC q0 q1 GB1 GO1 GA1 GF1;go_wp2_with fail
 go_loopw [5,6] (fun s5 s6 wr=> ∃k:Nat,k≤p.arrays.length∧s6=.int .i64 k∧s5=.string (Aa (Bm (p.arrays.take k)))∧Hid (Below w.heap.size w wr)∧Hid (Below w2.heap.size w2 wr)) (fun _ s6 _=>p.arrays.length-(intOf s6).toNat)
 case atStart=>exact⟨0,Zq _,rfl,rfl,GB2,Zo _ _⟩
 case round=>
  obtain⟨k,hk,rfl,rfl,GB,GW⟩:=hrel;have GO:=Za (GO2.out.old GW.out);have q0:=GO.out.at 0 _ rfl
  by_cases hlt:k<p.arrays.length
  ·have hkI:(k:Int)<(p.arrays.length:Int):=by omega
   obtain⟨b,off,rfl,hD,hb,c0,c1⟩:=(GA2.out.old GW.out).cellAt k hlt;have hra:=HRA.o _ (Xm hlt);have hnx:=kB p.arrays k hlt;have hle:=Xo p.arrays (k+1);have hpl:=HPL.o;have hxl:=congrArg Zf hnx;obtain⟨x,hx⟩:∃x,Dj p.arrays k=x:=⟨_,rfl⟩;rw[hx]at c0 c1 hra hnx hxl;have hrz:1≤x.size∧x.size≤1048576:=by unfold Ch at hra;rw[Ze,decide_eq_true_iff]at hra;exact hra.2
   obtain⟨u,hu⟩:∃u:Nat,x.size=(u:Int):=⟨x.size.toNat,by omega⟩;have HDG:=Za (fun w'=>Sg u (by omega) w');rw[←hu]at HDG;have hat:(Il x).length=4+x.name.length+1+(Lib.itoa x.size).length+3:=by unfold Il ln Am;simp;omega
   rw[Zc,hat]at hxl;have HX:Hid (Aa (Bm (p.arrays.take (k+1)))=Aa (Bm (p.arrays.take k))++(⟨#[105,110,116,32]⟩:ByteArray)++Aa x.name++(⟨#[91]⟩:ByteArray)++Aa (Lib.itoa x.size)++(⟨#[93,59,10]⟩:ByteArray)):=by
    show _=_
    rw[hnx];unfold Il ln Am;apply Zd
    simp [Aa]
   have bO:(Aa (Bm (p.arrays.take k))).size≤140737488355328:=by rw[Av];omega
   have bNM:(Aa x.name).size≤140737488355328:=by rw[Av];omega
   have bE:(Aa (Lib.itoa x.size)).size≤140737488355328:=by rw[Av];omega
   clear hra hnx hle hpl hxl hx hrz hu hat hD hb;obtain⟨Ix,hIx,F,HFB,HFI⟩:=Kl wr;have HCL:Hid (∀n,Calls Zn 34 #[.int .i64 x.size] (F n) fun r w'=>r=.returned (.string (Aa (Lib.itoa x.size)))∧∃m,w'=F m):=fun n=>by
    refine(HDG.o (F n)).mono ?_;rintro r w' ⟨he,hb⟩;exact⟨he,HFI.o w' ((HFB.o n).trans (hb.mono (HFB.o n).size))⟩
   have HST:Hid (∃n,wr.drew=F n):=HFI.o _ (Zo _ _).drew;generalize Aa (Bm (p.arrays.take k))=O at*;generalize Aa x.name=NM at*;generalize Aa (Lib.itoa x.size)=E at*;generalize x.size=z at*;have z0:(⟨#[105,110,116,32]⟩:ByteArray).size=4:=rfl;have z1:(⟨#[91]⟩:ByteArray).size=1:=rfl;have z2:(⟨#[93,59,10]⟩:ByteArray).size=3:=rfl;have hno0:¬(O.size+(⟨#[105,110,116,32]⟩:ByteArray).size>9223372036854775807):=Aw (by omega);have hno1:¬((O++(⟨#[105,110,116,32]⟩:ByteArray)).size+NM.size>9223372036854775807):=Aw (by simp only[Zb];omega);have hno2:¬((O++(⟨#[105,110,116,32]⟩:ByteArray)++NM).size+(⟨#[91]⟩:ByteArray).size>9223372036854775807):=Aw (by simp only[Zb];omega);have hno3:¬((O++(⟨#[105,110,116,32]⟩:ByteArray)++NM++(⟨#[91]⟩:ByteArray)).size+E.size>9223372036854775807):=Aw (by simp only[Zb];omega);have hno4:¬((O++(⟨#[105,110,116,32]⟩:ByteArray)++NM++(⟨#[91]⟩:ByteArray)++E).size+(⟨#[93,59,10]⟩:ByteArray).size>9223372036854775807):=Aw (by simp only[Zb];omega);clear z0 z1 z2 bO bNM bE HDG;go_upto_region 8 with(fail)
   have g0:∀n,(F n).cell? ⟨w.heap.size,0,none⟩=some (.slice (some ⟨b,off,none⟩) p.arrays.length a2):=fun n=>Ac (HFB.o n) q0
   have m0:∀n,(F n).cell? ⟨b,off+k*2,none⟩=some (.string NM):=fun n=>Ac (HFB.o n) c0
   have m1:∀n,(F n).cell? ⟨b,off+k*2+1,none⟩=some (.int .i64 z):=fun n=>Ac (HFB.o n) c1
   clear q0 c0 c1;go_wp2_with fail
   refine Hv F (by kernel_rfl) (by kernel_rfl) HST.o ?_
   repeat(go_big_quiet_step ((go_at_call 34;exact HCL.o _)))
   refine wpQuiet_nil ?_;intro _ hw';obtain⟨nq,hw''⟩:=hw';subst hw'';have GB3:=Za (GB.out.trans ((HFB.o nq).mono GB.out.size));have GW3:=Za (GW.out.trans ((HFB.o nq).mono GW.out.size));go_wp2_with fail
   go_roundw
   case rel=>exact⟨k+1,by omega,by go_num,by rw[HX.o],GB3,GW3⟩
   case measure=>simp [intOf];omega
  ·have e:p.arrays.take k=p.arrays:=Zu (by omega)
   rw[e];clear e GO;have hA0:Bm p.arrays=Bm p.arrays++Bv (p.funcs.take 0):=by simp [Bv]
   go_wp2_with fail
   go_loopw [5,7] (fun s5 s7 wr'=> ∃k:Nat,k≤p.funcs.length∧s7=.int .i64 k∧s5=.string (Aa (Bm p.arrays++Bv (p.funcs.take k)))∧Hid (Below w.heap.size w wr')∧Hid (Below w2.heap.size w2 wr')) (fun _ s7 _=>p.funcs.length-(intOf s7).toNat)
   case atStart=>exact⟨0,Zq _,rfl,by rw[←hA0],GB,GW⟩
   case round=>
    clear hA0 GB GW q0;obtain⟨k,hk,rfl,rfl,GB,GW⟩:=hrel;have GO:=Za (GO2.out.old GW.out);have q1:=GO.out.at 1 _ rfl
    by_cases hlt:k<p.funcs.length
    ·have hkI:(k:Int)<(p.funcs.length:Int):=by omega
     obtain⟨fb,off,pv,lv,sv,rfl,hD,hfb,c0,c1,c2,c3,h1,h2,h3⟩:=(Zr GW.out GF2.out).cellAt k hlt;obtain⟨p1,p2,rfl⟩:=h1.shape;obtain⟨l1,l2,rfl⟩:=h2.shape;obtain⟨s1,s2,rfl⟩:=h3.shape;have p63:=h1.fits.lt;have l63:=h2.fits.lt;have hrf:=HRF.o _ (Ln hlt);have hnx:=gS p.funcs k hlt;have hle:=Xv p.funcs (k+1);have hpl:=HPL.o;have hxl:=congrArg Zf hnx;obtain⟨x,hx⟩:∃x,Bc p.funcs k=x:=⟨_,rfl⟩;rw[hx]at c0 c1 c2 c3 h1 h2 h3 hrf hnx hxl p63 l63;have hrs:Ee x.body=true:=by
      unfold Co at hrf;have h5:x.body.all (De 40)=true:=(Ze _ _ ▸ hrf:_∧_).2;rw[←Tn,Ze]at h5;exact h5.2
     have hft:(Er x).length=4+x.name.length+1+(Ba (x.params.map Fm)).length+4+(Cm x.locals).length+(Ag 1 x.body).length+2:=by unfold Er ln Am;simp;omega
     rw[Zc,hft]at hxl;have HX:Hid (Aa (Bm p.arrays++Bv (p.funcs.take (k+1)))=Aa (Bm p.arrays++Bv (p.funcs.take k))++(⟨#[105,110,116,32]⟩:ByteArray)++Aa x.name++(⟨#[40]⟩:ByteArray)++Aa (Ba (x.params.map Fm))++(⟨#[41,32,123,10]⟩:ByteArray)++Aa (Cm x.locals)++Aa (Ag 1 x.body)++(⟨#[125,10]⟩:ByteArray)):=by
      show _=_
      rw[hnx];unfold Er ln Am;apply Zd
      simp [Aa]
     have hO:(Bm p.arrays++Bv (p.funcs.take k)).length≤140737488355328:=by rw[Zc];omega
     have bO:(Aa (Bm p.arrays++Bv (p.funcs.take k))).size≤140737488355328:=by rw[Av];exact hO
     have bNM:(Aa x.name).size≤140737488355328:=by rw[Av];omega
     have hPN:(Ba (x.params.map Fm)).length≤140737488355328:=by omega
     have hLN:(Cm x.locals).length≤140737488355328:=by omega
     have hBD:(Ag 1 x.body).length≤140737488355328:=by omega
     have hbB:Below wr.heap.size wr (wr.alloc (.cells #[.string (Aa x.name),.slice p1 x.params.length p2,.slice l1 x.locals.length l2,.slice s1 x.body.length s2] 47)):=bA;have EO:=Za (Zp wr [.string (Aa x.name),.slice p1 x.params.length p2,.slice l1 x.locals.length l2,.slice s1 x.body.length s2] 47);have EB:=Za (GB.out.trans (hbB.mono GB.out.size));have EW:=Za (GW.out.trans (hbB.mono GW.out.size));have E1:=Za (h1.old hbB);have E2:=Za (h2.old hbB);have E3:=Za (h3.old hbB);have HBK:=Za (fun(w':World) (hs:Ap D w' x.body (.slice s1 x.body.length s2))=>bk_any x.body hrs 1 hBD D _ w' hs);clear hbB h1 h2 h3 hD hfb hrf hnx hle hpl hxl hx hrs hft GO GB GW hO;go_upto_region 13 with(fail)
     clear q1 c0 c1 c2 c3;generalize wr.alloc (.cells #[.string (Aa x.name),.slice p1 x.params.length p2,.slice l1 x.locals.length l2,.slice s1 x.body.length s2] 47)=W3 at*;generalize wr.heap.size=fb3 at*;have r0:=EO.out.at 0 _ rfl;have r1:=EO.out.at 1 _ rfl;have r2:=EO.out.at 2 _ rfl;have r3:=EO.out.at 3 _ rfl;clear EO;obtain⟨O,hO⟩:∃O,Aa (Bm p.arrays++Bv (p.funcs.take k))=O:=⟨_,rfl⟩;obtain⟨NM,hNM⟩:∃O,Aa x.name=O:=⟨_,rfl⟩;rw[hO]at bO HX;rw[hNM]at bNM HX r0;rw[hO];clear hO hNM;have z0:(⟨#[105,110,116,32]⟩:ByteArray).size=4:=rfl;have z1:(⟨#[40]⟩:ByteArray).size=1:=rfl;have hno0:¬(O.size+(⟨#[105,110,116,32]⟩:ByteArray).size>9223372036854775807):=Aw (by omega);have hno1:¬((O++(⟨#[105,110,116,32]⟩:ByteArray)).size+NM.size>9223372036854775807):=Aw (by simp only[Zb];omega);have hno2:¬((O++(⟨#[105,110,116,32]⟩:ByteArray)++NM).size+(⟨#[40]⟩:ByteArray).size>9223372036854775807):=Aw (by simp only[Zb];omega);have bA:(O++(⟨#[105,110,116,32]⟩:ByteArray)++NM++(⟨#[40]⟩:ByteArray)).size≤281474976710676:=by simp only[Zb];omega
     clear z0 z1 bO bNM;go_upto_region 14 with(fail)
     clear hno0 hno1 hno2 r0;generalize (O++(⟨#[105,110,116,32]⟩:ByteArray)++NM++(⟨#[40]⟩:ByteArray))=A at*;have hBD2:=hBD;have hA0:A=A++Aa (Kx x.params 0):=by unfold Kx;apply Zd;simp [Ba,Aa]
     obtain⟨pc,pcap,pb,po,hpv,hcp,hfp,hpp,hpc⟩:=E1.out
     cases hpv
     have HPP:=Za hpp;have HPC:=Za hpc;clear hcp hfp hpp hpc E1;go_wp2_with fail
     go_loopw [5,9] (fun s5 s9 wr'=> ∃j:Nat,j≤x.params.length∧s9=.int .i64 j∧s5=.string (A++Aa (Kx x.params j))∧wr'=W3) (fun _ s9 _=>x.params.length-(intOf s9).toNat)
     case atStart=>exact⟨0,Zq _,rfl,by rw[←hA0],rfl⟩
     case round=>
      obtain⟨j,hj,rfl,rfl,hwr⟩:=hrel;subst hwr;clear hA0;have hpl:=gJ x.params j;have bP:(Aa (Kx x.params j)).size≤140737488355328:=by rw[Av];omega
      by_cases hlt2:j<x.params.length
      ·have hjI:(j:Int)<(x.params.length:Int):=by omega
       have d0:=HPC.o j hlt2;obtain rfl:p1=some ⟨pb,po,none⟩:=by rcases HPP.o with h|h;omega;exact h.1
       have hnx:=jN hlt2;have hp2:=gJ x.params (j+1);obtain⟨y,hy⟩:∃y,x.params.getD j []=y:=⟨_,rfl⟩;rw[hy]at d0 hnx;clear hy;have hxl:=congrArg Zf hnx
       by_cases h0:j=0
       ·rw[if_pos h0]at hnx hxl
        unfold Fm at hnx hxl;rw[Zc,Zc]at hxl;have HX:Hid (A++Aa (Kx x.params (j+1))=A++Aa (Kx x.params j)++(⟨#[105,110,116,32]⟩:ByteArray)++Aa y):=by
         show _=_;rw[hnx];apply Zd;simp [Aa]
        have bY:(Aa y).size≤140737488355328:=by rw[Av];omega
        have hz0:¬((j:Int)>0):=by omega
        have hz1:¬((0:Int)<(j:Int)):=by omega
        generalize Aa (Kx x.params j)=PJ at*;generalize Aa y=Y at*;have zi:(⟨#[105,110,116,32]⟩:ByteArray).size=4:=rfl;have hno0:¬((A++PJ).size+(⟨#[105,110,116,32]⟩:ByteArray).size>9223372036854775807):=Aw (by simp only[Zb];omega);have hno1:¬((A++PJ++(⟨#[105,110,116,32]⟩:ByteArray)).size+Y.size>9223372036854775807):=Aw (by simp only[Zb];omega);clear zi bY bP hxl hnx hpl hp2 h0;go_wp2_with fail
        go_roundw
        case rel=>exact⟨j+1,by omega,by go_num,by rw[HX.o],by first|trivial|rfl⟩
        case measure=>simp [intOf];omega
       ·rw[if_neg h0]at hnx hxl
        unfold Fm at hnx hxl;rw[Zc,Zc,Zc]at hxl;have HX:Hid (A++Aa (Kx x.params (j+1))=A++Aa (Kx x.params j)++(⟨#[44,32]⟩:ByteArray)++(⟨#[105,110,116,32]⟩:ByteArray)++Aa y):=by
         show _=_;rw[hnx];apply Zd;simp [Aa]
        have bY:(Aa y).size≤140737488355328:=by rw[Av];omega
        have hz0:((j:Int)>0):=by omega
        have hz1:((0:Int)<(j:Int)):=by omega
        generalize Aa (Kx x.params j)=PJ at*;generalize Aa y=Y at*;have zi:(⟨#[105,110,116,32]⟩:ByteArray).size=4:=rfl;have zc:(⟨#[44,32]⟩:ByteArray).size=2:=rfl;have hno:¬((A++PJ).size+(⟨#[44,32]⟩:ByteArray).size>9223372036854775807):=Aw (by simp only[Zb];omega);have hno0:¬((A++PJ++(⟨#[44,32]⟩:ByteArray)).size+(⟨#[105,110,116,32]⟩:ByteArray).size>9223372036854775807):=Aw (by simp only[Zb];omega);have hno1:¬((A++PJ++(⟨#[44,32]⟩:ByteArray)++(⟨#[105,110,116,32]⟩:ByteArray)).size+Y.size>9223372036854775807):=Aw (by simp only[Zb];omega);clear zi zc bY bP hxl hnx hpl hp2 h0;go_wp2_with fail
        go_roundw
        case rel=>exact⟨j+1,by omega,by go_num,by rw[HX.o],by first|trivial|rfl⟩
        case measure=>simp [intOf];omega
      ·have ej:Kx x.params j=Ba (x.params.map Fm):=by unfold Kx;rw[Zu (by omega)]
       rw[ej]at bP ⊢;clear ej HPC HPP;generalize Aa (Ba (x.params.map Fm))=PN at*;have zc:(⟨#[41,32,123,10]⟩:ByteArray).size=4:=rfl;have hno:¬((A++PN).size+(⟨#[41,32,123,10]⟩:ByteArray).size>9223372036854775807):=Aw (by simp only[Zb];omega);have bC:(A++PN++(⟨#[41,32,123,10]⟩:ByteArray)).size≤562949953421312:=by simp only[Zb];omega
       clear zc hpl bP bA;go_upto_region 21 with(fail)
       clear hno r1;obtain⟨C,hC⟩:∃C,A++PN++(⟨#[41,32,123,10]⟩:ByteArray)=C:=⟨_,rfl⟩;rw[hC]at bC HX ⊢;clear hC;have hC0:C=C++Aa (Cm (x.locals.take 0)):=by apply Zd;simp [Cm,Aa]
       obtain⟨qc,qcap,qb,qo,hqv,hcq,hfq,hqp,hqc⟩:=E2.out
       cases hqv
       have HQP:=Za hqp;have HQC:=Za hqc;clear hcq hfq hqp hqc E2;go_wp2_with fail
       go_loopw [5,10] (fun s5 s10 wr'=> ∃j:Nat,j≤x.locals.length∧s10=.int .i64 j∧s5=.string (C++Aa (Cm (x.locals.take j)))∧wr'=wr) (fun _ s10 _=>x.locals.length-(intOf s10).toNat)
       case atStart=>exact⟨0,Zq _,rfl,by rw[←hC0],rfl⟩
       case round=>
        obtain⟨j,hj,rfl,rfl,hwr⟩:=hrel;subst hwr;clear hC0;have hpl:=Im x.locals j;have bP:(Aa (Cm (x.locals.take j))).size≤140737488355328:=by rw[Av];omega
        by_cases hlt3:j<x.locals.length
        ·have hjI:(j:Int)<(x.locals.length:Int):=by omega
         have d0:=HQC.o j hlt3;obtain rfl:l1=some ⟨qb,qo,none⟩:=by rcases HQP.o with h|h;omega;exact h.1
         have hnx:=Oc x.locals j hlt3;have hp2:=Im x.locals (j+1);obtain⟨y,hy⟩:∃y,x.locals.getD j []=y:=⟨_,rfl⟩;rw[hy]at d0 hnx;clear hy;have hxl:=congrArg Zf hnx;unfold ln Am at hnx hxl;simp only[Zc,Zg,Zh,Zi,Zj,Zk]at hxl;have HXL:Hid (C++Aa (Cm (x.locals.take (j+1)))=C++Aa (Cm (x.locals.take j))++(⟨#[9,105,110,116,32]⟩:ByteArray)++Aa y++(⟨#[59,10]⟩:ByteArray)):=by
          show _=_;rw[hnx];apply Zd;simp [Aa]
         have bY:(Aa y).size≤140737488355328:=by rw[Av];omega
         generalize Aa (Cm (x.locals.take j))=PJ at*;generalize Aa y=Y at*;have zi:(⟨#[9,105,110,116,32]⟩:ByteArray).size=5:=rfl;have zs:(⟨#[59,10]⟩:ByteArray).size=2:=rfl;have hno0:¬((C++PJ).size+(⟨#[9,105,110,116,32]⟩:ByteArray).size>9223372036854775807):=Aw (by simp only[Zb];omega);have hno1:¬((C++PJ++(⟨#[9,105,110,116,32]⟩:ByteArray)).size+Y.size>9223372036854775807):=Aw (by simp only[Zb];omega);have hno2:¬((C++PJ++(⟨#[9,105,110,116,32]⟩:ByteArray)++Y).size+(⟨#[59,10]⟩:ByteArray).size>9223372036854775807):=Aw (by simp only[Zb];omega);clear zi zs bY bP hxl hnx hpl hp2;go_wp2_with fail
         go_roundw
         case rel=>exact⟨j+1,by omega,by go_num,by rw[HXL.o],by first|trivial|rfl⟩
         case measure=>simp [intOf];omega
        ·have ej:x.locals.take j=x.locals:=Zu (by omega)
         rw[ej]at bP ⊢;clear ej HQC HQP;have bB:(Aa (Ag 1 x.body)).size≤140737488355328:=by rw[Av];exact hBD
         have HK:=Za (HBK.o wr E3.out);have HK2:Hid (Calls Zn 35 #[.slice s1 x.body.length s2,.string ⟨#[9]⟩] wr fun e w'=>e=.returned (.string (Aa (Ag 1 x.body)))∧Below wr.heap.size wr w'):=HK.o;clear HK HBK E3;generalize Aa (Cm x.locals)=LN at*;generalize Aa (Ag 1 x.body)=BD at*;have zc:(⟨#[125,10]⟩:ByteArray).size=2:=rfl;have hno0:¬((C++LN).size+BD.size>9223372036854775807):=Aw (by simp only[Zb];omega);have hno1:¬((C++LN++BD).size+(⟨#[125,10]⟩:ByteArray).size>9223372036854775807):=Aw (by simp only[Zb];omega);clear zc bB bP bC hpl;go_wp2_with fail
         refine HK2.o.mono ?_;rintro r w5 ⟨rfl,hb5⟩;have GB5:=Za (EB.out.trans (hb5.mono EB.out.size));have GW5:=Za (EW.out.trans (hb5.mono EW.out.size));clear hb5 HK2;go_wp2_with fail
         go_roundw
         case rel=>exact⟨k+1,by omega,by go_num,by rw[HX.o],GB5,GW5⟩
         case measure=>simp [intOf];omega
    ·have e:p.funcs.take k=p.funcs:=Zu (by omega)
     rw[e,←HPT.o];clear e GO;go_wp2_with fail
     go_ret2
     exact⟨rfl,GB.out⟩
end Go.Proofs.YtfhbinbjkpfedaaGreatDoor
