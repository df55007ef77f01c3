/-
  stmts of the reference 03: which statements may be, but for how deep they are. Condition: the statements lie in memory.
-/
import Derived.Test.YtfhbinbjkpfedaaGreatDoorTT11
import Derived.Test.YtfhbinbjkpfedaaGreatDoorTT10
set_option linter.unusedVariables false
set_option linter.unusedSimpArgs false
namespace Go.Proofs.YtfhbinbjkpfedaaGreatDoor
open Go.RowKit Go.Proofs.Tryz
set_option maxHeartbeats 20000000
set_option maxRecDepth 100000
open Go.Lib renaming hid→Za
open Go.Proofs.Tryz renaming prog→Zb
open List renaming length_append→Zc,sizeOf_lt_of_mem→Zg,all_eq_true→Zi
open _root_.ByteArray renaming size_append→Zd,append_assoc→Zf
open World renaming drewN_drewN→Ze
open Calls renaming quiet_of→Zh
open Nat renaming lt_succ_iff_lt_or_eq→Zj
theorem Vq(o:Int):0≤Au o∧Au o≤8:=by
 unfold Au
 repeat' split
 all_goals omega
theorem xt_4(e:Ex)(h1:e.kind=4)(hl:e.args.length=2)(ih:∀x,x∈e.args→Vm x)(hw:∀x,x∈e.args→Bb x=true):Mj e:=by
 intro hf hn D s w h;have HT:=Za (xtT_4 h1 (by omega));rw[HT.o]at hf;simp only[Zc,List.length_cons,List.length_nil]at hf;have hlI:(1:Int)<(e.args.length:Int):=by omega
 have hlJ:(0:Int)<(e.args.length:Int):=by omega
 have hsz:=Av (Ck e.op);have hpz:=Av (Bh (Ao e.args 0) (Au e.op));have hqz:=Av (Bh (Ao e.args 1) (Au e.op+1));have HP:=Za (Ue (Ao e.args 0) (ih _ (Bf (by omega))) (hw _ (Bf (by omega))) (Au e.op) (by omega));have HQ:=Za (Ue (Ao e.args 1) (ih _ (Bf (by omega))) (hw _ (Bf (by omega))) (Au e.op+1) (by omega));have HLL:Hid (0<e.args.length):=by show _<_;omega
 have HLM:Hid (1<e.args.length):=by show _<_;omega
 have hlev:=Vq e.op;clear hn ih hw hl;obtain⟨a,c,rfl⟩:=h.shape;have hbA:Below w.heap.size w (w.alloc (.cells #[.int .i64 e.kind,.int .i64 e.op,.int .i64 e.n,.string (Aa e.name),.slice a e.args.length c] 31)):=bA;have GB1:=Za hbA;have GO1:=Za (Al.new w [.int .i64 e.kind,.int .i64 e.op,.int .i64 e.n,.string (Aa e.name),.slice a e.args.length c] 31);have GE1:=Za (h.old hbA);have H1:=Za h1;clear hbA h h1;go_enter func53,ntmps53
 go_upto_region 1 with(fail)
 generalize w.alloc (.cells #[.int .i64 e.kind,.int .i64 e.op,.int .i64 e.n,.string (Aa e.name),.slice a e.args.length c] 31)=W1 at*;have HS:=Za (Ht e.op W1);have q1:=GO1.out.at 1 _ rfl;go_wp2_with fail
 refine HS.o.mono ?_;rintro r w2 ⟨⟨sb,rfl⟩,hb2⟩;have GB2:=Za (GB1.out.trans (hb2.mono GB1.out.size));have GO2:=Za (GO1.out.old hb2);have GE2:=Za (GE1.out.old hb2);clear hb2 HS q1 GB1 GO1 GE1;rw[H1.o]at GO2;have q0:=GO2.out.at 0 _ rfl;have q1:=GO2.out.at 1 _ rfl;have q2:=GO2.out.at 2 _ rfl;have q3:=GO2.out.at 3 _ rfl;have q4:=GO2.out.at 4 _ rfl;have HV:=Za (Qo e.op w2);go_wp2_with fail
 refine HV.o.mono ?_;rintro r w3 ⟨rfl,hb3⟩;have GB3:=Za (GB2.out.trans (hb3.mono GB2.out.size));have GO3:=Za (GO2.out.old hb3);have GE3:=Za (GE2.out.old hb3);clear hb3 HV q0 q1 q2 q3 q4 GB2 GO2 GE2;have q4:=GO3.out.at 4 _ rfl;obtain⟨eb,off,es,rfl,hD,hb,c0,c1,c2,c3,c4,hes,hn64⟩:=GE3.out.at0 HLL.o;obtain⟨es',k0,k1,k2,k3,k4,hes',hn64'⟩:=GE3.out.at1 HLM.o;obtain⟨Ix,hIx,F,HFB,HFI⟩:=Kl w3;have HCL:Hid (∀n,Calls Zb 90 #[exV (Ao e.args 0) es,.int .i64 (Au e.op)] (F n) fun r w'=>r=.returned (.string (Aa (Bh (Ao e.args 0) (Au e.op))))∧∃m,w'=F m):=fun n=>by
  refine(HP.o hn64 D es (F n) (hes.old (HFB.o n))).mono ?_;rintro r w' ⟨he,hb⟩;exact⟨he,HFI.o w' ((HFB.o n).trans (hb.mono (HFB.o n).size))⟩
 have HCM:Hid (∀n,Calls Zb 90 #[exV (Ao e.args 1) es',.int .i64 (Au e.op+1)] (F n) fun r w'=>r=.returned (.string (Aa (Bh (Ao e.args 1) (Au e.op+1))))∧∃m,w'=F m):=fun n=>by
  refine(HQ.o hn64' D es' (F n) (hes'.old (HFB.o n))).mono ?_;rintro r w' ⟨he,hb⟩;exact⟨he,HFI.o w' ((HFB.o n).trans (hb.mono (HFB.o n).size))⟩
 have HST:Hid (∃n,w3.drew=F n):=HFI.o _ (Below.refl _ _).drew;clear hes hn64 hD hb HP hes' hn64' HQ;obtain⟨P,hP⟩:∃P,Aa (Bh (Ao e.args 0) (Au e.op))=P:=⟨_,rfl⟩;obtain⟨R,hR⟩:∃P,Aa (Bh (Ao e.args 1) (Au e.op+1))=P:=⟨_,rfl⟩;obtain⟨S,hS⟩:∃S,Aa (Ck e.op)=S:=⟨_,rfl⟩;have HT2:Hid (Aa (Ae e)=P++⟨#[32]⟩++S++⟨#[32]⟩++R):=by
  show _=_
  rw[HT.o,←Cu,←Cu,←Cu,←Cu,hP,hR,hS,Zf,Zf,Zf,Zf,Zf,Zf]
 have e32:(⟨#[32]⟩:ByteArray).size=1:=rfl;have l32:([32]:Bs).length=1:=rfl;have hps:P.size+2+S.size+R.size≤140737488355328:=by rw[←hP,←hS,←hR,hsz,hpz,hqz];omega
 have hno1:¬(P.size+(⟨#[32]⟩:ByteArray).size>9223372036854775807):=Aw (by omega);have hno2:¬((P++(⟨#[32]⟩:ByteArray)).size+S.size>9223372036854775807):=Aw (by rw[Zd];omega);have hno3:¬((P++(⟨#[32]⟩:ByteArray)++S).size+(⟨#[32]⟩:ByteArray).size>9223372036854775807):=Aw (by rw[Zd,Zd];omega);have hno4:¬((P++(⟨#[32]⟩:ByteArray)++S++(⟨#[32]⟩:ByteArray)).size+R.size>9223372036854775807):=Aw (by rw[Zd,Zd,Zd];omega);rw[hP]at HCL;rw[hR]at HCM;rw[hS];clear hP hR hS hsz hpz hqz hf HT e32 l32;generalize Ao e.args 0=x at*;generalize Ao e.args 1=y at*;have S1:IntKind.i64.wrap (Au e.op+1)=Au e.op+1:=IntWalk.i64_in _ (by omega);generalize Au e.op=lv at*;go_upto_region 11 with(fail)
 have g4:∀n,(F n).cell? ⟨w.heap.size,4,none⟩=some (.slice (some ⟨eb,off,none⟩) e.args.length c):=fun n=>Ac (HFB.o n) q4
 have d0:∀n,(F n).cell? ⟨eb,off,none⟩=some (.int .i64 x.kind):=fun n=>Ac (HFB.o n) c0
 have d1:∀n,(F n).cell? ⟨eb,off+1,none⟩=some (.int .i64 x.op):=fun n=>Ac (HFB.o n) c1
 have d2:∀n,(F n).cell? ⟨eb,off+2,none⟩=some (.int .i64 x.n):=fun n=>Ac (HFB.o n) c2
 have d3:∀n,(F n).cell? ⟨eb,off+3,none⟩=some (.string (Aa x.name)):=fun n=>Ac (HFB.o n) c3
 have d4:∀n,(F n).cell? ⟨eb,off+4,none⟩=some es:=fun n=>Ac (HFB.o n) c4
 have m0:∀n,(F n).cell? ⟨eb,off+5,none⟩=some (.int .i64 y.kind):=fun n=>Ac (HFB.o n) k0
 have m1:∀n,(F n).cell? ⟨eb,off+5+1,none⟩=some (.int .i64 y.op):=fun n=>Ac (HFB.o n) k1
 have m2:∀n,(F n).cell? ⟨eb,off+5+2,none⟩=some (.int .i64 y.n):=fun n=>Ac (HFB.o n) k2
 have m3:∀n,(F n).cell? ⟨eb,off+5+3,none⟩=some (.string (Aa y.name)):=fun n=>Ac (HFB.o n) k3
 have m4:∀n,(F n).cell? ⟨eb,off+5+4,none⟩=some es':=fun n=>Ac (HFB.o n) k4
 clear q4 c0 c1 c2 c3 c4 k0 k1 k2 k3 k4;go_wp2_with fail
 refine Hv F (by kernel_rfl) (by kernel_rfl) HST.o ?_
 repeat(go_big_quiet_step ((go_at_call 90;first|(with_reducible exact HCL.o _)|(with_reducible exact HCM.o _))))
 refine wpQuiet_nil ?_;intro _ hw';obtain⟨nq,hw''⟩:=hw';subst hw'';have GB4:=Za (GB3.out.trans ((HFB.o nq).mono GB3.out.size));go_wp2_with fail
 go_ret
 exact⟨by rw[HT2.o];rfl,GB4.out⟩
theorem Pe:∀(l:List Bs) (k:Nat),(Ba (l.take k)).length≤(Ba l).length
 |[],k=>by simp
 |x::l,0=>by simp [Ba]
 |x::l,k+1=>by
  rw[List.take_succ_cons,Ba,Ba,Zc,Zc];have h:∀(m:List Bs) (j:Nat),((m.take j).flatMap (fun y=>[44,32]++y)).length≤(m.flatMap (fun y=>[44,32]++y)).length:=by
   intro m
   induction m with
   |nil=>intro j;simp
   |cons y m ih=>
    intro j
    cases j with
    |zero=>simp
    |succ j=>have:=ih j;simp only[List.take_succ_cons,List.flatMap_cons,Zc]at*;omega
  have:=h l k;omega
theorem kE {l:List Ex}{k:Nat}(hk:k<l.length):Ba ((l.take (k+1)).map Ae)=if k=0 then Ae (Ao l k)else Ba ((l.take k).map Ae)++[44,32]++Ae (Ao l k):=by
 rw[List.take_add_one,List.getElem?_eq_getElem hk];rw[List.map_append,show(Option.some l[k]).toList.map Ae=[Ae l[k]]from rfl,Gr,←Ld hk]
 cases k with
 |zero=>simp
 |succ k=>
  rw[if_neg (by intro h;have h2:=congrArg List.length h;rw[List.length_map,List.length_take,List.length_nil]at h2;omega),if_neg (by omega)]
def Fw(e:Ex)(k:Nat):Bs:=e.name++[40]++Ba ((e.args.take k).map Ae)
theorem iN(e:Ex)(k:Nat)(h1:e.kind=5):(Fw e k).length+1≤(Ae e).length:=by
 rw[xtT_5 h1];unfold Fw;have:=Pe (e.args.map Ae) k;rw[←List.map_take]at this;simp only[Zc]at*;show _≤_+1
 omega
theorem bV {e:Ex}{k:Nat}(hk:k<e.args.length):Fw e (k+1)=if k=0 then Fw e k++Ae (Ao e.args k)else Fw e k++[44,32]++Ae (Ao e.args k):=by
 unfold Fw;rw[kE hk]
 by_cases h0:k=0
 ·subst h0;rw[if_pos rfl,if_pos rfl];simp [Ba]
 ·rw[if_neg h0,if_neg h0];simp
theorem xt_5(e:Ex)(h1:e.kind=5)(ih:∀x,x∈e.args→Vm x)(hw:∀x,x∈e.args→Bb x=true):Mj e:=by
 intro hf hn D s w h;have l63:=h.fits.lt;have HT:Hid (Ae e=Fw e e.args.length++[41]):=by
  show _=_;rw[xtT_5 h1];unfold Fw;rw[List.take_length]
 have HLE:=Za (fun k=>iN e k h1);have HF:=Za hf;have IH:=Za ih;have HW:=Za hw;have h0z:(Fw e 0).length≤140737488355328:=by have:=HLE.o 0;omega
 have hnz:=Av e.name;have hn0:e.name.length+1=(Fw e 0).length:=by unfold Fw;simp [Ba]
 have HB0:Hid (Aa e.name++⟨#[40]⟩=Aa (Fw e 0)):=by show _=_;rw[show Fw e 0=e.name++[40]by unfold Fw;simp [Ba],←Cu]
 have hno0:¬((Aa e.name).size+(⟨#[40]⟩:ByteArray).size>9223372036854775807):=Aw (by rw[hnz];show _+1≤_;omega);clear hn ih hw hf hnz hn0;obtain⟨a,c,rfl⟩:=h.shape;have hbA:Below w.heap.size w (w.alloc (.cells #[.int .i64 e.kind,.int .i64 e.op,.int .i64 e.n,.string (Aa e.name),.slice a e.args.length c] 31)):=bA;have GB1:=Za hbA;have GO1:=Za (Al.new w [.int .i64 e.kind,.int .i64 e.op,.int .i64 e.n,.string (Aa e.name),.slice a e.args.length c] 31);have GE1:=Za (h.old hbA);have H1:=Za h1;clear hbA h h1;go_enter func53,ntmps53
 go_upto_region 1 with(fail)
 generalize w.alloc (.cells #[.int .i64 e.kind,.int .i64 e.op,.int .i64 e.n,.string (Aa e.name),.slice a e.args.length c] 31)=W1 at*;have HS:=Za (Ht e.op W1);have q1:=GO1.out.at 1 _ rfl;go_wp2_with fail
 refine HS.o.mono ?_;rintro r w2 ⟨⟨sb,rfl⟩,hb2⟩;have GB2:=Za (GB1.out.trans (hb2.mono GB1.out.size));have GO2:=Za (GO1.out.old hb2);have GE2:=Za (GE1.out.old hb2);clear hb2 HS q1 GB1 GO1 GE1;rw[H1.o]at GO2;have q0:=GO2.out.at 0 _ rfl;have q1:=GO2.out.at 1 _ rfl;have q2:=GO2.out.at 2 _ rfl;have q3:=GO2.out.at 3 _ rfl;have q4:=GO2.out.at 4 _ rfl;go_upto_region 16 with(fail)
 rw[HB0.o];clear hno0 HB0 q0 q1 q2 q3 q4;go_wp2_with fail
 go_loopw [6,7] (fun s6 s7 wr=> ∃k:Nat,k≤e.args.length∧s7=.int .i64 k∧s6=.string (Aa (Fw e k))∧Hid (Below w.heap.size w wr)∧Hid (Below w2.heap.size w2 wr)) (fun _ s7 _=>e.args.length-(intOf s7).toNat)
 case atStart=>exact⟨0,Nat.zero_le _,rfl,rfl,GB2,Below.refl _ _⟩
 case round=>
  obtain⟨k,hk,rfl,rfl,GB,GW⟩:=hrel;have GO:=Za (GO2.out.old GW.out);have GE:=Za (GE2.out.old GW.out);have q4:=GO.out.at 4 _ rfl
  by_cases hlt:k<e.args.length
  ·have hkI:(k:Int)<(e.args.length:Int):=by omega
   obtain⟨eb,off,es,rfl,hD,c0,c1,c2,c3,c4,hes,hn64⟩:=GE.out.cellAt k hlt;have hle:=HLE.o (k+1);have hff:=HF.o;have hcz:=Av (Fw e k);have htz:=Av (Ae (Ao e.args k));have hx:=bV (e:=e) hlt;have hxl:=congrArg List.length hx;have htl:(Ae (Ao e.args k)).length≤140737488355328:=by
    rw[hx]at hle;split at hle<;>simp only[Zc]at hle<;>omega
   have HC:=Za (IH.out _ (Bf hlt) (HW.o _ (Bf hlt)) htl hn64 D es wr hes);clear hes hn64 hD GO GE
   by_cases h0:k=0
   ·rw[if_pos h0]at hx hxl
    rw[Zc]at hxl;have HX:Hid (Aa (Fw e (k+1))=Aa (Fw e k)++Aa (Ae (Ao e.args k))):=by show _=_;rw[hx,←Cu]
    generalize Ao e.args k=x at*;have hno:¬((Aa (Fw e k)).size+(Aa (Ae x)).size>9223372036854775807):=Aw (by rw[hcz,htz];omega);have hz0:¬((k:Int)>0):=by omega
    have hz1:¬((0:Int)<(k:Int)):=by omega
    clear hx hxl hle hff hcz htz htl h0;go_wp2_with fail
    refine HC.o.mono ?_;rintro r w3 ⟨rfl,hb3⟩;have GB3:=Za (GB.out.trans (hb3.mono GB.out.size));have GW3:=Za (GW.out.trans (hb3.mono GW.out.size));clear hb3 HC q4 c0 c1 c2 c3 c4 GB GW;go_wp2_with fail
    go_roundw
    case rel=>exact⟨k+1,by omega,by go_num,by rw[HX.o],GB3,GW3⟩
    case measure=>simp [intOf];omega
   ·rw[if_neg h0]at hx hxl
    rw[Zc,Zc]at hxl;have HX:Hid (Aa (Fw e (k+1))=Aa (Fw e k)++⟨#[44,32]⟩++Aa (Ae (Ao e.args k))):=by show _=_;rw[hx,←Cu,←Cu]
    generalize Ao e.args k=x at*;have l44:([44,32]:Bs).length=2:=rfl;have hno1:¬((Aa (Fw e k)).size+(⟨#[44,32]⟩:ByteArray).size>9223372036854775807):=Aw (by rw[hcz];show _+2≤_;omega);have hno2:¬((Aa (Fw e k)++(⟨#[44,32]⟩:ByteArray)).size+(Aa (Ae x)).size>9223372036854775807):=Aw (by rw[Zd,hcz,htz];show _+2+_≤_;omega);have hz0:((k:Int)>0):=by omega
    have hz1:((0:Int)<(k:Int)):=by omega
    clear hx hxl hle hff hcz htz htl l44 h0;go_wp2_with fail
    refine HC.o.mono ?_;rintro r w3 ⟨rfl,hb3⟩;have GB3:=Za (GB.out.trans (hb3.mono GB.out.size));have GW3:=Za (GW.out.trans (hb3.mono GW.out.size));clear hb3 HC q4 c0 c1 c2 c3 c4 GB GW;go_wp2_with fail
    go_roundw
    case rel=>exact⟨k+1,by omega,by go_num,by rw[HX.o],GB3,GW3⟩
    case measure=>simp [intOf];omega
  ·obtain rfl:k=e.args.length:=by omega
   have hle:=HLE.o e.args.length;have hff:=HF.o;have hcz:=Av (Fw e e.args.length);have hno:¬((Aa (Fw e e.args.length)).size+(⟨#[41]⟩:ByteArray).size>9223372036854775807):=Aw (by rw[hcz];show _+1≤_;omega);clear hle hff hcz GO GE;go_wp2_with fail
   go_ret
   exact⟨by rw[HT.o,←Cu];rfl,GB.out⟩
theorem Yv(e:Ex)(ih:∀x,x∈e.args→Vm x):Vm e:=by
 intro hw;obtain⟨ok,hlen,hall⟩:=dZ hw;rcases aU ok with h|h|h|h|h|h|h
 ·exact xt_1 e h (by unfold Du at ok;rw[if_pos h]at ok;exact of_decide_eq_true ok)
 ·exact xt_2 e h
 ·exact xt_3 e h (by unfold Ca at hlen;rw[if_pos (.inl h)]at hlen;omega) ih hall
 ·exact xt_4 e h (by unfold Ca at hlen;rw[if_neg (by omega),if_pos h]at hlen;omega) ih hall
 ·exact xt_5 e h ih hall
 ·exact xt_6 e h (by unfold Ca at hlen;rw[if_pos (.inr h)]at hlen;omega) ih hall
 ·exact xt_7 e h
theorem Su:∀(n:Nat) (e:Ex),SizeOf.sizeOf e≤n→Vm e
 |0,e,h=>by cases e;simp at h
 |n+1,e,h=>Yv e fun x hx=>Su n x (by have:=Ex.size_lt hx;omega)
theorem Fy(e:Ex):Vm e:=Su _ e (Nat.le_refl _)
theorem Dc {D:Nat→Prop}{w:World}{l:List St}{v:Value}(h:Ap D w l v)(n:Nat):Ap D (w.drewN n) l v:=Ap.keep (w:=w) (w':=w.drewN n) (fun _ _ _ _ hx=>hx) h
def Qu(la:List St):Prop:= ∀(lb:List St) (D:Nat→Prop) (va vb:Value) (w:World),Ap D w la va→Ap D w lb vb→
 Calls Zb 51 #[va,vb] w fun e w'=>e=.returned (.bool (Bg Bu la lb))∧∃n,w'=w.drewN n
theorem Um(x y:St):Bu x y=(x.kind==y.kind && x.name==y.name && Cp x.args y.args && Bg Bu x.thn y.thn && Bg Bu x.els y.els):=by
 cases x;cases y;rw[Bu,Gk,Gk];rfl
theorem bW(x y:St):(Bu x y=false∧(x.kind !=y.kind)=true)∨(Bu x y=false∧(x.kind !=y.kind)=false∧(x.name==y.name)=false)
  ∨(Bu x y=false∧(x.kind !=y.kind)=false∧(x.name==y.name)=true∧Cp x.args y.args=false)
  ∨(Bu x y=false∧(x.kind !=y.kind)=false∧(x.name==y.name)=true∧Cp x.args y.args=true∧Bg Bu x.thn y.thn=false)
  ∨(Bu x y=false∧(x.kind !=y.kind)=false∧(x.name==y.name)=true∧Cp x.args y.args=true∧Bg Bu x.thn y.thn=true∧Bg Bu x.els y.els=false)
  ∨(Bu x y=true∧(x.kind !=y.kind)=false∧(x.name==y.name)=true∧Cp x.args y.args=true∧Bg Bu x.thn y.thn=true∧Bg Bu x.els y.els=true):=by
 rw[Um];simp only[bne]
 cases x.kind==y.kind<;>cases x.name==y.name<;>cases Cp x.args y.args<;>cases Bg Bu x.thn y.thn<;>cases Bg Bu x.els y.els<;>simp
theorem dT(la:List St)(iht:∀x,x∈la→Qu x.thn)(ihe:∀x,x∈la→Qu x.els):Qu la:=by
 intro lb D va vb w ha hb;obtain⟨a1,a2,rfl⟩:=ha.shape;obtain⟨b1,b2,rfl⟩:=hb.shape;have l63:=ha.fits.lt;have m63:=hb.fits.lt
 by_cases hl:lb.length=la.length
 ·rw[hl]at hb ⊢
  have HA:=Za ha;have HB:=Za hb;have IHT:=Za iht;have IHE:=Za ihe;have HL:=Za hl;clear ha hb iht ihe hl m63;go_enter func51,ntmps51
  go_wp2_with fail
  go_loopw [5] (fun s5 wr=> ∃k:Nat,k≤la.length∧s5=.int .i64 k∧(∀i,i<k→Bu (la.getD i St.nil) (lb.getD i St.nil)=true)∧∃n,wr=w.drewN n) (fun s5 _=>la.length-(intOf s5).toNat)
  case atStart=>exact⟨0,Nat.zero_le _,rfl,fun i hi=>by omega,0,rfl⟩
  case round=>
   obtain⟨k,hk,rfl,hno,hn⟩:=hrel;have HNO:=Za hno;have HN:=Za hn;have HAW:Hid (Ap D wr la (.slice a1 la.length a2)):=by obtain⟨n,rfl⟩:=hn;exact Dc HA.o n
   have HBW:Hid (Ap D wr lb (.slice b1 la.length b2)):=by obtain⟨n,rfl⟩:=hn;exact Dc HB.o n
   clear hno hn
   by_cases hlt:k<la.length
   ·obtain⟨xab,xao,xas,xat,xae,rfl,xaD,xal,a0,a1,a2,a3,a4,ah,at',ae⟩:=Ap.cellAt HAW.o k hlt
    obtain⟨xbb,xbo,xbs,xbt,xbe,rfl,xbD,xbl,b0,b1,b2,b3,b4,bh,bt,be⟩:=Ap.cellAt HBW.o k (by rw[HL.o];exact hlt);obtain⟨a5,a6,rfl⟩:=ah.shape;obtain⟨b5,b6,rfl⟩:=bh.shape;obtain⟨a7,a8,rfl⟩:=at'.shape;obtain⟨b7,b8,rfl⟩:=bt.shape;obtain⟨a9,a10,rfl⟩:=ae.shape;obtain⟨b9,b10,rfl⟩:=be.shape;have HAH:=Za ah;have HBH:=Za bh;have HAT:=Za at';have HBT:=Za bt;have HAE:=Za ae;have HBE:=Za be;clear ah bh at' bt ae be xaD xbD xal xbl HAW HBW;have IHT2:=Za (IHT.out _ (Dy hlt));have IHE2:=Za (IHE.out _ (Dy hlt));have HKL:=Za hlt;have hc:=bW (Db la k) (Db lb k);generalize hxe:Db la k=xa at*;generalize hye:Db lb k=xb at*;have HXE:=Za hxe;have HYE:=Za hye;clear hxe hye;have HC:=Za hc;clear hc;have i0:(0:Int)≤(k:Int):=by omega
    have i1:(k:Int)<(la.length:Int):=by omega
    have HC1:Hid (∀m,Calls Zb 84 #[.slice a5 xa.args.length a6,.slice b5 xb.args.length b6] (wr.drewN m) fun e w'=>e=.returned (.bool (Cp xa.args xb.args))∧∃n,w'=(wr.drewN m).drewN n):=fun m=>ref_any _ _ D _ _ _ (HAH.o.drewN m) (HBH.o.drewN m)
    have HC2:Hid (∀W,(∃m,W=wr.drewN m)→∀m,Calls Zb 51 #[.slice a7 xa.thn.length a8,.slice b7 xb.thn.length b8] (W.drewN m) fun e w'=>e=.returned (.bool (Bg Bu xa.thn xb.thn))∧∃n,w'=(W.drewN m).drewN n):=by
     rintro W ⟨o,rfl⟩ m;exact IHT2.out _ D _ _ _ (Dc (Dc HAT.o o) m) (Dc (Dc HBT.o o) m)
    have HC3:Hid (∀W,(∃m,W=wr.drewN m)→∀m,Calls Zb 51 #[.slice a9 xa.els.length a10,.slice b9 xb.els.length b10] (W.drewN m) fun e w'=>e=.returned (.bool (Bg Bu xa.els xb.els))∧∃n,w'=(W.drewN m).drewN n):=by
     rintro W ⟨o,rfl⟩ m;exact IHE2.out _ D _ _ _ (Dc (Dc HAE.o o) m) (Dc (Dc HBE.o o) m)
    have HK:Hid (∀m,(wr.drewN m).cell? ⟨xab,xao+k*5,none⟩=some (.int .i64 xa.kind)∧(wr.drewN m).cell? ⟨xab,xao+k*5+1,none⟩=some (.string (Aa xa.name))∧(wr.drewN m).cell? ⟨xab,xao+k*5+3,none⟩=some (.slice a7 xa.thn.length a8)∧(wr.drewN m).cell? ⟨xab,xao+k*5+4,none⟩=some (.slice a9 xa.els.length a10)
     ∧(wr.drewN m).cell? ⟨xbb,xbo+k*5,none⟩=some (.int .i64 xb.kind)∧(wr.drewN m).cell? ⟨xbb,xbo+k*5+1,none⟩=some (.string (Aa xb.name))∧(wr.drewN m).cell? ⟨xbb,xbo+k*5+3,none⟩=some (.slice b7 xb.thn.length b8)∧(wr.drewN m).cell? ⟨xbb,xbo+k*5+4,none⟩=some (.slice b9 xb.els.length b10)):=fun m=>⟨a0,a1,a3,a4,b0,b1,b3,b4⟩
    generalize Cp xa.args xb.args=qa at*;generalize Bg Bu xa.thn xb.thn=qt at*;generalize Bg Bu xa.els xb.els=qe at*;go_wp2_with fail
    go_quiet ((go_at_call 84;exact Zh (HC1.o _)))
    clear a0 a1 a2 a3 a4 b0 b1 b2 b3 b4 HC1;obtain⟨W1,hW1⟩:∃W,wr.drewN nq=W:=⟨_,rfl⟩;have HW1:Hid (∃m,W1=wr.drewN m):=⟨nq,hW1.symm⟩;rw[hW1];obtain⟨a0,a1,a3,a4,b0,b1,b3,b4⟩:=HK.o nq;rw[hW1]at a0 a1 a3 a4 b0 b1 b3 b4;have HD2:=Za (HC2.o W1 HW1.o);clear HC2 hW1;go_wp2_with fail
    go_quiet ((go_at_call 51;exact Zh (HD2.o _)))
    clear a0 a1 a3 a4 b0 b1 b3 b4 HD2;obtain⟨W2,hW2⟩:∃W,W1.drewN nq=W:=⟨_,rfl⟩;have HW2:Hid (∃m,W2=wr.drewN m):=by obtain⟨m,hm⟩:=HW1.o;exact⟨m+nq,by rw[←hW2,hm,Ze]⟩
    rw[hW2];clear hW2 HW1;obtain⟨a0,a1,a3,a4,b0,b1,b3,b4⟩:W2.cell? ⟨xab,xao+k*5,none⟩=some (.int .i64 xa.kind)∧W2.cell? ⟨xab,xao+k*5+1,none⟩=some (.string (Aa xa.name))∧W2.cell? ⟨xab,xao+k*5+3,none⟩=some (.slice a7 xa.thn.length a8)∧W2.cell? ⟨xab,xao+k*5+4,none⟩=some (.slice a9 xa.els.length a10)
     ∧W2.cell? ⟨xbb,xbo+k*5,none⟩=some (.int .i64 xb.kind)∧W2.cell? ⟨xbb,xbo+k*5+1,none⟩=some (.string (Aa xb.name))∧W2.cell? ⟨xbb,xbo+k*5+3,none⟩=some (.slice b7 xb.thn.length b8)∧W2.cell? ⟨xbb,xbo+k*5+4,none⟩=some (.slice b9 xb.els.length b10):=by
     obtain⟨m,hm⟩:=HW2.o;rw[hm];exact HK.o m
    have HD3:=Za (HC3.o W2 HW2.o);clear HC3;go_wp2_with fail
    go_quiet ((go_at_call 51;exact Zh (HD3.o _)))
    clear a0 a1 a3 a4 b0 b1 b3 b4 HD3;obtain⟨W3,hW3⟩:∃W,W2.drewN nq=W:=⟨_,rfl⟩;have HW3:Hid (∃m,W3=wr.drewN m):=by obtain⟨m,hm⟩:=HW2.o;exact⟨m+nq,by rw[←hW3,hm,Ze]⟩
    rw[hW3];clear hW3 HW2;obtain⟨a0,a1,a3,a4,b0,b1,b3,b4⟩:W3.cell? ⟨xab,xao+k*5,none⟩=some (.int .i64 xa.kind)∧W3.cell? ⟨xab,xao+k*5+1,none⟩=some (.string (Aa xa.name))∧W3.cell? ⟨xab,xao+k*5+3,none⟩=some (.slice a7 xa.thn.length a8)∧W3.cell? ⟨xab,xao+k*5+4,none⟩=some (.slice a9 xa.els.length a10)
     ∧W3.cell? ⟨xbb,xbo+k*5,none⟩=some (.int .i64 xb.kind)∧W3.cell? ⟨xbb,xbo+k*5+1,none⟩=some (.string (Aa xb.name))∧W3.cell? ⟨xbb,xbo+k*5+3,none⟩=some (.slice b7 xb.thn.length b8)∧W3.cell? ⟨xbb,xbo+k*5+4,none⟩=some (.slice b9 xb.els.length b10):=by
     obtain⟨m,hm⟩:=HW3.o;rw[hm];exact HK.o m
    have HC2:=Za HC.o;rcases HC2.o with⟨e,h1⟩|⟨e,h1,h2⟩|⟨e,h1,h2,rfl⟩|⟨e,h1,h2,rfl,rfl⟩|⟨e,h1,h2,rfl,rfl,rfl⟩|⟨e,h1,h2,rfl,rfl,rfl⟩
    all_goals
     have HE:Hid (Bu (Db la k) (Db lb k)=Bu xa xb):=by show _=_;rw[HXE.o,HYE.o]
     have HE2:=Za e;clear HC HC2 e;go_wp2_with fail
     go_quiet (fail)
     go_wp2_with fail
    iterate 5
     ·go_ret
      obtain⟨n0,hn0⟩:=HN.o;obtain⟨m,hm⟩:=HW3.o;exact⟨Af (Dl Bu St.nil la lb k HL.o.symm HKL.o (HE.o.trans HE2.o)).symm,_,by rw[hm,hn0,Ze,Ze]⟩
    ·go_roundw
     case rel=>exact⟨k+1,by omega,by go_num,fun i hi=>by rcases Zj.1 hi with h|rfl;exact HNO.o i h;exact HE.o.trans HE2.o,by obtain⟨n0,hn0⟩:=HN.o;obtain⟨m,hm⟩:=HW3.o;exact⟨_,by rw[hm,hn0,Ze,Ze]⟩⟩
     case measure=>simp [intOf];omega
   ·go_wp2_with fail
    go_ret
    exact⟨Af (Dz Bu St.nil la lb HL.o.symm (fun i hi=>HNO.o i (by omega))).symm,HN.o⟩
 ·have hne:((la.length:Int) !=(lb.length:Int))=true:=by rw[bne_iff_ne];omega
  have E:Hid (Bg Bu la lb=false):=Ft _ _ _ (by omega);clear ha hb iht ihe hl;go_enter func51,ntmps51
  go_wp2_with fail
  go_ret
  exact⟨Af E.out.symm,0,rfl⟩
theorem Qr:∀(n:Nat) (l:List St),SizeOf.sizeOf l≤n→Qu l
 |0,l,h=>by cases l<;>simp at h
 |n+1,l,h=>dT l
  (fun x hx=>Qr n x.thn (by
   have h1:=Zg hx
   cases x with
   |mk k nm us t e=>show SizeOf.sizeOf t≤n;simp at h1;omega))
  (fun x hx=>Qr n x.els (by
   have h1:=Zg hx
   cases x with
   |mk k nm us t e=>show SizeOf.sizeOf e≤n;simp at h1;omega))
theorem gR(l:List St):Qu l:=Qr _ l (Nat.le_refl _)
def Vs(l:List St):Prop:= ∀(m:Nat),m≤42→∀(D:Nat→Prop) (v:Value) (w:World),Ap D w l v→
 Calls Zb 40 #[v,.int .i64 m] w fun e w'=>e=.returned (.int .i64 (Ik m l))∧∃n,w'=w.drewN n
abbrev kA(m:Nat)(x:St):Nat:=max (1+Ik m x.thn) (1+Ik m x.els)
theorem kQ(l:List St)(iht:∀x,x∈l→Vs x.thn)(ihe:∀x,x∈l→Vs x.els):Vs l:=by
 intro m hm D v w h;obtain⟨a,c,rfl⟩:=h.shape;have l63:=h.fits.lt;have H:=Za h;have IHT:=Za iht;have IHE:=Za ihe;clear h iht ihe;have HR0:Hid (Ik 0 l=0):=by show _=_;rw[Ik]
 have HR1:Hid (0<m→Ik m l=l.foldl (fun n x=>max n (kA (m-1) x)) 0):=by
  intro h0;obtain⟨q,rfl⟩:∃q,m=q+1:=⟨m-1,by omega⟩;rw[Ik];rfl
 have hmI:(m:Int)≤42:=by omega
 go_enter func40,ntmps40
 go_wp2_with fail
 go_loopw [5,6] (fun s5 s6 wr=> ∃k n:Nat,k≤l.length∧s6=.int .i64 k∧s5=.int .i64 n∧n=(l.take k).foldl (fun n x=>max n (kA (m-1) x)) 0∧n≤43∧(m=0→k=0)∧∃j,wr=w.drewN j) (fun _ s6 _=>l.length-(intOf s6).toNat)
 case atStart=>exact⟨0,0,Nat.zero_le _,rfl,rfl,by simp,by omega,fun _=>rfl,0,rfl⟩
 case round=>
  obtain⟨k,n,hk,rfl,rfl,hn,hn41,hmk,hj⟩:=hrel;have HJ:=Za hj;have HAW:Hid (Ap D wr l (.slice a l.length c)):=by obtain⟨n,rfl⟩:=hj;exact Dc H.out n
  clear hj
  by_cases hlt:k<l.length
  ·have hkI:(k:Int)<(l.length:Int):=by omega
   by_cases hm0:0<m
   ·have hmp:(m:Int)>0:=by omega
    have hmp2:(0:Int)<(m:Int):=by omega
    obtain⟨eb,off,es,et,ee,rfl,hD,hebl,c0,c1,c2,c3,c4,hes,het,hee⟩:=Ap.cellAt HAW.o k hlt;obtain⟨t1,t2,rfl⟩:=het.shape;obtain⟨u1,u2,rfl⟩:=hee.shape;have HET:=Za het;have HEE:=Za hee;have IHTX:=Za (IHT.out _ (Dy hlt) (m-1) (by omega));have IHEX:=Za (IHE.out _ (Dy hlt) (m-1) (by omega));have HNX:Hid (max n (kA (m-1) (Db l k))=(l.take (k+1)).foldl (fun n x=>max n (kA (m-1) x)) 0):=by show _=_;rw[Tm _ St.nil _ _ hlt,←hn]
    have ht1:=Mu (m-1) (Db l k).thn;have ht2:=Mu (m-1) (Db l k).els;clear hes het hee hD hebl HAW IHT IHE hn;have HC1:Hid (∀q,Calls Zb 40 #[.slice t1 (Db l k).thn.length t2,.int .i64 ((m-1:Nat):Int)] (wr.drewN q) fun e w'=>e=.returned (.int .i64 (Ik (m-1) (Db l k).thn))∧∃n,w'=(wr.drewN q).drewN n):=fun q=>IHTX.out D _ _ (Dc HET.o q)
    have HC2:Hid (∀q,Calls Zb 40 #[.slice u1 (Db l k).els.length u2,.int .i64 ((m-1:Nat):Int)] (wr.drewN q) fun e w'=>e=.returned (.int .i64 (Ik (m-1) (Db l k).els))∧∃n,w'=(wr.drewN q).drewN n):=fun q=>IHEX.out D _ _ (Dc HEE.o q)
    clear IHTX IHEX HET HEE;have S1:IntKind.i64.wrap ((m:Int)-1)=((m-1:Nat):Int):=by rw[show((m-1:Nat):Int)=(m:Int)-1 by omega];exact IntWalk.i64_in _ (by omega)
    unfold kA at HNX;generalize Db l k=x at*;generalize Ik (m-1) x.thn=T at*;generalize Ik (m-1) x.els=E at*;generalize x.els.length=u at*;generalize x.thn.length=tl at*;have b1:(T:Int)≤42:=by omega
    have b2:(E:Int)≤42:=by omega
    have b4:(0:Int)≤(T:Int):=by omega
    have b5:(0:Int)≤(E:Int):=by omega
    have S2:IntKind.i64.wrap (1+(T:Int))=1+(T:Int):=IntWalk.i64_in _ (by omega);have S3:IntKind.i64.wrap (1+(E:Int))=1+(E:Int):=IntWalk.i64_in _ (by omega);have HLT:=Za hlt;clear hmk;go_wp2_with fail
    go_quiet ((go_at_call 40;first|(with_reducible exact Zh (HC1.o _))|(with_reducible exact Zh (HC2.o _))))
    have HJ2:Hid (∃n,wr.drewN nq=w.drewN n):=by obtain⟨n,hn⟩:=HJ.o;exact⟨_,by rw[hn,Ze]⟩
    clear c0 c1 c2 c3 c4 HC1 HC2 S1 S2 S3;go_wp2_with fail
    go_roundw
    case rel=>exact⟨k+1,max n (max (1+T) (1+E)),by omega,by go_num,by first|go_num|(congr 1;omega),HNX.o,by omega,fun h=>absurd hm0 (by omega),HJ2.o⟩
    case measure=>simp [intOf];omega
   ·obtain rfl:m=0:=by omega
    obtain rfl:=hmk rfl;have hn0:n=0:=by rw[hn];simp
    subst hn0;clear hn IHT IHE HR1;have hz:¬(((0:Nat):Int)>0):=by omega
    go_wp2_with fail
    go_ret
    exact⟨by rw[HR0.o];rfl,HJ.o⟩
  ·have e0:l.take k=l:=List.take_of_length_le (by omega)
   rw[e0]at hn;have hR:Ik m l=n:=by
    by_cases hm0:0<m
    ·rw[HR1.o hm0,hn]
    ·obtain rfl:m=0:=by omega
     obtain rfl:=hmk rfl;have hn0:n=0:=by
      have:l=[]:=List.length_eq_zero_iff.1 (by omega);rw[hn,this];rfl
     rw[hn0,HR0.o]
   have HRR:=Za hR;clear hR hn e0 HR0 HR1 IHT IHE;go_wp2_with fail
   go_ret
   exact⟨by rw[HRR.o];rfl,HJ.o⟩
theorem Uh:∀(n:Nat) (l:List St),SizeOf.sizeOf l≤n→Vs l
 |0,l,h=>by cases l<;>simp at h
 |n+1,l,h=>kQ l
  (fun x hx=>Uh n x.thn (by
   have h1:=Zg hx
   cases x with
   |mk k nm us t e=>show SizeOf.sizeOf t≤n;simp at h1;omega))
  (fun x hx=>Uh n x.els (by
   have h1:=Zg hx
   cases x with
   |mk k nm us t e=>show SizeOf.sizeOf e≤n;simp at h1;omega))
theorem far_any(l:List St):Vs l:=Uh _ l (Nat.le_refl _)
abbrev stC(x:St)(a t e:Value):List Value:=[.int .i64 x.kind,.string (Aa x.name),a,t,e]
def jM(l:List St):Prop:= ∀(D:Nat→Prop) (v:Value) (w:World),Ap D w l v→
 Calls Zb 41 #[v] w fun e w'=>e=.returned (.bool (Ee l))∧Below w.heap.size w w'
theorem Lm {x:St}(h:x.args.all Be=false∨Ee x.thn=false∨Ee x.els=false∨Kr x=false):Jb x=false:=by
 rw[Nt];rcases h with h|h|h|h<;>simp [h]
theorem Ux {l:List St}{k:Nat}(hk:k<l.length)(h:Jb (Db l k)=false):Ee l=false:=by
 rw[Jw]
 cases q:l.all Jb
 ·rfl
 ·have:=Zi.1 q _ (Dy hk)
  rw[h]at this;cases this
theorem fX {l:List Ex}{k:Nat}(hk:k<l.length)(h:Be (Ao l k)=false):l.all Be=false:=by
 cases q:l.all Be
 ·rfl
 ·have:=Zi.1 q _ (Bf hk)
  rw[h]at this;cases this
theorem jQ(l:List Ex):l.headD (.mk 0 0 0 [] [])=Ao l 0:=by cases l<;>rfl
def Cv(kd:Int)(nb ne bl:Bool)(u a:Nat)(hd:Bool):Bool:=
 if kd=1∨kd=2 then nb && bl else if kd=3 then ne else if kd=4 then ne && (u==0)else if kd=5∨kd=6 then ne && bl
 else if kd=7∨kd=8∨kd=9 then ne && bl else if kd=10 then ne && bl && (a==1) && hd else false
def Cz(kd:Int):Nat:=if kd=2 then 2 else if kd=5∨kd=6 then 0 else 1
theorem Tb(x:St):Kr x=(Cv x.kind (An x.name) (x.name==[]) (x.thn.length==0 && x.els.length==0) x.els.length x.args.length ((Ao x.args 0).kind==5) && (x.args.length==Cz x.kind)):=by
 unfold Kr Cv Cz;rw[jQ]
theorem sj_step(l:List St)(iht:∀x,x∈l→jM x.thn)(ihe:∀x,x∈l→jM x.els):jM l:=by
 intro D v w h;obtain⟨a,c,rfl⟩:=h.shape;have l63:=h.fits.lt;have H:=Za h;have IHT:=Za iht;have IHE:=Za ihe;clear h iht ihe;go_enter func41,ntmps41
 go_wp2_with fail
 go_loopw [3] (fun s3 wr=> ∃k:Nat,k≤l.length∧s3=.int .i64 k∧Hid (∀i,i<k→Jb (Db l i)=true)∧Hid (Below w.heap.size w wr)) (fun s3 _=>l.length-(intOf s3).toNat)
 case atStart=>exact⟨0,Nat.zero_le _,rfl,fun i hi=>absurd hi (by omega),Below.refl _ _⟩
 case round=>
  obtain⟨k,hk,rfl,HI,GB⟩:=hrel;have GA:=Za (H.out.old GB.out)
  by_cases hlt:k<l.length
  ·have hkI:(k:Int)<(l.length:Int):=by omega
   have HLT:=Za hlt;obtain⟨eb,off,es,et,ee,rfl,hD,hebl,c0,c1,c2,c3,c4,hes,het,hee⟩:=Ap.cellAt GA.out k hlt;obtain⟨s1,s2,rfl⟩:=hes.shape;obtain⟨t1,t2,rfl⟩:=het.shape;obtain⟨u1,u2,rfl⟩:=hee.shape;have a63:=hes.fits.lt;have t63:=het.fits.lt;have u63:=hee.fits.lt;have IHTX:=Za (IHT.out _ (Dy hlt) D);have IHEX:=Za (IHE.out _ (Dy hlt) D);have HX:Hid (∃x,Db l k=x):=⟨_,rfl⟩;obtain⟨x,hx⟩:=HX.o;have HSX:=Za hx;rw[hx]at c0 c1 c2 c3 c4 hes het hee a63 t63 u63 IHTX IHEX;clear hx HX;have HX2:Hid (Jb x=false→Ee l=false):=fun h=>Ux HLT.o (by rw[HSX.o];exact h)
   have HI2:Hid (Jb x=true→∀i,i<k+1→Jb (Db l i)=true):=fun h i hi=>by
    rcases Zj.1 hi with h'|h'
    ·exact HI.o i h'
    ·subst h';rw[HSX.o];exact h
   clear HI HSX;have hbA:Below wr.heap.size wr (wr.alloc (.cells #[.int .i64 x.kind,.string (Aa x.name),.slice s1 x.args.length s2,.slice t1 x.thn.length t2,.slice u1 x.els.length u2] 56)):=bA;have GB1:=Za (GB.out.trans (hbA.mono GB.out.size));have GO1:=Za (Al.new wr (stC x (.slice s1 x.args.length s2) (.slice t1 x.thn.length t2) (.slice u1 x.els.length u2)) 56);have GS1:=Za (hes.old hbA);have GT1:=Za (het.old hbA);have GE1:=Za (hee.old hbA);clear hbA hes het hee hD hebl GA;go_upto_region 5 with(fail)
   clear c0 c1 c2 c3 c4;generalize wr.alloc (.cells #[.int .i64 x.kind,.string (Aa x.name),.slice s1 x.args.length s2,.slice t1 x.thn.length t2,.slice u1 x.els.length u2] 56)=W1 at*;generalize wr.heap.size=sb at*;go_wp2_with fail
   go_loopw [5] (fun s5 wy=> ∃q:Nat,q≤x.args.length∧s5=.int .i64 q∧Hid (∀i,i<q→Be (Ao x.args i)=true)∧Hid (Below w.heap.size w wy)∧Hid (Below W1.heap.size W1 wy)) (fun s5 _=>x.args.length-(intOf s5).toNat)
   case atStart=>exact⟨0,Nat.zero_le _,rfl,fun i hi=>absurd hi (by omega),GB1,Below.refl _ _⟩
   case round=>
    obtain⟨q,hq,rfl,HJ,FB,FW⟩:=hrel;have FO:=Za (GO1.out.old FW.out);have FS:=Za (GS1.out.old FW.out);have q2:=FO.out.at 2 _ rfl
    by_cases hqt:q<x.args.length
    ·have hqI:(q:Int)<(x.args.length:Int):=by omega
     have HQT:=Za hqt;obtain⟨eb,off,es,rfl,hD,c0,c1,c2,c3,c4,hes,hn64⟩:=FS.out.cellAt q hqt;have HC:=Za (Hj _ D es wr hes);obtain⟨y,hy⟩:∃y,Ao x.args q=y:=⟨_,rfl⟩;have HY:=Za hy;rw[hy]at c0 c1 c2 c3 HC;clear hy hes hn64 hD
     cases hr:Be y
     ·rw[hr]at HC
      have HR:Hid (Ee l=false):=HX2.o (Lm (.inl (fX HQT.o (by rw[HY.o];exact hr))));clear hr HI2;go_wp2_with fail
      refine HC.o.mono ?_;rintro r w2 ⟨rfl,hb2⟩;have GB2:=Za (FB.out.trans (hb2.mono FB.out.size));clear hb2 q2 c0 c1 c2 c3 c4 HC;go_wp2_with fail
      go_ret
      exact⟨Af HR.o.symm,GB2.out⟩
     ·rw[hr]at HC
      have HJ2:Hid (∀i,i<q+1→Be (Ao x.args i)=true):=fun i hi=>by
       rcases Zj.1 hi with h'|h'
       ·exact HJ.o i h'
       ·subst h';rw[HY.o];exact hr
      clear hr;go_wp2_with fail
      refine HC.o.mono ?_;rintro r w2 ⟨rfl,hb2⟩;have GB2:=Za (FB.out.trans (hb2.mono FB.out.size));have GW2:=Za (FW.out.trans (hb2.mono FW.out.size));clear hb2 q2 c0 c1 c2 c3 c4 HC;go_wp2_with fail
      go_roundw
      case rel=>exact⟨q+1,by omega,by go_num,HJ2,GB2,GW2⟩
      case measure=>simp [intOf];omega
    ·have HALL:Hid (x.args.all Be=true):=Zi.2 (fun y hy=>by
      obtain⟨i,hi,rfl⟩:=List.getElem_of_mem hy;have:=HJ.o i (by omega)
      rwa[Ld hi]at this)
     clear HJ;have q3:=FO.out.at 3 _ rfl;have HC:=Za (IHTX.out _ wr (GT1.out.old FW.out));clear IHTX;obtain⟨bt,hbt⟩:∃b,Ee x.thn=b:=⟨_,rfl⟩;have HBT:=Za hbt;rw[hbt]at HC;clear hbt;go_wp2_with fail
     refine HC.o.mono ?_;rintro r w2 ⟨rfl,hb2⟩;have EB:=Za (FB.out.trans (hb2.mono FB.out.size));have EW:=Za (FW.out.trans (hb2.mono FW.out.size));clear hb2 q2 q3 HC FB FO FS FW;have EO:=Za (GO1.out.old EW.out);have q4:=EO.out.at 4 _ rfl;have HC:=Za (IHEX.out _ w2 (GE1.out.old EW.out));clear IHEX;obtain⟨be,hbe⟩:∃b,Ee x.els=b:=⟨_,rfl⟩;have HBE:=Za hbe;rw[hbe]at HC;clear hbe;go_wp2_with fail
     refine HC.o.mono ?_;rintro r w3 ⟨rfl,hb3⟩;have DB:=Za (EB.out.trans (hb3.mono EB.out.size));have DW:=Za (EW.out.trans (hb3.mono EW.out.size));clear hb3 q4 HC EB EW EO;have DO:=Za (GO1.out.old DW.out);have DS:=Za (GS1.out.old DW.out);clear GO1 GS1 GT1 GE1 GB1
     cases bt
     ·have HR:Hid (Ee l=false):=HX2.o (Lm (.inr (.inl HBT.o)))
      clear HI2;go_wp2_with fail
      go_ret
      exact⟨Af HR.o.symm,DB.out⟩
     cases be
     ·have HR:Hid (Ee l=false):=HX2.o (Lm (.inr (.inr (.inl HBE.o))))
      clear HI2;go_wp2_with fail
      go_ret
      exact⟨Af HR.o.symm,DB.out⟩
     have HXR:Hid (Jb x=Kr x):=by show _=_;rw[Nt,HALL.o,HBT.o,HBE.o];simp
     clear HALL HBT HBE;have q1:=DO.out.at 1 _ rfl;have q3:=DO.out.at 3 _ rfl;have q4:=DO.out.at 4 _ rfl;have HN:=Za (Ig x.name w3);have HF:=Za (Tb x);have HD0:Hid (0<x.args.length→∃b off,s1=some ⟨b,off,none⟩∧w3.cell? ⟨b,off,none⟩=some (.int .i64 (Ao x.args 0).kind)):=fun h=>by
      obtain⟨b,off,es,e1,_,c0,_⟩:=DS.out.cellAt 0 h;exact⟨b,off,e1,by simpa using c0⟩
     clear DS DW;go_wp2_with fail
     refine HN.o.mono ?_;rintro r w4 ⟨rfl,hw4⟩;subst hw4;clear HN q1;go_upto_region 17 with(fail)
     go_cut [11] (fun s11 wx=>s11=.bool (x.thn.length==0 && x.els.length==0)∧w4=wx)
     case first=>
      by_cases ht:x.thn.length=0<;>by_cases hu:x.els.length=0
      all_goals
       have htI:(x.thn.length:Int)=(x.thn.length:Int):=rfl
       first
       |(have h1:((x.thn.length:Int)==0)=true:=by rw[beq_iff_eq];omega)
       |(have h1:((x.thn.length:Int)==0)=false:=by rw[beq_eq_false_iff_ne];omega)
       first
       |(have h2:((x.els.length:Int)==0)=true:=by rw[beq_iff_eq];omega)
       |(have h2:((x.els.length:Int)==0)=false:=by rw[beq_eq_false_iff_ne];omega)
       go_wp2_with fail
       go_meet;exact⟨by simp [ht,hu],rfl⟩
     case rest=>
     obtain⟨rfl,rfl⟩:=hcut;clear q3;have q0:=DO.out.at 0 _ rfl;have q1:=DO.out.at 1 _ rfl;have q2:=DO.out.at 2 _ rfl;have q4:=DO.out.at 4 _ rfl;clear DO;generalize (x.thn.length==0 && x.els.length==0)=bl at*;generalize An x.name=nb at*;obtain⟨ne,hne⟩:∃b,(x.name==[])=b:=⟨_,rfl⟩;rw[hne]at HF;obtain⟨hd,hhd⟩:∃b,((Ao x.args 0).kind==5)=b:=⟨_,rfl⟩;rw[hhd]at HF;have HH:Hid (Jb x=(Cv x.kind nb ne bl x.els.length x.args.length hd && (x.args.length==Cz x.kind))):=HXR.o.trans HF.o;clear HF HXR;generalize (Ao x.args 0).kind=k0 at*;generalize x.name=nm at*;generalize x.args.length=na at*;generalize x.els.length=nu at*;generalize x.thn.length=nt at*;generalize x.kind=kd at*;generalize Jb x=sx at*;have hall:(kd=1∨kd=2∨kd=3∨kd=4∨kd=5∨kd=6∨kd=7∨kd=8∨kd=9∨kd=10)∨(kd≠1∧kd≠2∧kd≠3∧kd≠4∧kd≠5∧kd≠6∧kd≠7∧kd≠8∧kd≠9∧kd≠10):=by omega
     rcases hall with(rfl|rfl|rfl|rfl|rfl|rfl|rfl|rfl|rfl|rfl)|⟨h1,h2,h3,h4,h5,h6,h7,h8,h9,h10⟩
     ·by_cases ha:na=1
      ·subst ha
       clear HD0
       cases nb<;>cases bl
       all_goals
        go_wp2_with fail
        first
        |(go_ret;exact⟨Af (HX2.o (by rw[HH.o];simp [Cv,Cz, *])).symm,DB.out⟩)
        |(go_roundw
          case rel=>exact⟨k+1,by omega,by go_num,HI2.o (by rw[HH.o];simp [Cv,Cz, *]),DB⟩
          case measure=>simp [intOf];omega)
      ·have ha1:((na:Int) !=1)=true:=by rw[bne_iff_ne];omega
       have ha2:((na:Int)==1)=false:=by rw[beq_eq_false_iff_ne];omega
       have ha3:(na==1)=false:=by rw[beq_eq_false_iff_ne];exact ha
       clear HD0
       cases nb<;>cases bl
       all_goals
        go_wp2_with fail
        first
        |(go_ret;exact⟨Af (HX2.o (by rw[HH.o];simp [Cv,Cz, *])).symm,DB.out⟩)
        |(go_roundw
          case rel=>exact⟨k+1,by omega,by go_num,HI2.o (by rw[HH.o];simp [Cv,Cz, *]),DB⟩
          case measure=>simp [intOf];omega)
     ·by_cases ha:na=2
      ·subst ha
       clear HD0
       cases nb<;>cases bl
       all_goals
        go_wp2_with fail
        first
        |(go_ret;exact⟨Af (HX2.o (by rw[HH.o];simp [Cv,Cz, *])).symm,DB.out⟩)
        |(go_roundw
          case rel=>exact⟨k+1,by omega,by go_num,HI2.o (by rw[HH.o];simp [Cv,Cz, *]),DB⟩
          case measure=>simp [intOf];omega)
      ·have ha1:((na:Int) !=2)=true:=by rw[bne_iff_ne];omega
       have ha2:((na:Int)==2)=false:=by rw[beq_eq_false_iff_ne];omega
       have ha3:(na==2)=false:=by rw[beq_eq_false_iff_ne];exact ha
       clear HD0
       cases nb<;>cases bl
       all_goals
        go_wp2_with fail
        first
        |(go_ret;exact⟨Af (HX2.o (by rw[HH.o];simp [Cv,Cz, *])).symm,DB.out⟩)
        |(go_roundw
          case rel=>exact⟨k+1,by omega,by go_num,HI2.o (by rw[HH.o];simp [Cv,Cz, *]),DB⟩
          case measure=>simp [intOf];omega)
     ·by_cases ha:na=1
      ·subst ha
       clear HD0
       cases ne
       all_goals
        go_wp2_with fail
        first
        |(go_ret;exact⟨Af (HX2.o (by rw[HH.o];simp [Cv,Cz, *])).symm,DB.out⟩)
        |(go_roundw
          case rel=>exact⟨k+1,by omega,by go_num,HI2.o (by rw[HH.o];simp [Cv,Cz, *]),DB⟩
          case measure=>simp [intOf];omega)
      ·have ha1:((na:Int) !=1)=true:=by rw[bne_iff_ne];omega
       have ha2:((na:Int)==1)=false:=by rw[beq_eq_false_iff_ne];omega
       have ha3:(na==1)=false:=by rw[beq_eq_false_iff_ne];exact ha
       clear HD0
       cases ne
       all_goals
        go_wp2_with fail
        first
        |(go_ret;exact⟨Af (HX2.o (by rw[HH.o];simp [Cv,Cz, *])).symm,DB.out⟩)
        |(go_roundw
          case rel=>exact⟨k+1,by omega,by go_num,HI2.o (by rw[HH.o];simp [Cv,Cz, *]),DB⟩
          case measure=>simp [intOf];omega)
     ·by_cases ha:na=1
      ·subst ha
       clear HD0
       cases ne<;>by_cases hu:nu=0
       all_goals
        first
        |(have hu1:((nu:Int)==0)=true:=by rw[beq_iff_eq];omega)
        |(have hu1:((nu:Int)==0)=false:=by rw[beq_eq_false_iff_ne];omega)
        go_wp2_with fail
        first
        |(go_ret;exact⟨Af (HX2.o (by rw[HH.o];simp [Cv,Cz, *])).symm,DB.out⟩)
        |(go_roundw
          case rel=>exact⟨k+1,by omega,by go_num,HI2.o (by rw[HH.o];simp [Cv,Cz, *]),DB⟩
          case measure=>simp [intOf];omega)
      ·have ha1:((na:Int) !=1)=true:=by rw[bne_iff_ne];omega
       have ha2:((na:Int)==1)=false:=by rw[beq_eq_false_iff_ne];omega
       have ha3:(na==1)=false:=by rw[beq_eq_false_iff_ne];exact ha
       clear HD0
       cases ne<;>by_cases hu:nu=0
       all_goals
        first
        |(have hu1:((nu:Int)==0)=true:=by rw[beq_iff_eq];omega)
        |(have hu1:((nu:Int)==0)=false:=by rw[beq_eq_false_iff_ne];omega)
        go_wp2_with fail
        first
        |(go_ret;exact⟨Af (HX2.o (by rw[HH.o];simp [Cv,Cz, *])).symm,DB.out⟩)
        |(go_roundw
          case rel=>exact⟨k+1,by omega,by go_num,HI2.o (by rw[HH.o];simp [Cv,Cz, *]),DB⟩
          case measure=>simp [intOf];omega)
     ·by_cases ha:na=0
      ·subst ha
       clear HD0
       cases ne<;>cases bl
       all_goals
        go_wp2_with fail
        first
        |(go_ret;exact⟨Af (HX2.o (by rw[HH.o];simp [Cv,Cz, *])).symm,DB.out⟩)
        |(go_roundw
          case rel=>exact⟨k+1,by omega,by go_num,HI2.o (by rw[HH.o];simp [Cv,Cz, *]),DB⟩
          case measure=>simp [intOf];omega)
      ·have ha1:((na:Int) !=0)=true:=by rw[bne_iff_ne];omega
       have ha2:((na:Int)==0)=false:=by rw[beq_eq_false_iff_ne];omega
       have ha3:(na==0)=false:=by rw[beq_eq_false_iff_ne];exact ha
       clear HD0
       cases ne<;>cases bl
       all_goals
        go_wp2_with fail
        first
        |(go_ret;exact⟨Af (HX2.o (by rw[HH.o];simp [Cv,Cz, *])).symm,DB.out⟩)
        |(go_roundw
          case rel=>exact⟨k+1,by omega,by go_num,HI2.o (by rw[HH.o];simp [Cv,Cz, *]),DB⟩
          case measure=>simp [intOf];omega)
     ·by_cases ha:na=0
      ·subst ha
       clear HD0
       cases ne<;>cases bl
       all_goals
        go_wp2_with fail
        first
        |(go_ret;exact⟨Af (HX2.o (by rw[HH.o];simp [Cv,Cz, *])).symm,DB.out⟩)
        |(go_roundw
          case rel=>exact⟨k+1,by omega,by go_num,HI2.o (by rw[HH.o];simp [Cv,Cz, *]),DB⟩
          case measure=>simp [intOf];omega)
      ·have ha1:((na:Int) !=0)=true:=by rw[bne_iff_ne];omega
       have ha2:((na:Int)==0)=false:=by rw[beq_eq_false_iff_ne];omega
       have ha3:(na==0)=false:=by rw[beq_eq_false_iff_ne];exact ha
       clear HD0
       cases ne<;>cases bl
       all_goals
        go_wp2_with fail
        first
        |(go_ret;exact⟨Af (HX2.o (by rw[HH.o];simp [Cv,Cz, *])).symm,DB.out⟩)
        |(go_roundw
          case rel=>exact⟨k+1,by omega,by go_num,HI2.o (by rw[HH.o];simp [Cv,Cz, *]),DB⟩
          case measure=>simp [intOf];omega)
     ·by_cases ha:na=1
      ·subst ha
       clear HD0
       cases ne<;>cases bl
       all_goals
        go_wp2_with fail
        first
        |(go_ret;exact⟨Af (HX2.o (by rw[HH.o];simp [Cv,Cz, *])).symm,DB.out⟩)
        |(go_roundw
          case rel=>exact⟨k+1,by omega,by go_num,HI2.o (by rw[HH.o];simp [Cv,Cz, *]),DB⟩
          case measure=>simp [intOf];omega)
      ·have ha1:((na:Int) !=1)=true:=by rw[bne_iff_ne];omega
       have ha2:((na:Int)==1)=false:=by rw[beq_eq_false_iff_ne];omega
       have ha3:(na==1)=false:=by rw[beq_eq_false_iff_ne];exact ha
       clear HD0
       cases ne<;>cases bl
       all_goals
        go_wp2_with fail
        first
        |(go_ret;exact⟨Af (HX2.o (by rw[HH.o];simp [Cv,Cz, *])).symm,DB.out⟩)
        |(go_roundw
          case rel=>exact⟨k+1,by omega,by go_num,HI2.o (by rw[HH.o];simp [Cv,Cz, *]),DB⟩
          case measure=>simp [intOf];omega)
     ·by_cases ha:na=1
      ·subst ha
       clear HD0
       cases ne<;>cases bl
       all_goals
        go_wp2_with fail
        first
        |(go_ret;exact⟨Af (HX2.o (by rw[HH.o];simp [Cv,Cz, *])).symm,DB.out⟩)
        |(go_roundw
          case rel=>exact⟨k+1,by omega,by go_num,HI2.o (by rw[HH.o];simp [Cv,Cz, *]),DB⟩
          case measure=>simp [intOf];omega)
      ·have ha1:((na:Int) !=1)=true:=by rw[bne_iff_ne];omega
       have ha2:((na:Int)==1)=false:=by rw[beq_eq_false_iff_ne];omega
       have ha3:(na==1)=false:=by rw[beq_eq_false_iff_ne];exact ha
       clear HD0
       cases ne<;>cases bl
       all_goals
        go_wp2_with fail
        first
        |(go_ret;exact⟨Af (HX2.o (by rw[HH.o];simp [Cv,Cz, *])).symm,DB.out⟩)
        |(go_roundw
          case rel=>exact⟨k+1,by omega,by go_num,HI2.o (by rw[HH.o];simp [Cv,Cz, *]),DB⟩
          case measure=>simp [intOf];omega)
     ·by_cases ha:na=1
      ·subst ha
       clear HD0
       cases ne<;>cases bl
       all_goals
        go_wp2_with fail
        first
        |(go_ret;exact⟨Af (HX2.o (by rw[HH.o];simp [Cv,Cz, *])).symm,DB.out⟩)
        |(go_roundw
          case rel=>exact⟨k+1,by omega,by go_num,HI2.o (by rw[HH.o];simp [Cv,Cz, *]),DB⟩
          case measure=>simp [intOf];omega)
      ·have ha1:((na:Int) !=1)=true:=by rw[bne_iff_ne];omega
       have ha2:((na:Int)==1)=false:=by rw[beq_eq_false_iff_ne];omega
       have ha3:(na==1)=false:=by rw[beq_eq_false_iff_ne];exact ha
       clear HD0
       cases ne<;>cases bl
       all_goals
        go_wp2_with fail
        first
        |(go_ret;exact⟨Af (HX2.o (by rw[HH.o];simp [Cv,Cz, *])).symm,DB.out⟩)
        |(go_roundw
          case rel=>exact⟨k+1,by omega,by go_num,HI2.o (by rw[HH.o];simp [Cv,Cz, *]),DB⟩
          case measure=>simp [intOf];omega)
     ·by_cases ha:na=1
      ·subst ha
       obtain⟨xb,xo,rfl,c0⟩:=HD0.o (by decide);clear HD0
       cases ne<;>cases bl<;>cases hd
       all_goals
        go_wp2_with fail
        first
        |(go_ret;exact⟨Af (HX2.o (by rw[HH.o];simp [Cv,Cz, *])).symm,DB.out⟩)
        |(go_roundw
          case rel=>exact⟨k+1,by omega,by go_num,HI2.o (by rw[HH.o];simp [Cv,Cz, *]),DB⟩
          case measure=>simp [intOf];omega)
      ·have ha1:((na:Int) !=1)=true:=by rw[bne_iff_ne];omega
       have ha2:((na:Int)==1)=false:=by rw[beq_eq_false_iff_ne];omega
       have ha3:(na==1)=false:=by rw[beq_eq_false_iff_ne];exact ha
       clear HD0
       cases ne<;>cases bl
       all_goals
        go_wp2_with fail
        first
        |(go_ret;exact⟨Af (HX2.o (by rw[HH.o];simp [Cv,Cz, *])).symm,DB.out⟩)
        |(go_roundw
          case rel=>exact⟨k+1,by omega,by go_num,HI2.o (by rw[HH.o];simp [Cv,Cz, *]),DB⟩
          case measure=>simp [intOf];omega)
     ·have e1:(kd==1)=false:=by rw[beq_eq_false_iff_ne];exact h1
      have e2:(kd==2)=false:=by rw[beq_eq_false_iff_ne];exact h2
      have e3:(kd==3)=false:=by rw[beq_eq_false_iff_ne];exact h3
      have e4:(kd==4)=false:=by rw[beq_eq_false_iff_ne];exact h4
      have e5:(kd==5)=false:=by rw[beq_eq_false_iff_ne];exact h5
      have e6:(kd==6)=false:=by rw[beq_eq_false_iff_ne];exact h6
      have e7:(kd==7)=false:=by rw[beq_eq_false_iff_ne];exact h7
      have e8:(kd==8)=false:=by rw[beq_eq_false_iff_ne];exact h8
      have e9:(kd==9)=false:=by rw[beq_eq_false_iff_ne];exact h9
      have e10:(kd==10)=false:=by rw[beq_eq_false_iff_ne];exact h10
      go_wp2_with fail
      go_ret
      exact⟨Af (HX2.o (by rw[HH.o];simp [Cv, *])).symm,DB.out⟩
  ·have hA:Ee l=true:=by
    rw[Jw,Zi];intro x hx;obtain⟨i,hi,rfl⟩:=List.getElem_of_mem hx;have:=HI.o i (by omega)
    rwa[Wl hi]at this
   have HA:=Za hA;clear hA HI GA;go_wp2_with fail
   go_ret
   exact⟨Af HA.o.symm,GB.out⟩
theorem aS:∀(n:Nat) (l:List St),SizeOf.sizeOf l≤n→jM l
 |0,l,h=>by cases l<;>simp at h
 |n+1,l,h=>sj_step l
  (fun x hx=>aS n x.thn (by
   have h1:=Zg hx
   cases x with
   |mk k nm us t e=>show SizeOf.sizeOf t≤n;simp at h1;omega))
  (fun x hx=>aS n x.els (by
   have h1:=Zg hx
   cases x with
   |mk k nm us t e=>show SizeOf.sizeOf e≤n;simp at h1;omega))
theorem sj_any(l:List St):jM l:=aS _ l (Nat.le_refl _)
end Go.Proofs.YtfhbinbjkpfedaaGreatDoor
