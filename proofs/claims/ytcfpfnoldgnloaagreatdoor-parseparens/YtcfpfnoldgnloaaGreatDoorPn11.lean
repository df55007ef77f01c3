/-
  How long the texts of raw programs are; how many parts they have. No program in sight.
-/
import Derived.Test.YtcfpfnoldgnloaaGreatDoorPn10
import Derived.Test.YtcfpfnoldgnloaaGreatDoorPn09
import Derived.Test.YtcfpfnoldgnloaaGreatDoorPn01
set_option linter.unusedVariables false
set_option linter.unusedSimpArgs false
namespace Go.Proofs.YtcfpfnoldgnloaaGreatDoor
open Go.RowKit
set_option maxHeartbeats 20000000
set_option maxRecDepth 100000
open Go.Lib renaming hid→Za,itoa→Zg,decDigits→Zi,nDigits→Zj,hasPrefix→Zk
open List renaming mem_cons_self→Zb,append_assoc→Zc,mem_cons_of_mem→Ze,length_append→Zh,append_nil→Zl,cons_ne_nil→Zm,cons_append→Zn,mem_cons→Zo,mem_of_find?_eq_some→Zp
open Go.Proofs.Tryz renaming prog→Zd
open Bool renaming and_eq_true→Zf
structure dG (x:Bs)(k n:Int)(rest:Bs):Prop where
 ends:Et Ft (x++rest)
 nocomm:Zk (x++rest) [47,47]=false
 ne:x≠[]
 call:∀w,(x++rest).length≤1000000→Fh w→Calls Zd 41 #[.string (Aa (x++rest))] w fun e w'=>e= .returned (.tuple #[Eb k x n 0,.bool true])∧Below w.heap.size w w'
theorem Gx.ne {x:Bs}{k n:Int}(h:Gx x k n):x≠[]:=by
 cases h with
 |name x hx hk c t hc hl ha=>rw[hc];exact Zm _ _
 |word x hk c t hc hl ha=>rw[hc];exact Zm _ _
 |num u hu hi c t hc hd=>rw[hc];exact Zm _ _
 |quote q y=>exact Zm _ _
 |sign x hs c t hc h7 hn=>rw[hc];exact Zm _ _
theorem Gx.at {x:Bs}{k n:Int}(h:Gx x k n)(b:UInt8)(r:Bs)(hb:Ej b=true):dG x k n (b::r):=
 ⟨h.ends _,h.noComment b hb r,h.ne,fun w hz hl=>aS h b r hb hz w hl⟩
def Ib(z:Bs):List It→Prop
 |[]=>True
 |i::l=>dG i.x i.k i.n (i.gap++(By l++z))∧Js i.b i.l∧Ib z l
theorem Ib.of(z:Bs):∀(l:List It),(∀i,i∈l→ItOk i)→Ib z l
 |[],_=>trivial
 |i::l,h=>by
  have hi:=h i Zb;obtain⟨c,t,e,hc⟩:=hi.blank (By l++z);refine⟨?_,hi.gap,Ib.of z l (fun j hj=>h j (Ze _ hj))⟩;rw[e];exact hi.tok.at c t hc
def Xh(line:Nat):List It→Nat
 |[]=>line
 |i::l=>Xh (line+Bt i.gap) l
structure Xb (ok:Bool)(z:Bs):Prop where
 ends:Et Ft z
 nocomm:Zk z [47,47]=false
 nil:ok=true→z=[]
 bad:ok=false→z≠[]∧∀w,Fh w→Calls Zd 41 #[.string (Aa z)] w fun e w'=>e= .returned (.tuple #[Eb 0 [] 0 0,.bool false])∧Below w.heap.size w w'
theorem Ib.front {ok:Bool}{z:Bs}(hz:Xb ok z){l:List It}(h:Ib z l):Et Ft (By l++z)∧Zk (By l++z) [47,47]=false:=by
 cases l with
 |nil=>exact⟨hz.ends,hz.nocomm⟩
 |cons i l=>
  have e:By (i::l)++z=i.x++(i.gap++(By l++z)):=by rw[Jr];simp
  rw[e];exact⟨h.1.ends,h.1.nocomm⟩
def eD(ok:Bool)(w:World)(L:List Tk)(line:Nat)(e:Ending)(w':World):Prop:=
 Below w.heap.size w w'∧(if ok=true then ∃v,e= .returned (.tuple #[v,.int .i64 0,.int .i64 0])∧En w' w.heap.size (L++[⟨5,[],0,line⟩]) v else e= .returned (.tuple #[.slice none 0 0,.int .i64 20,.int .i64 line]))
theorem eV(l:Bs):Bt l≤l.length:=List.count_le_length
theorem dB(ok:Bool)(z:Bs)(hz:Xb ok z)(b0:Bs)(l0:List (Bs ×Bs))(hg:Js b0 l0)(li0:List It)(hi:Ib z li0)(hlen:(Ah b0 l0++(By li0++z)).length≤20000)(w:World)(hl:Fh w):
  Calls Zd 20 #[.string (Aa (Ah b0 l0++(By li0++z)))] w (eD ok w (Ko (1+Bt (Ah b0 l0)) li0) (Xh (1+Bt (Ah b0 l0)) li0)):=by
 obtain⟨ALL,hall⟩:∃A,Ko (1+Bt (Ah b0 l0)) li0=A:=⟨_,rfl⟩;obtain⟨END,hend⟩:∃A,Xh (1+Bt (Ah b0 l0)) li0=A:=⟨_,rfl⟩;rw[hall,hend];obtain⟨q,hq⟩:∃q,Ah b0 l0++(By li0++z)=q:=⟨_,rfl⟩;rw[hq]at hlen ⊢;have HQ:=Za hq;have HZ:=Za hz;have HG:=Za hg;have HI:=Za hi;have HL:=Za hl;have HALL:=Za hall;have HEND:=Za hend;have hlenI:(q.length:Int)≤20000:=by omega
 obtain⟨i0,hi0,hz0,hz1,hz2⟩:=info_parts infoTk;have HI0:=Za hi0;have HZ0:=Za hz0;have HZ1:=Za hz1;have HZ2:=Za hz2;clear hi0 hz0 hz1 hz2 hq hz hg hi hl hall hend;go_enter Tryz.func20,Tryz.ntmps20
 go_wp2_with fail
 go_loopw [0,2,5] (fun s0 s2 s5 wr=> ∃(b1:Bs) (l1:List (Bs ×Bs)) (n:Nat) (li:List It) (done:List Tk) (q1:Bs),s0= .string (Aa q1)∧s5= .int .i64 n∧q1=Ah b1 l1++(By li++z)∧En wr w.heap.size done s2∧Js b1 l1∧Ib z li∧done++Ko (n+Bt (Ah b1 l1)) li=ALL∧Xh (n+Bt (Ah b1 l1)) li=END∧done.length+q1.length≤20000∧n+q1.length≤20001∧Below w.heap.size w wr) (fun s0 _ _ _=>match s0 with| .string s=>s.size|_=>0)
 case atStart=>exact⟨b0,l0,1,li0,[],q,rfl,rfl,HQ.out.symm,En.zero _ _,HG.out,HI.out,HALL.out,HEND.out,by simpa using hlen,by omega,Below.refl _ _⟩
 case round=>
  obtain⟨b1,l1,n,li,done,q1,rfl,rfl,hq1,hown,hg1,hi1,hall,hend,hdl,hnl,hb⟩:=hrel;obtain⟨oa,oc,rfl⟩:=Xx hown;have HL1:=Za (HL.out.old hb);have HB:=Za hb;obtain⟨f1,f2⟩:=hi1.front HZ.out;have HSK:Hid (∀w1,Fh w1→Calls Zd 40 #[.string (Aa q1)] w1 fun e w'=>e= .returned (.tuple #[.string (Aa (By li++z)),.int .i64 (Bt (Ah b1 l1)),.bool true])∧Below w1.heap.size w1 w'):=by
   intro w1 h1;rw[hq1];exact dC b1 l1 (By li++z) hg1 f1 f2 (by rw[←hq1];omega) w1 h1
  have hfe:Bt (Ah b1 l1)+(By li++z).length≤q1.length:=by
   have:=eV (Ah b1 l1);have e:=congrArg List.length hq1;rw[Zh]at e;omega
  have HOWN:=Za hown;have HOB:Hid (∀k,(Value.slice oa done.length oc).ownBlock=some k→w.heap.size≤k∧k<wr.heap.size):=fun k e=>hown.ge e
  clear f1 f2 hq1 hown hg1 hb;obtain⟨F,hF⟩:∃F,Bt (Ah b1 l1)=F:=⟨_,rfl⟩;rw[hF]at HSK hfe hall hend;clear hF;have nI:(n:Int)+(F:Int)≤1000000:=by omega
  have nJ:(0:Int)≤(n:Int)+(F:Int):=by omega
  have hN:(n:Int)+(F:Int)=((n+F:Nat):Int):=by omega
  have HN:=Za hN;clear hN
  cases li with
  |nil=>
   have er:By []++z=z:=by simp [By]
   rw[er]at HSK hfe;clear er;have hall':done=ALL:=by rw[←hall];simp [Ko]
   have hend':n+F=END:=hend;have HA:=Za hall';have HE:=Za hend';have hbad:=HZ.out.bad;have hnil:=HZ.out.nil;clear hall hend hall' hend' hi1
   cases ok with
   |true=>
    have hz0:=hnil rfl;subst hz0;clear hbad hnil;go_wp2_with fail
    refine(HSK.out _ HL1.out).mono ?_;rintro e w1 ⟨rfl,hb1⟩;have HB1:=Za (HB.out.trans (hb1.mono HB.out.size));have HOWN1:=Za (If HOWN.out hb1);have hsz1:=hb1.size;have hbA:Below w1.heap.size w1 (w1.alloc (.cells #[.int .i64 5,.string ⟨#[]⟩,.int .i64 0,.int .i64 ((n:Int)+(F:Int))] 50)):=bA;have HOWN2:=Za (If HOWN1.out hbA);have HB2:=Za (HB1.out.trans (hbA.mono HB1.out.size));have HNEW:=Za (Ac.new w1 [.int .i64 5,.string ⟨#[]⟩,.int .i64 0,.int .i64 ((n:Int)+(F:Int))] 50);clear hb1 hbA;go_wp2_with (at_builtin;(refine wpList_append_lies (P:=Zd) _ rfl _ _ 46 rfl w.heap.size 50 i0 _ 4 40 Tryz.underlying46 HI0.out HZ0.out HZ1.out HZ2.out rfl (by decide) (.slice oa done.length oc) done.length (done.flatMap Fw) rfl HOWN2.out ⟨w1.heap.size,0,none⟩ 1 1 (Fw ⟨5,[],0,(n:Int)+(F:Int)⟩) rfl rfl HNEW.out.news (Nn _) (by decide) (by unfold maxLen;omega) (by omega) (by have:=HB2.out.size;exact this) _ rfl ?_;intro g cap w11 hown hgrow hat hlt11;have HB11:=Za (Nm HB2.out hgrow (fun k e=>(HOB.out k e).1) HB2.out.size);have HS:=Za (En.snoc ⟨5,[],0,(n:Int)+(F:Int)⟩ hown);clear hown hgrow hat))
    go_ret3
    refine⟨HB11.out,?_⟩;rw[if_pos rfl];refine⟨_,rfl,?_⟩;have hs:=HS.out;rw[HN.out,HE.out]at hs;rw[HA.out]at hs;rw[←HA.out]at hs ⊢;exact hs
   |false=>
    obtain⟨hz0,hbc⟩:=hbad rfl;have hze:z.isEmpty=false:=by simpa using hz0
    have HBC:=Za hbc;clear hbad hnil hz0 hbc;go_wp2_with fail
    refine(HSK.out _ HL1.out).mono ?_;rintro e w1 ⟨rfl,hb1⟩;have HB1:=Za (HB.out.trans (hb1.mono HB.out.size));have HL2:=Za (HL1.out.old hb1);have HO:=Za (Ac.new w1 [.int .i64 0,.string ⟨#[]⟩,.int .i64 0,.int .i64 0] 50);have hbA:Below w1.heap.size w1 (w1.alloc (.cells #[.int .i64 0,.string ⟨#[]⟩,.int .i64 0,.int .i64 0] 50)):=bA;have HL3:=Za (HL2.out.old hbA);have HB2:=Za (HB1.out.trans (hbA.mono HB1.out.size));have hge:w.heap.size≤w1.heap.size:=HB1.out.size;clear hb1 hbA;go_wp2_with fail
    refine(HBC.out _ HL3.out).mono ?_;rintro e w3 ⟨rfl,hb3⟩;unfold Eb;have HO3:=Za (HO.out.old hb3);have HB3:=Za (HB2.out.trans (hb3.mono HB2.out.size));clear hb3;have q0:=HO3.out.at 0 _ rfl;have f0:=HO3.out.fz 0;have q1:=HO3.out.at 1 _ rfl;have f1:=HO3.out.fz 1;have q2:=HO3.out.at 2 _ rfl;have f2:=HO3.out.fz 2;have q3:=HO3.out.at 3 _ rfl;have f3:=HO3.out.fz 3;have ql:=HO3.out.lt;go_wp2_with fail
    go_ret3
    refine⟨Ea (Ea (Ea (Ea HB3.out hge _ _) hge _ _) hge _ _) hge _ _,?_⟩;rw[if_neg (by decide),HN.out,HE.out];rfl
  |cons i l=>
   obtain⟨htk,hgi,hil⟩:=hi1;have hr:By (i::l)++z=i.x++(i.gap++(By l++z)):=by rw[Jr];simp
   rw[hr]at HSK hfe;clear hr;have hall':(done++[⟨i.k,i.x,i.n,((n+F:Nat):Int)⟩])++Ko (n+F+Bt (Ah i.b i.l)) l=ALL:=by rw[←hall];simp [Ko,It.gap]
   have hend':Xh (n+F+Bt (Ah i.b i.l)) l=END:=hend;have HA:=Za hall';have HE:=Za hend';have HGI:=Za hgi;have HIL:=Za hil;have hxne:=htk.ne;have hzl:(i.x++(i.gap++(By l++z))).length≤1000000:=by omega
   have HTK:Hid (∀w1,Fh w1→Calls Zd 41 #[.string (Aa (i.x++(i.gap++(By l++z))))] w1 fun e w'=>e= .returned (.tuple #[Eb i.k i.x i.n 0,.bool true])∧Below w1.heap.size w1 w'):=fun w1 h1=>htk.call w1 hzl h1
   clear hall hend hall' hend' hgi hil htk hzl;have hxp:0<i.x.length:=List.length_pos_iff.2 hxne;obtain⟨q',hq'⟩:∃q',i.gap++(By l++z)=q':=⟨_,rfl⟩;have HQ':=Za hq';rw[hq']at HSK hfe HTK;clear hq' hxne;have HXD:=Za (Ij i.x q');have hrl:(i.x++q').length=i.x.length+q'.length:=Zh;have hre:(i.x++q').isEmpty=false:=by
    cases hx:i.x with
    |nil=>rw[hx]at hxp;simp at hxp
    |cons c t=>rfl
   obtain⟨r,hr⟩:∃r,i.x++q'=r:=⟨_,rfl⟩;rw[hr]at HSK hfe HTK HXD hrl hre;clear hr;obtain⟨xx,hxx⟩:∃xx,i.x=xx:=⟨_,rfl⟩;rw[hxx]at HXD hrl hxp HTK HA;obtain⟨kk,hkk⟩:∃kk,i.k=kk:=⟨_,rfl⟩;obtain⟨nn,hnn⟩:∃nn,i.n=nn:=⟨_,rfl⟩;rw[hkk,hnn]at HTK HA;clear hxx hkk hnn;have hx1:(xx.length:Int)≤(r.length:Int):=by omega
   have hx2:xx.length≤r.length:=by omega
   go_wp2_with fail
   refine(HSK.out _ HL1.out).mono ?_;rintro e w1 ⟨rfl,hb1⟩;have HB1:=Za (HB.out.trans (hb1.mono HB.out.size));have HL2:=Za (HL1.out.old hb1);have HOWN1:=Za (If HOWN.out hb1);have hsz1:=hb1.size;have HO:=Za (Ac.new w1 [.int .i64 0,.string ⟨#[]⟩,.int .i64 0,.int .i64 0] 50);have hbA:Below w1.heap.size w1 (w1.alloc (.cells #[.int .i64 0,.string ⟨#[]⟩,.int .i64 0,.int .i64 0] 50)):=bA;have HL3:=Za (HL2.out.old hbA);have HB2:=Za (HB1.out.trans (hbA.mono HB1.out.size));have HOWN2:=Za (If HOWN1.out hbA);have hge:w.heap.size≤w1.heap.size:=HB1.out.size;clear hb1 hbA;go_wp2_with fail
   refine(HTK.out _ HL3.out).mono ?_;rintro e w3 ⟨rfl,hb3⟩;unfold Eb;have HO3:=Za (HO.out.old hb3);have HB3:=Za (HB2.out.trans (hb3.mono HB2.out.size));have HOWN3:=Za (If HOWN2.out hb3);clear hb3;have q0:=HO3.out.at 0 _ rfl;have f0:=HO3.out.fz 0;have q1:=HO3.out.at 1 _ rfl;have f1:=HO3.out.fz 1;have q2:=HO3.out.at 2 _ rfl;have f2:=HO3.out.fz 2;have q3:=HO3.out.at 3 _ rfl;have f3:=HO3.out.fz 3;have ql:=HO3.out.lt;go_upto_region 14 with(fail)
   have HS:=Za (((((HO3.out.set 0 (.int .i64 kk)).set 1 (.string (Aa xx))).set 2 (.int .i64 nn)).set 3 (.int .i64 0)).set 3 (.int .i64 ((n:Int)+(F:Int))));have HBS:=Za (Ea (Ea (Ea (Ea (Ea HB3.out hge 0 (.int .i64 kk)) hge 1 (.string (Aa xx))) hge 2 (.int .i64 nn)) hge 3 (.int .i64 0)) hge 3 (.int .i64 ((n:Int)+(F:Int))));have hbo:(Value.slice oa done.length oc).ownBlock≠some w1.heap.size:=fun e=>by have:=(HOB.out _ e).2;omega
   have HBO:=Za hbo;have HOS:=Za (Jp (Jp (Jp (Jp (Jp HOWN3.out hbo 0 (.int .i64 kk)) hbo 1 (.string (Aa xx))) hbo 2 (.int .i64 nn)) hbo 3 (.int .i64 0)) hbo 3 (.int .i64 ((n:Int)+(F:Int))));obtain⟨W,hW⟩:∃W,(((((w3.setCell ⟨w1.heap.size,0,none⟩ (.int .i64 kk)).setCell ⟨w1.heap.size,1,none⟩ (.string (Aa xx))).setCell ⟨w1.heap.size,2,none⟩ (.int .i64 nn)).setCell ⟨w1.heap.size,3,none⟩ (.int .i64 0)).setCell ⟨w1.heap.size,3,none⟩ (.int .i64 ((n:Int)+(F:Int))))=W:=⟨_,rfl⟩;rw[hW]at HS HBS HOS ⊢;clear hW q0 f0 q1 f1 q2 f2 q3 f3 ql hbo;have hbA:Below W.heap.size W (W.alloc (.cells #[.int .i64 kk,.string (Aa xx),.int .i64 nn,.int .i64 ((n:Int)+(F:Int))] 50)):=bA;have HS2:=Za (HS.out.old hbA);have HB5:=Za (HBS.out.trans (hbA.mono HBS.out.size));have HOWN5:=Za (If HOS.out hbA);have HNEW:=Za (Ac.new W [.int .i64 kk,.string (Aa xx),.int .i64 nn,.int .i64 ((n:Int)+(F:Int))] 50);have c0:=HS.out.at 0 _ rfl;have c1:=HS.out.at 1 _ rfl;have c2:=HS.out.at 2 _ rfl;have c3:=HS.out.at 3 _ rfl;have cl:=HS.out.lt;clear hbA;go_wp2_with (at_builtin;(refine wpList_append_lies (P:=Zd) _ rfl _ _ 46 rfl w.heap.size 50 i0 _ 4 40 Tryz.underlying46 HI0.out HZ0.out HZ1.out HZ2.out rfl (by decide) (.slice oa done.length oc) done.length (done.flatMap Fw) rfl HOWN5.out ⟨W.heap.size,0,none⟩ 1 1 (Fw ⟨kk,xx,nn,(n:Int)+(F:Int)⟩) rfl rfl HNEW.out.news (Nn _) (by decide) (by unfold maxLen;omega) (by omega) (by have:=HB5.out.size;exact this) _ rfl ?_;intro g cap w11 hown hgrow hat hlt11;have HB11:=Za (Nm HB5.out hgrow (fun k e=>(HOB.out k e).1) HB5.out.size);have HS11:=Za (En.snoc ⟨kk,xx,nn,(n:Int)+(F:Int)⟩ hown);have y1:=(HS2.out.grow hgrow HBO.out).at 1 _ rfl;have yl:=(HS2.out.grow hgrow HBO.out).lt;clear hown hgrow hat))
   have hxd:=HXD.out _ hrl.symm;rw[hxd];go_roundw
   case rel=>
    refine⟨i.b,i.l,n+F,l,done++[⟨kk,xx,nn,((n+F:Nat):Int)⟩],q',rfl,by rw[←HN.out],HQ'.out.symm,?_,HGI.out,HIL.out,HA.out,HE.out,by rw[Zh,List.length_singleton];omega,by omega,HB11.out⟩;have hs:=HS11.out;rw[HN.out]at hs;exact hs
   case measure=>show q'.length<q1.length;omega
theorem bK(a:Bs)(ha:Hu a=true)(hl:a.length=1)(w:World):
  Calls Zd 94 #[.string (Aa a)] w fun e w'=>e= .returned (.tuple #[Eb 4 a 0 0,.bool true])∧Below w.heap.size w w':=by
 have hx1:(Aa a).extract 0 1=Aa a:=by
  have:=Ff a [];rw[hl,Zl]at this;exact this
 have hz1:a.length=1:=hl;have hm:min (2:Int) (a.length:Int)=1:=by omega
 have hzI:(a.length:Int)=1:=by omega
 rcases Em ha with rfl|rfl|rfl|rfl|rfl|rfl|rfl|rfl|rfl|rfl|rfl|rfl|rfl|rfl|rfl|rfl|rfl|rfl|rfl|rfl|rfl|rfl|rfl|rfl|rfl|rfl|rfl
 iterate 6 (simp at hl)
 all_goals
  clear ha hl hz1 hzI hm;have hm:min (2:Int) 1=1:=by decide
  go_enter Tryz.func94,Tryz.ntmps94
  go_wp2_with fail
  refine wp_loop_rounds 1 ?_;rw[rounds_succ];go_wp2_with fail
  exact bodyPost_ret (v:= .tuple #[Eb 4 _ 0 0,.bool true]) (by simp [results,Tryz.results94,go_sem,Eb]) rfl ⟨rfl,bA⟩
def Io(k:Int):Bs→Bool
 |[]=>true
 |c::_=>decide (c.toNat<128) && (if k=4 then !(c==61) && !(c==60) && !(c==62) && !(c==47)else if k=3 then !(Di (c.toNat:Nat))else !(Gy (c.toNat:Nat)))
theorem Gx.noComm {x:Bs}{k n:Int}(h:Gx x k n){r:Bs}(hs:Io k r=true):Zk (x++r) [47,47]=false:=by
 have key:∀(c:UInt8) (t:Bs),c≠47→Zk (c::t) [47,47]=false:=fun c t hc=>by
  have h1:((47:UInt8)==c)=false:=by rw[beq_eq_false_iff_ne];exact fun e=>hc e.symm
  show([47,47]:List UInt8).isPrefixOf (c::t)=false
  rw[List.isPrefixOf,h1];rfl
 cases h with
 |name x hx hk c t hc hl ha=>rw[hc,Zn];exact key _ _ (by rintro rfl;simp [Bw]at hl)
 |word x hk c t hc hl ha=>rw[hc,Zn];exact key _ _ (by rintro rfl;simp [Bw]at hl)
 |num u hu hi c t hc hd=>rw[hc,Zn];exact key _ _ (by rintro rfl;simp [Ca]at hd)
 |quote q y=>exact key 39 (y++[39]++r) (by decide)
 |sign x hs' c t hc h7 hn=>
  have key2:Zk ([47]++r) [47,47]=false:=by
   cases r with
   |nil=>rfl
   |cons b r=>
    have hne:b≠47:=by rintro rfl;simp [Io]at hs
    have h1:((47:UInt8)==b)=false:=by rw[beq_eq_false_iff_ne];exact fun e=>hne e.symm
    show([47,47]:List UInt8).isPrefixOf (47::b::r)=false
    rw[List.isPrefixOf,List.isPrefixOf,h1];rfl
  rcases Em hs' with rfl|rfl|rfl|rfl|rfl|rfl|rfl|rfl|rfl|rfl|rfl|rfl|rfl|rfl|rfl|rfl|rfl|rfl|rfl|rfl|rfl|rfl|rfl|rfl|rfl|rfl|rfl<;>first|exact key2|(rw[Zn];exact key _ _ (by decide))
theorem Ur {x:Bs}{k n:Int}(h:Gx x k n)(hq:k=3→∀r,x≠39::r){r:Bs}(hs:Io k r=true):dG x k n r:=by
 refine⟨h.ends _,h.noComm hs,h.ne,fun w hz hl=> ?_⟩;have hw:k=1∨k=2→Et Gy r:=by
  intro hk
  cases r with
  |nil=>exact .inl rfl
  |cons c r=>
   rcases hk with rfl|rfl<;>simp [Io]at hs<;>exact .inr ⟨c,r,rfl,hs.1,hs.2⟩
 have hd:k=3→Et Di r:=by
  rintro rfl
  cases r with
  |nil=>exact .inl rfl
  |cons c r=>simp [Io]at hs;exact .inr ⟨c,r,rfl,hs.1,hs.2⟩
 cases h with
 |name x hx hk c t hc hll ha=>
  have hT:=fun w1 (_:Below w.heap.size w w1)=>Rh x r ha (hw (.inl rfl)) hk hx w1
  rw[hc]at hT ⊢;exact Je c (t++r) hll (Fo hll) 1 (c::t) 0 w hT
 |word x hk c t hc hll ha=>
  have hT:=fun w1 (_:Below w.heap.size w w1)=>Rr x r ha (hw (.inr rfl)) hk w1
  rw[hc]at hT ⊢;exact Je c (t++r) hll (Fo hll) 2 (c::t) 0 w hT
 |num u hu hi c t hc hdd=>
  have hT:=fun w1 (hb1:Below w.heap.size w w1)=>Na u r hu hi (hd rfl) w1 (hl.old hb1).lt (hl.old hb1).pow
  rw[hc]at hT ⊢;exact Ll c (t++r) hdd (Jx hdd) 3 (c::t) u w hT
 |quote q y hr1 hr2 hr3 hr4 hr5 hx hdq=>exact absurd rfl (hq rfl (y++[39]))
 |sign x hs' c t hc h7 hn=>
  cases r with
  |nil=>
   rw[Zl]at hz ⊢
   by_cases h1:x.length=1
   ·have hT:=fun w1 (_:Below w.heap.size w w1)=>bK x hs' h1 w1
    rw[hc]at hT ⊢;exact Iu c t hn h7 4 (c::t) 0 w hT
   ·have hT:=fun w1 (_:Below w.heap.size w w1)=>Mb x [] hs' (fun e=>absurd e h1) w1
    rw[Zl]at hT;rw[hc]at hT ⊢;exact Iu c t hn h7 4 (c::t) 0 w hT
  |cons b r=>
   have hT:=fun w1 (_:Below w.heap.size w w1)=>Mb x (b::r) hs' (fun _=>⟨b,r,rfl,by simp [Io]at hs;simp [hs],by simp [Io]at hs;simp [hs],by simp [Io]at hs;simp [hs]⟩) w1
   rw[hc]at hT ⊢;exact Iu c (t++b::r) hn h7 4 (c::t) 0 w hT
theorem Ky:Js [] []:=⟨fun c hc=>(by cases hc),fun p hp=>(by cases hp)⟩
theorem bT:Xb true []:=⟨.inl rfl,rfl,fun _=>rfl,fun h=>(by cases h)⟩
theorem Mi(t:Tk)(h:t.kind=5):∀l:List Tk,Gh (l++[t])
 |[]=>h
 |[a]=>h
 |a::b::l=>Mi t h (b::l)
def Cq(line:Nat)(li:List It):List Tk:=Ko line li++[⟨5,[],0,Xh line li⟩]
theorem Pd {P:Int→Prop}:∀(l:List It) (line:Nat),(∀i,i∈l→P i.n)→∀t,t∈Ko line l→P t.num
 |[],line,h,t,ht=>by cases ht
 |i::l,line,h,t,ht=>by
  rw[Ko]at ht;rcases Zo.1 ht with rfl|ht
  ·exact h i Zb
  ·exact Pd l _ (fun j hj=>h j (Ze _ hj)) t ht
theorem Up(b0:Bs)(l0:List (Bs ×Bs))(hg:Js b0 l0)(li:List It)(hi:Ib [] li)(hlen:(Ah b0 l0++By li).length≤20000)(w:World)(hl:Fh w):
  Calls Zd 20 #[.string (Aa (Ah b0 l0++By li))] w fun e w'=>Below w.heap.size w w'∧∃v,e= .returned (.tuple #[v,.int .i64 0,.int .i64 0])∧En w' w.heap.size (Cq (1+Bt (Ah b0 l0)) li) v:=by
 have h:=dB true [] bT b0 l0 hg li hi (by simpa using hlen) w hl;rw[Zl]at h;refine Calls.mono h ?_;intro e w' hp;obtain⟨h1,h2⟩:=hp;rw[if_pos rfl]at h2;exact⟨h1,h2⟩
theorem Rw(b0:Bs)(l0:List (Bs ×Bs))(hg:Js b0 l0)(li:List It)(hi:Ib [] li)(hn:∀i,i∈li→I64 i.n)(hlen:(Ah b0 l0++By li).length≤20000)(hc:li.length≤900000)(f:Nat)(hf:4*(li.length+1)+4≤f)(w:World)(hl:Fh w):
  Calls Zd 14 #[.string (Aa (Ah b0 l0++By li))] w (WhP w (Lh (Qu (Fj f ⟨[],[]⟩ (Cq (1+Bt (Ah b0 l0)) li))))):=by
 have hT:(Cq (1+Bt (Ah b0 l0)) li).length=li.length+1:=by simp [Cq,Vj]
 refine topP_of _ w _ (Za fun w1 hb1=> ?_);refine Zz _ (Cq (1+Bt (Ah b0 l0)) li) (Mi _ rfl _) ?_ (by omega) f (by omega) w1 (Za fun w2 hb2=>Up b0 l0 hg li hi hlen w2 ((hl.old hb1).old hb2));intro t ht;rcases List.mem_append.1 ht with h|h
 ·exact Pd (P:=I64) li _ hn t h
 ·rw[List.mem_singleton]at h;subst h;exact Dw
theorem Tw(b0:Bs)(l0:List (Bs ×Bs))(hg:Js b0 l0)(li:List It)(hi:Ib [] li)(hn:∀i,i∈li→I64 i.n)(hlen:(Ah b0 l0++By li).length≤20000)(hc:li.length≤900000)(f:Nat)(hf:4*(li.length+1)+4≤f)(w:World)(hl:Fh w):
  Calls Zd 13 #[.string (Aa (Ah b0 l0++By li))] w (WhE w (Kw (Nu (Aq f 1 (Cq (1+Bt (Ah b0 l0)) li))))):=by
 have hT:(Cq (1+Bt (Ah b0 l0)) li).length=li.length+1:=by simp [Cq,Vj]
 refine topE_of _ w _ (Za fun w1 hb1=> ?_);refine bH _ (Cq (1+Bt (Ah b0 l0)) li) (Mi _ rfl _) ?_ (by omega) f (by omega) w1 (Za fun w2 hb2=>Up b0 l0 hg li hi hlen w2 ((hl.old hb1).old hb2));intro t ht;rcases List.mem_append.1 ht with h|h
 ·exact Pd (P:=I64) li _ hn t h
 ·rw[List.mem_singleton]at h;subst h;exact Dw
def Mv(x:Bs):Bool:=(match x with|c::_=>Bw c|[]=>false) && x.all (fun c=>decide (c.toNat<128) && Gy (c.toNat:Nat))
theorem Rc {x:Bs}(h:Mv x=true):∃c t,x=c::t∧Bw c=true∧∀c,c∈x→c.toNat<128∧Gy (c.toNat:Nat)=true:=by
 cases x with
 |nil=>cases h
 |cons c t=>
  unfold Mv at h;obtain⟨h1,h2⟩:=(Zf _ _).mp h;refine⟨c,t,rfl,h1,fun d hd=> ?_⟩;have:=List.all_eq_true.1 h2 d hd;simpa using this
theorem pc_name {x:Bs}(hx:Ap x=true)(hk:Gp x=false)(h:Mv x=true):Gx x 1 0:=by
 obtain⟨c,t,hc,hl,ha⟩:=Rc h;exact .name x hx hk c t hc hl ha
theorem Yx {x:Bs}(hk:Gp x=true)(h:Mv x=true):Gx x 2 0:=by
 obtain⟨c,t,hc,hl,ha⟩:=Rc h;exact .word x hk c t hc hl ha
theorem Yy {x:Bs}(h:Hu x=true):Gx x 4 0:=by
 rcases Em h with rfl|rfl|rfl|rfl|rfl|rfl|rfl|rfl|rfl|rfl|rfl|rfl|rfl|rfl|rfl|rfl|rfl|rfl|rfl|rfl|rfl|rfl|rfl|rfl|rfl|rfl|rfl<;>exact .sign _ h _ _ rfl (by decide) (by decide)
def pcB(i:It):Bool:=if i.k=1 then Ap i.x && !Gp i.x && Mv i.x && decide (i.n=0)else if i.k=2 then Gp i.x && Mv i.x && decide (i.n=0)else if i.k=3 then decide (0≤i.n∧i.n≤9223372036854775807) && decide (i.x=Zi i.n.toNat) && decide (i.x.length≤18) && (match i.x with|c::_=>Ca c|[]=>false)else decide (i.k=4) && Hu i.x && decide (i.n=0)
theorem pcB_of {i:It}(h:pcB i=true):Gx i.x i.k i.n∧(i.k=3→∀r,i.x≠39::r)∧I64 i.n:=by
 obtain⟨x,k,n,b,l⟩:=i;simp only[pcB]at h
 by_cases h1:k=1
 ·rw[if_pos h1]at h
  simp at h;obtain⟨⟨⟨g1,g2⟩,g3⟩,rfl⟩:=h;subst h1;exact⟨pc_name g1 g2 g3,fun e=>absurd (show _=_ from e) (by simp),Dw⟩
 rw[if_neg h1]at h
 by_cases h2:k=2
 ·rw[if_pos h2]at h
  simp at h;obtain⟨⟨g1,g3⟩,rfl⟩:=h;subst h2;exact⟨Yx g1 g3,fun e=>absurd (show _=_ from e) (by simp),Dw⟩
 rw[if_neg h2]at h
 by_cases h3:k=3
 ·rw[if_pos h3]at h
  subst h3;simp only[Zf,decide_eq_true_eq]at h;obtain⟨⟨⟨⟨g1,g2⟩,g3⟩,g4⟩,g5⟩:=h
  cases x with
  |nil=>cases g5
  |cons c t=>
   have hu:(n.toNat:Int)=n:=by omega
   refine⟨?_,fun _ r e=> ?_,(show I64 n from⟨by omega,by omega⟩)⟩
   ·have:=Gx.num n.toNat (by rw[←g3];exact Nat.le_trans g4 (by decide)) (by omega) c t g3.symm g5
    rw[←g3,hu]at this;exact this
   ·cases e;simp [Ca]at g5
 rw[if_neg h3]at h;simp at h;obtain⟨⟨rfl,g1⟩,rfl⟩:=h;exact⟨Yy g1,fun e=>absurd (show _=_ from e) (by simp),Dw⟩
def aJ(z:Bs):List It→Bool
 |[]=>true
 |i::l=>pcB i && i.b.all Ej && i.l.isEmpty && Io i.k (i.gap++(By l++z)) && aJ z l
theorem Oc(z:Bs):∀(l:List It),aJ z l=true→Ib z l∧∀i,i∈l→I64 i.n
 |[],_=>⟨trivial,fun i hi=>by cases hi⟩
 |i::l,h=>by
  rw[aJ]at h;simp only[Zf]at h;obtain⟨⟨⟨⟨h1,h2⟩,h3⟩,h4⟩,h5⟩:=h;obtain⟨q1,q2⟩:=Oc z l h5;obtain⟨p1,p2,p3⟩:=pcB_of h1;refine⟨⟨Ur p1 p2 h4,⟨fun c hc=>List.all_eq_true.1 h2 c hc,fun p hp=> ?_⟩,q1⟩,fun j hj=> ?_⟩
  ·rw[List.isEmpty_iff.1 h3]at hp;cases hp
  ·rcases Zo.1 hj with rfl|hj
   ·exact p3
   ·exact q2 j hj
def Bm:List Bs→Bs
 |[]=>[]
 |x::l=>x++l.flatMap (fun y=>[44,32]++y)
theorem Lt(l:List Bs)(y:Bs):Bm (l++[y])=if l=[]then y else Bm l++[44,32]++y:=by
 cases l with
 |nil=>simp [Bm]
 |cons x l=>simp [Bm]
def Dm(e:Ex)(level:Int)(txt:Bs):Bs:=if e.kind=4∧Aj e.op<level then [40]++txt++[41]else txt
def Dd(k o n:Int)(nm:Bs)(args:List Ex)(ts:List Bs):Bs:=
 if k=1 then Zg n
 else if k=2 then nm
 else if k=3 then Al o++Dm (Ci args 0) 9 (ts.getD 0 [])
 else if k=4 then Dm (Ci args 0) (Aj o) (ts.getD 0 [])++([32]++Al o++[32])++Dm (Ci args 1) (Aj o+1) (ts.getD 1 [])
 else if k=5 then nm++[40]++Bm ts++[41]
 else if k=6 then nm++[91]++ts.getD 0 []++[93]
 else if k=7 then [114,101,97,100,40,41]else []
mutual
def Af:Ex→Bs
 | .mk k o n nm args=>Dd k o n nm args (Oa args)
def Oa:List Ex→List Bs
 |[]=>[]
 |x::l=>Af x::Oa l
end
theorem Qf:∀l,Oa l=l.map Af
 |[]=>rfl
 |x::l=>by simp [Oa,Qf l]
theorem Ey(e:Ex):Af e=Dd e.kind e.op e.n e.name e.args (e.args.map Af):=by
 cases e;rw[Af,Qf];rfl
def Cv(e:Ex)(level:Int):Bs:=Dm e level (Af e)
theorem Lv {l:List Ex}{i:Nat}(h:i<l.length):(l.map Af).getD i []=Af (Ci l i):=by
 simp [Ci,List.getElem?_eq_getElem h]
theorem Lm(o n:Int)(nm:Bs)(args:List Ex):Af (.mk 1 o n nm args)=Zg n:=by
 rw[Ey];show Dd 1 o n nm args (args.map Af)=_;unfold Dd;rw[if_pos rfl]
theorem Qa(o n:Int)(nm:Bs)(args:List Ex):Af (.mk 2 o n nm args)=nm:=by
 rw[Ey];show Dd 2 o n nm args (args.map Af)=_;unfold Dd;rw[if_neg (by decide),if_pos rfl]
theorem Pk(o n:Int)(nm:Bs)(args:List Ex)(h:0<args.length):Af (.mk 3 o n nm args)=Al o++Cv (Ci args 0) 9:=by
 rw[Ey];show Dd 3 o n nm args (args.map Af)=_;unfold Dd;rw[if_neg (by decide),if_neg (by decide),if_pos rfl,Lv h];unfold Cv;rfl
theorem Qe(o n:Int)(nm:Bs)(args:List Ex)(h:1<args.length):Af (.mk 4 o n nm args)=Cv (Ci args 0) (Aj o)++([32]++(Al o++[32]))++Cv (Ci args 1) (Aj o+1):=by
 rw[Ey];show Dd 4 o n nm args (args.map Af)=_;unfold Dd;rw[if_neg (by decide),if_neg (by decide),if_neg (by decide),if_pos rfl,Lv (by omega),Lv h,Zc [32]];unfold Cv;rfl
theorem Pm(o n:Int)(nm:Bs)(args:List Ex):Af (.mk 5 o n nm args)=nm++[40]++Bm (args.map Af)++[41]:=by
 rw[Ey];show Dd 5 o n nm args (args.map Af)=_;unfold Dd;rw[if_neg (by decide),if_neg (by decide),if_neg (by decide),if_neg (by decide),if_pos rfl]
theorem Op(o n:Int)(nm:Bs)(args:List Ex)(h:0<args.length):Af (.mk 6 o n nm args)=nm++[91]++Af (Ci args 0)++[93]:=by
 rw[Ey];show Dd 6 o n nm args (args.map Af)=_;unfold Dd;rw[if_neg (by decide),if_neg (by decide),if_neg (by decide),if_neg (by decide),if_neg (by decide),if_pos rfl,Lv h]
theorem Pg(o n:Int)(nm:Bs)(args:List Ex):Af (.mk 7 o n nm args)=[114,101,97,100,40,41]:=by
 rw[Ey];show Dd 7 o n nm args (args.map Af)=_;unfold Dd;rw[if_neg (by decide),if_neg (by decide),if_neg (by decide),if_neg (by decide),if_neg (by decide),if_neg (by decide),if_pos rfl]
structure T3 where
 kind:Int
 text:Bs
 num:Int
def t3(t:Tk):T3:=⟨t.kind,t.text,t.num⟩
inductive Pc where
 |t (x:T3)
 |g (b:Bs)
def Pc.text:Pc→Bs|t x=>x.text|g b=>b
def Bp(l:List Pc):Bs:=l.flatMap Pc.text
def Kh:List Pc→List T3
 |[]=>[]
 | .t x::l=>x::Kh l
 | .g _::l=>Kh l
theorem Bq(a b:List Pc):Bp (a++b)=Bp a++Bp b:=List.flatMap_append
theorem Jk:∀a b:List Pc,Kh (a++b)=Kh a++Kh b
 |[],b=>rfl
 | .t x::a,b=>by simp [Kh,Jk a b]
 | .g x::a,b=>by simp [Kh,Jk a b]
abbrev sg(s:Bs):Pc:= .t ⟨4,s,0⟩
abbrev wd(s:Bs):Pc:= .t ⟨2,s,0⟩
abbrev nmp(s:Bs):Pc:= .t ⟨1,s,0⟩
abbrev nu(n:Int):Pc:= .t ⟨3,Zg n,n⟩
def Nj:List (List Pc)→List Pc
 |[]=>[]
 |x::l=>x++l.flatMap (fun y=>[sg [44],.g [32]]++y)
def Eu(e:Ex)(level:Int)(l:List Pc):List Pc:=if e.kind=4∧Aj e.op<level then [sg [40]]++l++[sg [41]]else l
def Ds(k o n:Int)(nm:Bs)(args:List Ex)(ts:List (List Pc)):List Pc:=
 if k=1 then [nu n]
 else if k=2 then [nmp nm]
 else if k=3 then [sg (Al o)]++Eu (Ci args 0) 9 (ts.getD 0 [])
 else if k=4 then Eu (Ci args 0) (Aj o) (ts.getD 0 [])++([.g [32],sg (Al o),.g [32]])++Eu (Ci args 1) (Aj o+1) (ts.getD 1 [])
 else if k=5 then [nmp nm,sg [40]]++Nj ts++[sg [41]]
 else if k=6 then [nmp nm,sg [91]]++ts.getD 0 []++[sg [93]]
 else if k=7 then [wd [114,101,97,100],sg [40],sg [41]]else []
mutual
def Ch:Ex→List Pc
 | .mk k o n nm args=>Ds k o n nm args (Yj args)
def Yj:List Ex→List (List Pc)
 |[]=>[]
 |x::l=>Ch x::Yj l
end
theorem Ui:∀l,Yj l=l.map Ch
 |[]=>rfl
 |x::l=>by simp [Yj,Ui l]
theorem Hm(k o n:Int)(nm:Bs)(args:List Ex):Ch (.mk k o n nm args)=Ds k o n nm args (args.map Ch):=by
 rw[Ch,Ui]
theorem Mw(o n:Int)(nm:Bs)(args:List Ex):Ch (.mk 1 o n nm args)=[nu n]:=by
 rw[Hm];unfold Ds;rw[if_pos rfl]
theorem Mg(o n:Int)(nm:Bs)(args:List Ex):Ch (.mk 2 o n nm args)=[nmp nm]:=by
 rw[Hm];unfold Ds;rw[if_neg (by decide),if_pos rfl]
def Cg(e:Ex)(level:Int):List Pc:=Eu e level (Ch e)
theorem Mn(o n:Int)(nm:Bs)(x:Ex):Ch (.mk 3 o n nm [x])=sg (Al o)::Cg x 9:=by
 rw[Hm];unfold Ds;rw[if_neg (by decide),if_neg (by decide),if_pos rfl];rfl
theorem Mx(o n:Int)(nm:Bs)(x y:Ex):Ch (.mk 4 o n nm [x,y])=Cg x (Aj o)++([.g [32],sg (Al o),.g [32]]++Cg y (Aj o+1)):=by
 rw[Hm];unfold Ds;rw[if_neg (by decide),if_neg (by decide),if_neg (by decide),if_pos rfl,Zc];rfl
theorem Mh(o n:Int)(nm:Bs)(args:List Ex):Ch (.mk 5 o n nm args)=nmp nm::sg [40]::(Nj (args.map Ch)++[sg [41]]):=by
 rw[Hm];unfold Ds;rw[if_neg (by decide),if_neg (by decide),if_neg (by decide),if_neg (by decide),if_pos rfl];simp
theorem Mj(o n:Int)(nm:Bs)(x:Ex):Ch (.mk 6 o n nm [x])=nmp nm::sg [91]::(Ch x++[sg [93]]):=by
 rw[Hm];unfold Ds;rw[if_neg (by decide),if_neg (by decide),if_neg (by decide),if_neg (by decide),if_neg (by decide),if_pos rfl];rfl
theorem Ms(o n:Int)(nm:Bs)(args:List Ex):Ch (.mk 7 o n nm args)=[wd [114,101,97,100],sg [40],sg [41]]:=by
 rw[Hm];unfold Ds;rw[if_neg (by decide),if_neg (by decide),if_neg (by decide),if_neg (by decide),if_neg (by decide),if_neg (by decide),if_pos rfl]
theorem eQ:∀l:List (List Pc),Bp (Nj l)=Bm (l.map Bp)
 |[]=>rfl
 |x::l=>by
  unfold Nj Bm;rw[List.map_cons];dsimp only;rw[Bq];congr 1
  unfold Bp;rw[List.flatMap_assoc,List.flatMap_map];rfl
theorem Ly(e:Ex)(lv:Int)(l:List Pc):Bp (Eu e lv l)=Dm e lv (Bp l):=by
 unfold Eu Dm;split
 ·rw[Bq,Bq];rfl
 ·rfl
theorem Rx(e:Ex):Bp (Ch e)=Af e:=by
 obtain⟨k,o,n,nm,args⟩:=e;rw[Hm,Ey];have ih:(args.map Ch).map Bp=args.map Af:=by
  rw[List.map_map];exact List.map_congr_left (fun x hx=>Rx x)
 have hg:∀i,Bp ((args.map Ch).getD i [])=(args.map Af).getD i []:=by
  intro i;rw[←ih];simp only[List.getD_eq_getElem?_getD,List.getElem?_map]
  cases args[i]? <;>rfl
 show Bp (Ds k o n nm args (args.map Ch))=Dd k o n nm args (args.map Af)
 unfold Ds Dd;split
 ·simp [Bp,Pc.text]
 split
 ·simp [Bp,Pc.text]
 split
 ·rw[Bq,Ly,hg];simp [Bp,Pc.text]
 split
 ·rw[Bq,Bq,Ly,Ly,hg,hg];simp [Bp,Pc.text]
 split
 ·rw[Bq,Bq,eQ,ih];simp [Bp,Pc.text]
 split
 ·rw[Bq,Bq,hg];simp [Bp,Pc.text]
 split
 ·rfl
 ·rfl
termination_by SizeOf.sizeOf e
decreasing_by
 have:=List.sizeOf_lt_of_mem hx;simp only[Ex.mk.sizeOf_spec];omega
def Ev {α:Type}(g:Nat→PR α)(z:PR α):Prop:= ∃f0,∀f,f0≤f→g f=z
theorem Ev.two {α β:Type}{g:Nat→PR α}{h:Nat→PR β}{y:PR α}{z:PR β}(hg:Ev g y)(hh:Ev h z):∃f0,∀f,f0≤f→g f=y∧h f=z:=by
 obtain⟨a,ha⟩:=hg;obtain⟨b,hb⟩:=hh;exact⟨max a b,fun f hf=>⟨ha f (by omega),hb f (by omega)⟩⟩
theorem Ev.succ {α:Type}{g:Nat→PR α}{z:PR α}(h:∃f0,∀f,f0≤f→g (f+1)=z):Ev g z:=by
 obtain⟨a,ha⟩:=h;refine⟨a+1,fun f hf=> ?_⟩;obtain⟨k,rfl⟩:∃k,f=k+1:=⟨f - 1,by omega⟩;exact ha k (by omega)
theorem Ev.const {α:Type}{g:Nat→PR α}{z:PR α}(h:∀f,g (f+1)=z):Ev g z:=Ev.succ ⟨0,fun f _=>h f⟩
theorem Ev.one {α β:Type}{g:Nat→PR α}{h:Nat→PR β}{y:PR α}{z:PR β}(hg:Ev g y)(k:∀f,g f=y→h (f+1)=z):Ev h z:=by
 obtain⟨a,ha⟩:=hg;exact Ev.succ ⟨a,fun f hf=>k f (ha f hf)⟩
theorem Ev.both {α β γ:Type}{g:Nat→PR α}{h:Nat→PR β}{q:Nat→PR γ}{x:PR α}{y:PR β}{z:PR γ}(hg:Ev g x)(hh:Ev h y)(k:∀f,g f=x→h f=y→q (f+1)=z):Ev q z:=by
 obtain⟨a,ha⟩:=Ev.two hg hh;exact Ev.succ ⟨a,fun f hf=>k f (ha f hf).1 (ha f hf).2⟩
def For(ts:List Tk)(l:List Pc):Prop:=ts.map t3=Kh l
theorem For.app {ts:List Tk}{a b:List Pc}(h:For ts (a++b)):∃t1 t2,ts=t1++t2∧For t1 a∧For t2 b:=by
 unfold For at h;rw[Jk]at h;obtain⟨t1,t2,e,h1,h2⟩:=List.map_eq_append_iff.1 h;exact⟨t1,t2,e,h1,h2⟩
theorem For.cons {ts:List Tk}{x:T3}{l:List Pc}(h:For ts (.t x::l)):∃t r,ts=t::r∧t3 t=x∧For r l:=by
 unfold For at h;obtain⟨t,r,e,h1,h2⟩:=List.map_eq_cons_iff.1 (show ts.map t3=x::Kh l from h);exact⟨t,r,e,h1,h2⟩
theorem For.gap {ts:List Tk}{b:Bs}{l:List Pc}(h:For ts (.g b::l)):For ts l:=h
theorem For.nil {ts:List Tk}(h:For ts []):ts=[]:=List.map_eq_nil_iff.1 h
theorem Hg {t:Tk}{s:Bs}(h:t3 t=⟨4,s,0⟩):isP s t=true:=by
 unfold t3 at h;injection h with h1 h2 h3
 unfold isP;simp [h1,h2]
theorem is_wd {t:Tk}{s:Bs}(h:t3 t=⟨2,s,0⟩):isP s t=true:=by
 unfold t3 at h;injection h with h1 h2 h3
 unfold isP;simp [h1,h2]
theorem Lx {t:Tk}{s:Bs}(h:t.kind=1∨t.kind=3∨t.kind=5):isP s t=false:=by
 unfold isP;rcases h with h|h|h<;>simp [h]
theorem Dj {t:Tk}{s:Bs}(h:t.text≠s):isP s t=false:=by
 unfold isP;simp [h]
theorem Pi {lv:Int}{t:Tk}{r:List Tk}:Cb lv (t::r)=0↔∀i:Nat,i<16→isP (Al ((i:Int)+1)) t=true→Aj ((i:Int)+1)<lv:=by
 unfold Cb;dsimp only;constructor
 ·intro h i hi hp
  rcases hf:(((List.range 16).map fun i:Nat=>(i:Int)+1).find? fun op=>isP (Al op) t && decide (lv≤Aj op))with _|op
  ·rw[List.find?_eq_none]at hf
   have:=hf ((i:Int)+1) (List.mem_map.2 ⟨i,List.mem_range.2 hi,rfl⟩);rw[hp]at this;simp at this;exact this
  ·rw[hf]at h
   have hm:=Zp hf;obtain⟨j,_,e⟩:=List.mem_map.1 hm;simp at h;omega
 ·intro h
  rcases hf:(((List.range 16).map fun i:Nat=>(i:Int)+1).find? fun op=>isP (Al op) t && decide (lv≤Aj op))with _|op
  ·rfl
  ·have hs:=List.find?_some hf
   have hm:=Zp hf;obtain⟨j,hj,e⟩:=List.mem_map.1 hm;subst e;simp at hs;have:=h j (List.mem_range.1 hj) hs.1;omega
theorem Ox {a b:Int}{l:List Tk}(h:Cb a l=0)(hab:a≤b):Cb b l=0:=by
 cases l with
 |nil=>rfl
 |cons t r=>
  rw[Pi]at h ⊢;intro i hi hp;have:=h i hi hp;omega
theorem dQ(op:Int):Aj op≤8:=by
 unfold Aj
 repeat' split
 all_goals omega
theorem Kz {op:Int}(h:0<Aj op):∃i:Fin 16,op=(i.val:Int)+1:=by
 have:op=1∨op=2∨op=3∨op=4∨op=5∨op=6∨op=7∨op=8∨op=9∨op=10∨op=11∨op=12∨op=13∨op=14∨op=15∨op=16:=by
  unfold Aj at h
  revert h
  repeat' split
  all_goals(intro h;first|omega|(exfalso;exact absurd h (by decide)))
 rcases this with h|h|h|h|h|h|h|h|h|h|h|h|h|h|h|h
 ·exact⟨0,h⟩
 ·exact⟨1,h⟩
 ·exact⟨2,h⟩
 ·exact⟨3,h⟩
 ·exact⟨4,h⟩
 ·exact⟨5,h⟩
 ·exact⟨6,h⟩
 ·exact⟨7,h⟩
 ·exact⟨8,h⟩
 ·exact⟨9,h⟩
 ·exact⟨10,h⟩
 ·exact⟨11,h⟩
 ·exact⟨12,h⟩
 ·exact⟨13,h⟩
 ·exact⟨14,h⟩
 ·exact⟨15,h⟩
theorem Uc:∀i j:Fin 16,Al ((i.val:Int)+1)=Al ((j.val:Int)+1)→i=j:=by decide
theorem Co {s:Bs}{t:Tk}(h:isP s t=true):t.text=s:=by
 unfold isP at h;simp at h;exact h.2
theorem cI {lv op:Int}{t:Tk}{r:List Tk}(ho:0<Aj op)(hl:lv≤Aj op)(ht:isP (Al op) t=true):Cb lv (t::r)=op:=by
 obtain⟨i,rfl⟩:=Kz ho;unfold Cb;dsimp only;rcases hf:(((List.range 16).map fun i:Nat=>(i:Int)+1).find? fun op=>isP (Al op) t && decide (lv≤Aj op))with _|op
 ·rw[List.find?_eq_none]at hf
  have:=hf ((i.val:Int)+1) (List.mem_map.2 ⟨i.val,List.mem_range.2 i.isLt,rfl⟩);rw[ht]at this;simp at this;omega
 ·have hs:=List.find?_some hf
  have hm:=Zp hf;obtain⟨j,hj,e⟩:=List.mem_map.1 hm;subst e;simp at hs;have e1:=Co ht;have e2:=Co hs.1;have:=Uc i ⟨j,List.mem_range.1 hj⟩ (e1.symm.trans e2);subst this;rfl
theorem bD {lv:Int}{t:Tk}{r:List Tk}(h:∀i:Fin 16,t.text≠Al ((i.val:Int)+1)):Cb lv (t::r)=0:=by
 rw[Pi];intro i hi hp;exact absurd (Co hp) (h ⟨i,hi⟩)
theorem bin_lvl {op lv:Int}{t:Tk}{r:List Tk}(ho:0<Aj op)(ht:isP (Al op) t=true)(hl:Aj op<lv):Cb lv (t::r)=0:=by
 obtain⟨i,rfl⟩:=Kz ho;rw[Pi];intro j hj hp;have:=Uc i ⟨j,hj⟩ ((Co ht).symm.trans (Co hp));subst this;exact hl
theorem Oy {lv:Int}{l r:List Tk}{x:Ex}{z:PR Ex}(h1:Ev (fun f=>Bb f l) (.ok (x,r)))(h2:Ev (fun f=>Gg f lv x r) z):Ev (fun f=>Aq f lv l) z:=
 Ev.both h1 h2 (fun f e1 e2=>by(try dsimp only at e1 e2 ⊢);rw[Aq,e1];exact e2)
theorem Mo {lv:Int}{l:List Tk}{x:Ex}(h:Cb lv l=0):Ev (fun f=>Gg f lv x l) (.ok (x,l)):=
 Ev.const (fun f=>by(try dsimp only);rw[Gg,if_pos h])
theorem aL {lv op:Int}{t:Tk}{l r:List Tk}{x y:Ex}{z:PR Ex}(ho:0<Aj op)(hl:lv≤Aj op)(ht:isP (Al op) t=true)(h1:Ev (fun f=>Aq f (Aj op+1) l) (.ok (y,r)))(h2:Ev (fun f=>Gg f lv (.mk 4 op 0 [] [x,y]) r) z):Ev (fun f=>Gg f lv x (t::l)) z:=
 Ev.both h1 h2 (fun f e1 e2=>by
  (try dsimp only at e1 e2 ⊢);have hb:Cb lv (t::l)=op:=cI ho hl ht;have h0:op≠0:=by rintro rfl;exact absurd ho (by decide)
  rw[Gg,hb,if_neg h0,List.drop_one,List.tail_cons,e1];exact e2)
theorem Sr {t:Tk}{r:List Tk}(h:isP (Al 17) t=false∧isP (Al 18) t=false∧isP (Al 19) t=false):Dc (t::r)=none:=by
 unfold Dc;rw[Ad h.1,Ad h.2.1,Ad h.2.2]
theorem un_some {op:Int}{t:Tk}{r:List Tk}(ho:op=17∨op=18∨op=19)(h:isP (Al op) t=true):Dc (t::r)=some (op,r):=by
 have ht:=Co h;unfold Dc;rcases ho with rfl|rfl|rfl
 ·rw[Ao h]
 ·rw[Ad (Dj (by rw[ht];decide)),Ao h]
 ·rw[Ad (Dj (by rw[ht];decide)),Ad (Dj (by rw[ht];decide)),Ao h]
theorem bO {op:Int}{t:Tk}{l r:List Tk}{x:Ex}(ho:op=17∨op=18∨op=19)(h:isP (Al op) t=true)(h1:Ev (fun f=>Bb f l) (.ok (x,r))):Ev (fun f=>Bb f (t::l)) (.ok (.mk 3 op 0 [] [x],r)):=
 Ev.one h1 (fun f e=>by(try dsimp only at e ⊢);rw[Bb,un_some ho h];dsimp only;rw[e])
theorem Tb {t:Tk}{r:List Tk}(h:t.text≠Al 17∧t.text≠Al 18∧t.text≠Al 19):Dc (t::r)=none:=Sr ⟨Dj h.1,Dj h.2.1,Dj h.2.2⟩
theorem Nk {t u:Tk}{l r:List Tk}{x:Ex}(h:isP [40] t=true)(hu:isP [41] u=true)(h1:Ev (fun f=>Aq f 1 l) (.ok (x,u::r))):Ev (fun f=>Bb f (t::l)) (.ok (x,r)):=
 Ev.one h1 (fun f e=>by
  (try dsimp only at e ⊢);have ht:=Co h;rw[Bb,Tb ⟨by rw[ht];decide,by rw[ht];decide,by rw[ht];decide⟩];dsimp only;rw[Ao h];dsimp only;rw[e];dsimp only;rw[Gs hu])
theorem Xl {t u v:Tk}{r:List Tk}(h:isP [114,101,97,100] t=true)(hu:isP [40] u=true)(hv:isP [41] v=true):Ev (fun f=>Bb f (t::u::v::r)) (.ok (.mk 7 0 0 [] [],r)):=
 Ev.const (fun f=>by
  (try dsimp only);have ht:=Co h;rw[Bb,Tb ⟨by rw[ht];decide,by rw[ht];decide,by rw[ht];decide⟩];dsimp only;rw[Ad (Dj (by rw[ht];decide)),Ao h];dsimp only;rw[Gs hu];dsimp only;rw[Gs hv])
theorem bV {t:Tk}{r:List Tk}(h:t.kind=3):Ev (fun f=>Bb f (t::r)) (.ok (.mk 1 0 t.num [] [],r)):=
 Ev.const (fun f=>by
  (try dsimp only);have hk:∀s,isP s t=false:=fun s=>Lx (.inr (.inl h))
  rw[Bb,Sr ⟨hk _,hk _,hk _⟩];dsimp only;rw[Ad (hk _),Ad (hk _)];dsimp only;rw[if_pos h])
theorem Ku {t:Tk}{l:List Tk}{z:PR Ex}(h:t.kind=1)(h1:Ev (fun f=>Cf f t.text l) z):Ev (fun f=>Bb f (t::l)) z:=
 Ev.one h1 (fun f e=>by
  (try dsimp only at e ⊢);have hk:∀s,isP s t=false:=fun s=>Lx (.inl h)
  rw[Bb,Sr ⟨hk _,hk _,hk _⟩];dsimp only;rw[Ad (hk _),Ad (hk _)];dsimp only;rw[if_neg (by rw[h];decide),if_pos h];exact e)
theorem aC {s:Bs}{l:List Tk}(h1:Bk [40] l=none)(h2:Bk [91] l=none):Ev (fun f=>Cf f s l) (.ok (.mk 2 0 0 s [],l)):=
 Ev.const (fun f=>by(try dsimp only);rw[Cf,h1,h2])
theorem Xn {s:Bs}{t:Tk}{l r:List Tk}{a:List Ex}(h:isP [40] t=true)(h1:Ev (fun f=>Ei f l) (.ok (a,r))):Ev (fun f=>Cf f s (t::l)) (.ok (.mk 5 0 0 s a,r)):=
 Ev.one h1 (fun f e=>by(try dsimp only at e ⊢);rw[Cf,Ao h];dsimp only;rw[e])
theorem aW {s:Bs}{t u:Tk}{l r:List Tk}{x:Ex}(h:isP [91] t=true)(hu:isP [93] u=true)(h1:Ev (fun f=>Aq f 1 l) (.ok (x,u::r))):Ev (fun f=>Cf f s (t::l)) (.ok (.mk 6 0 0 s [x],r)):=
 Ev.one h1 (fun f e=>by
  (try dsimp only at e ⊢);have ht:=Co h;rw[Cf,Ad (Dj (by rw[ht];decide)),Ao h];dsimp only;rw[e];dsimp only;rw[Gs hu])
theorem cV {t:Tk}{r:List Tk}(h:isP [41] t=true):Ev (fun f=>Ei f (t::r)) (.ok ([],r)):=
 Ev.const (fun f=>by(try dsimp only);rw[Ei,Ao h])
theorem bN {l:List Tk}{z:PR (List Ex)}(h:Bk [41] l=none)(h1:Ev (fun f=>Gb f [] l) z):Ev (fun f=>Ei f l) z:=
 Ev.one h1 (fun f e=>by(try dsimp only at e ⊢);rw[Ei,h];exact e)
theorem cS {a:List Ex}{x:Ex}{t:Tk}{l r:List Tk}(ht:isP [41] t=true)(h1:Ev (fun f=>Aq f 1 l) (.ok (x,t::r))):Ev (fun f=>Gb f a l) (.ok (a++[x],r)):=
 Ev.one h1 (fun f e=>by
  (try dsimp only at e ⊢);have h:=Co ht;rw[Gb,e];dsimp only;rw[Ad (Dj (by rw[h];decide))];dsimp only;rw[Gs ht])
theorem Ye {a:List Ex}{x:Ex}{t:Tk}{l r:List Tk}{z:PR (List Ex)}(ht:isP [44] t=true)(h1:Ev (fun f=>Aq f 1 l) (.ok (x,t::r)))(h2:Ev (fun f=>Gb f (a++[x]) r) z):Ev (fun f=>Gb f a l) z:=
 Ev.both h1 h2 (fun f e1 e2=>by(try dsimp only at e1 e2 ⊢);rw[Gb,e1];dsimp only;rw[Ao ht];exact e2)
inductive WEx:Ex→Prop
 |num (n:Int) (h:0≤n):WEx (.mk 1 0 n [] [])
 |var (s:Bs) (h:Ap s=true):WEx (.mk 2 0 0 s [])
 |one (o:Int) (x:Ex) (ho:o=17∨o=18∨o=19) (hx:WEx x):WEx (.mk 3 o 0 [] [x])
 |two (o:Int) (x y:Ex) (ho:0<Aj o) (hx:WEx x) (hy:WEx y):WEx (.mk 4 o 0 [] [x,y])
 |call (s:Bs) (l:List Ex) (h:Ap s=true) (hl:l.length≤6) (hx:∀x,x∈l→WEx x):WEx (.mk 5 0 0 s l)
 |idx (s:Bs) (x:Ex) (h:Ap s=true) (hx:WEx x):WEx (.mk 6 0 0 s [x])
 |read:WEx (.mk 7 0 0 [] [])
theorem eI:∀(e:Ex),Bv e=true→WEx e
 | .mk k o n nm args,h=>by
  rw[Hc]at h;simp only[Zf,List.all_eq_true]at h;obtain⟨hw,ha⟩:=h;have ih:∀x,x∈args→WEx x:=fun x hx=>eI x (ha x hx)
  clear ha;unfold Bx at hw;simp only[Zf,beq_iff_eq]at hw;obtain⟨⟨⟨⟨h1,h2⟩,h3⟩,h4⟩,h5⟩:=hw;unfold Ee at h1;unfold Ce at h2;unfold Fs at h3;unfold Hn at h4;unfold Dk at h5;simp only[Ex.kind,Ex.op,Ex.n,Ex.name,Ex.args]at h1 h2 h3 h4 h5
  by_cases k1:k=1
  ·subst k1
   simp at h1 h2 h3 h4 h5;subst h2 h3 h5;exact .num n (of_decide_eq_true h1)
  by_cases k2:k=2
  ·subst k2
   simp at h1 h2 h3 h4 h5;subst h2 h3 h4;exact .var nm h1
  by_cases k3:k=3
  ·subst k3
   simp at h1 h2 h3 h4 h5;obtain⟨x,rfl⟩:=List.length_eq_one_iff.1 (by omega:args.length=1);subst h4 h5;exact .one o x (of_decide_eq_true h1) (ih x (by simp))
  by_cases k4:k=4
  ·subst k4
   simp at h1 h2 h3 h4 h5;obtain⟨x,y,rfl⟩:∃x y,args=[x,y]:=by
    match args,h2 with
    |[x,y],_=>exact⟨x,y,rfl⟩
   subst h4 h5;exact .two o x y (of_decide_eq_true h1) (ih x (by simp)) (ih y (by simp))
  by_cases k5:k=5
  ·subst k5
   simp at h1 h2 h3 h4 h5;subst h3 h4;exact .call nm args h1.1 (by have:=of_decide_eq_true h1.2;omega) ih
  by_cases k6:k=6
  ·subst k6
   simp at h1 h2 h3 h4 h5;obtain⟨x,rfl⟩:=List.length_eq_one_iff.1 (by omega:args.length=1);subst h3 h4;exact .idx nm x h1 (ih x (by simp))
  ·simp [k1,k2,k3,k4,k5,k6]at h1 h2 h3 h4 h5
   have h1:=of_decide_eq_true h1;subst h1 h2 h3 h4 h5;exact .read
termination_by e=>SizeOf.sizeOf e
decreasing_by
 exact Ex.size_lt (e:= .mk k o n nm args) hx
def Tp(e:Ex):Int:=if e.kind=4 then Aj e.op else 9
def Iw(l:List Tk):Prop:=Bk [40] l=none∧Bk [91] l=none
theorem Nl {t:Tk}{r:List Tk}(h:t.text≠[40]∧t.text≠[91]):Iw (t::r):=⟨Ad (Dj h.1),Ad (Dj h.2)⟩
def Ja(e:Ex):Prop:= ∀ts rest,For ts (Cg e 9)→Iw rest→Ev (fun f=>Bb f (ts++rest)) (.ok (e,rest))
def Ml(e:Ex):Prop:= ∀lv ts rest z,lv≤Tp e→For ts (Ch e)→Iw rest→Cb (Tp e+1) rest=0→Ev (fun f=>Gg f lv e rest) z→Ev (fun f=>Aq f lv (ts++rest)) z
theorem Hd {e:Ex}(hk:e.kind≠4)(h:Ja e):Ml e:=by
 intro lv ts rest z hl hf hn hb hz;refine Oy (h ts rest ?_ hn) hz;have:Cg e 9=Ch e:=by unfold Cg Eu;rw[if_neg (by rintro⟨h1,_⟩;exact hk h1)]
 rw[this];exact hf
theorem Qj {e:Ex}(ht:Ja e)(hc:Ml e){L lv:Int}(hL:L≤9)(hl:lv≤L){ts rest:List Tk}{z:PR Ex}(hf:For ts (Cg e L))(hn:Iw rest)(hb:Cb (L+1) rest=0)(hz:Ev (fun f=>Gg f lv e rest) z):Ev (fun f=>Aq f lv (ts++rest)) z:=by
 by_cases hw:e.kind=4∧Aj e.op<L
 ·have h9:Cg e 9=Cg e L:=by
   unfold Cg Eu;rw[if_pos hw,if_pos ⟨hw.1,by omega⟩]
  exact Oy (ht ts rest (by rw[h9];exact hf) hn) hz
 ·have h0:Cg e L=Ch e:=by unfold Cg Eu;rw[if_neg hw]
  have hle:L≤Tp e:=by
   unfold Tp;split
   ·rename_i h4
    have:¬Aj e.op<L:=fun h=>hw ⟨h4,h⟩
    omega
   ·exact hL
  rw[h0]at hf;exact hc lv ts rest z (by omega) hf hn (Ox hb (by omega)) hz
theorem Ie {e:Ex}(hc:Ml e){ts rest:List Tk}(hf:For ts (Ch e))(hn:Iw rest)(hb:Cb 1 rest=0)(h1:1≤Tp e):Ev (fun f=>Aq f 1 (ts++rest)) (.ok (e,rest)):=
 hc 1 ts rest _ h1 hf hn (Ox hb (by omega)) (Mo hb)
theorem On {e:Ex}(h:WEx e):1≤Tp e:=by
 cases h with
 |two o x y ho hx hy=>show 1≤Aj o;omega
 |_=>show(1:Int)≤9;decide
theorem Gu {lv:Int}{t:Tk}{r:List Tk}(h:t.text=[41]∨t.text=[93]∨t.text=[44]∨t.text=[59]∨t.text=[]):Cb lv (t::r)=0:=by
 refine bD (fun i=> ?_);rcases h with h|h|h|h|h<;>(rw[h];revert i;decide)
theorem Fi {t:Tk}{r:List Tk}(h:t.text=[41]∨t.text=[93]∨t.text=[44]∨t.text=[59]∨t.text=[]):Iw (t::r):=by
 refine Nl ?_;rcases h with h|h|h|h|h<;>(rw[h];decide)
theorem Vm {op:Int}{t:Tk}{r:List Tk}(ho:0<Aj op)(h:isP (Al op) t=true):Iw (t::r):=by
 refine Nl ?_;rw[Co h];obtain⟨i,rfl⟩:=Kz ho;clear ho h
 revert i;decide
theorem Li(x:Ex)(l:List Ex):Nj ((x::l).map Ch)=Ch x++l.flatMap (fun y=>[sg [44],.g [32]]++Ch y):=by
 show Ch x++(l.map Ch).flatMap (fun y=>[sg [44],.g [32]]++y)=_
 rw[List.flatMap_map]
theorem Oz:∀(l:List Ex) (a:List Ex) (x:Ex) (ts rest:List Tk) (t:Tk),(∀y,y∈x::l→Ml y∧WEx y)→For ts (Ch x++l.flatMap (fun y=>[sg [44],.g [32]]++Ch y))→isP [41] t=true→
  Ev (fun f=>Gb f a (ts++t::rest)) (.ok (a++x::l,rest))
 |[],a,x,ts,rest,t,hl,hf,ht=>by
  have hx:=hl x Zb;rw[List.flatMap_nil,Zl]at hf;have tt:=Co ht;exact cS ht (Ie hx.1 hf (Fi (.inl tt)) (Gu (.inl tt)) (On hx.2))
 |y::l,a,x,ts,rest,t,hl,hf,ht=>by
  have hx:=hl x Zb;obtain⟨t1,t2,rfl,h1,h2⟩:=hf.app;rw[List.flatMap_cons]at h2;obtain⟨c,t2,rfl,hc,h2⟩:=For.cons (by simpa using h2);have hc:=Hg hc;have ih:=Oz l (a++[x]) y t2 rest t (fun z hz=>hl z (Ze _ hz)) (by have:=For.gap h2;simpa using this) ht;have tc:=Co hc;rw[Zc];rw[Zc]at ih;exact Ye hc (Ie hx.1 h1 (Fi (.inr (.inr (.inl tc)))) (Gu (.inr (.inr (.inl tc)))) (On hx.2)) ih
theorem Ut {e:Ex}(h:WEx e):∀(lv:Int),∃x l,Kh (Cg e lv)=x::l∧x.text≠[41]∧x.kind≠5:=by
 have wrap:∀(e:Ex) (lv:Int),(∃x l,Kh (Ch e)=x::l∧x.text≠[41]∧x.kind≠5)→∃x l,Kh (Cg e lv)=x::l∧x.text≠[41]∧x.kind≠5:=by
  intro e lv h;unfold Cg Eu;split
  ·exact⟨_,_,rfl,by decide,(by show _≠(5:Int);first|exact(by decide:(3:Int)≠5)|exact(by decide:(1:Int)≠5)|exact(by decide:(4:Int)≠5)|exact(by decide:(2:Int)≠5))⟩
  ·exact h
 have name:∀(s:Bs),Ap s=true→s≠[41]:=by
  rintro s h rfl;exact absurd h (by decide)
 induction h with
 |num n h=>
  intro lv;refine wrap _ _ ?_;rw[Mw];refine⟨_,_,rfl,?_,(by show _≠(5:Int);first|exact(by decide:(3:Int)≠5)|exact(by decide:(1:Int)≠5)|exact(by decide:(4:Int)≠5)|exact(by decide:(2:Int)≠5))⟩;show Zg n≠[41]
  intro e;unfold Zg at e;rw[if_neg (by omega)]at e;have:=Hf n.toNat 41 (by rw[e];exact Zb);exact absurd this (by decide)
 |var s h=>intro lv;refine wrap _ _ ?_;rw[Mg];exact⟨_,_,rfl,name s h,(by show _≠(5:Int);first|exact(by decide:(3:Int)≠5)|exact(by decide:(1:Int)≠5)|exact(by decide:(4:Int)≠5)|exact(by decide:(2:Int)≠5))⟩
 |one o x ho hx ih=>
  intro lv;refine wrap _ _ ?_;rw[Mn];refine⟨_,_,rfl,?_,(by show _≠(5:Int);first|exact(by decide:(3:Int)≠5)|exact(by decide:(1:Int)≠5)|exact(by decide:(4:Int)≠5)|exact(by decide:(2:Int)≠5))⟩;rcases ho with rfl|rfl|rfl<;>decide
 |two o x y ho hx hy ihx ihy=>
  intro lv;refine wrap _ _ ?_;rw[Mx,Jk];obtain⟨u,l,e,h⟩:=ihx (Aj o);rw[e];exact⟨_,_,rfl,h⟩
 |call s l h hl hx ih=>intro lv;refine wrap _ _ ?_;rw[Mh];exact⟨_,_,rfl,name s h,(by show _≠(5:Int);first|exact(by decide:(3:Int)≠5)|exact(by decide:(1:Int)≠5)|exact(by decide:(4:Int)≠5)|exact(by decide:(2:Int)≠5))⟩
 |idx s x h hx ih=>intro lv;refine wrap _ _ ?_;rw[Mj];exact⟨_,_,rfl,name s h,(by show _≠(5:Int);first|exact(by decide:(3:Int)≠5)|exact(by decide:(1:Int)≠5)|exact(by decide:(4:Int)≠5)|exact(by decide:(2:Int)≠5))⟩
 |read=>intro lv;refine wrap _ _ ?_;rw[Ms];exact⟨_,_,rfl,by decide,(by show _≠(5:Int);first|exact(by decide:(3:Int)≠5)|exact(by decide:(1:Int)≠5)|exact(by decide:(4:Int)≠5)|exact(by decide:(2:Int)≠5))⟩
theorem Gk {e:Ex}(h:e.kind≠4)(lv:Int):Cg e lv=Ch e:=by
 unfold Cg Eu;rw[if_neg (by rintro⟨h1,_⟩;exact h h1)]
theorem Ld {t:Tk}{x:T3}(h:t3 t=x):t.kind=x.kind∧t.text=x.text∧t.num=x.num:=by subst h;exact⟨rfl,rfl,rfl⟩
theorem eR {e:Ex}(h:WEx e):Ja e∧Ml e:=by
 induction h with
 |num n h=>
  have ht:Ja (.mk 1 0 n [] []):=by
   intro ts rest hf hn;rw[Gk (by simp [Ex.kind]),Mw]at hf;obtain⟨t,r,rfl,h3,hr⟩:=hf.cons;obtain⟨k1,k2,k3⟩:=Ld h3;rw[hr.nil];have:=bV (t:=t) (r:=rest) k1;rw[k3]at this;exact this
  exact⟨ht,Hd (by simp [Ex.kind]) ht⟩
 |var s h=>
  have ht:Ja (.mk 2 0 0 s []):=by
   intro ts rest hf hn;rw[Gk (by simp [Ex.kind]),Mg]at hf;obtain⟨t,r,rfl,h3,hr⟩:=hf.cons;obtain⟨k1,k2,k3⟩:=Ld h3;rw[hr.nil];have:=Ku (t:=t) (l:=rest) k1 (aC hn.1 hn.2);rw[k2]at this;exact this
  exact⟨ht,Hd (by simp [Ex.kind]) ht⟩
 |one o x ho hx ih=>
  have ht:Ja (.mk 3 o 0 [] [x]):=by
   intro ts rest hf hn;rw[Gk (by simp [Ex.kind]),Mn]at hf;obtain⟨t,r,rfl,h3,hr⟩:=hf.cons;exact bO ho (Hg h3) (ih.1 r rest hr hn)
  exact⟨ht,Hd (by simp [Ex.kind]) ht⟩
 |two o x y ho hx hy ihx ihy=>
  have hle:=dQ o;have hc:Ml (.mk 4 o 0 [] [x,y]):=by
   intro lv ts rest z hl hf hn hb hz;have hlv:Tp (.mk 4 o 0 [] [x,y])=Aj o:=rfl;rw[hlv]at hl hb;rw[Mx]at hf;obtain⟨t1,t2,rfl,h1,h2⟩:=hf.app;obtain⟨t,r,rfl,h3,hr⟩:=For.cons (For.gap (show For t2 (.g [32]::sg (Al o):: .g [32]::Cg y (Aj o+1))from h2));have hs:=Hg h3;rw[Zc];refine Qj ihx.1 ihx.2 (L:=Aj o) (by omega) hl h1 (Vm ho hs) (bin_lvl ho hs (by omega)) ?_;refine aL ho hl hs ?_ hz;exact Qj ihy.1 ihy.2 (L:=Aj o+1) (by omega) (Int.le_refl _) hr.gap hn (Ox hb (by omega)) (Mo hb)
  refine⟨?_,hc⟩;intro ts rest hf hn;have:Cg (.mk 4 o 0 [] [x,y]) 9=sg [40]::(Ch (.mk 4 o 0 [] [x,y])++[sg [41]]):=by
   unfold Cg Eu;rw[if_pos ⟨rfl,by show Aj o<9;omega⟩];rfl
  rw[this]at hf;obtain⟨t,r,rfl,h3,hr⟩:=hf.cons;obtain⟨t1,t2,rfl,h1,h2⟩:=hr.app;obtain⟨u,q,rfl,h4,hq⟩:=h2.cons;rw[hq.nil];have hu:=Hg h4;have tu:=Co hu;have hr1:(t::(t1++[u]))++rest=t::(t1++u::rest):=by simp
  rw[hr1];refine Nk (Hg h3) hu ?_;exact Ie hc h1 (Fi (.inl tu)) (Gu (.inl tu)) (by show 1≤Aj o;omega)
 |call s l h hl hx ih=>
  have ht:Ja (.mk 5 0 0 s l):=by
   intro ts rest hf hn;rw[Gk (by simp [Ex.kind]),Mh]at hf;obtain⟨t,r,rfl,h3,hr⟩:=hf.cons;obtain⟨k1,k2,k3⟩:=Ld h3;obtain⟨o,r,rfl,h4,hr⟩:=hr.cons;obtain⟨t1,t2,rfl,h1,h2⟩:=hr.app;obtain⟨u,q,rfl,h5,hq⟩:=h2.cons;rw[hq.nil];have hu:=Hg h5;have hr1:(t::o::(t1++[u]))++rest=t::o::(t1++u::rest):=by simp
   rw[hr1];have key:Ev (fun f=>Ei f (t1++u::rest)) (.ok (l,rest)):=by
    cases l with
    |nil=>
     have:t1=[]:=h1.nil;subst this;exact cV hu
    |cons x l=>
     have hm:=Oz l [] x t1 rest u (fun y hy=>⟨(ih y hy).2,hx y hy⟩) (by
      have e:Nj ((x::l).map Ch)=Ch x++l.flatMap (fun y=>[sg [44],.g [32]]++Ch y):=by
       exact Li x l
      rw[←e];exact h1) hu
     refine bN ?_ hm;obtain⟨w,l',e',n1,n2⟩:=Ut (hx x Zb) 0;have e0:Cg x 0=Ch x:=by
      unfold Cg Eu;rw[if_neg];rintro⟨q1,q2⟩;have:=On (hx x Zb);unfold Tp at this;rw[if_pos q1]at this;omega
     rw[e0]at e';have e1:t1.map t3=w::(l'++Kh (l.flatMap (fun y=>[sg [44],.g [32]]++Ch y))):=by
      have q:For t1 (Nj ((x::l).map Ch)):=h1;have e:Nj ((x::l).map Ch)=Ch x++l.flatMap (fun y=>[sg [44],.g [32]]++Ch y):=by
       exact Li x l
      rw[e]at q;unfold For at q;rw[q,Jk,e'];rfl
     obtain⟨a,b,rfl,e2,_⟩:=List.map_eq_cons_iff.1 e1;rw[Zn];refine Ad (Dj ?_);rw[show a.text=w.text from by rw[←e2];rfl];exact n1
   have:=Ku (t:=t) (l:=o::(t1++u::rest)) k1 (Xn (Hg h4) key);rw[k2]at this;exact this
  exact⟨ht,Hd (by simp [Ex.kind]) ht⟩
 |idx s x h hx ih=>
  have ht:Ja (.mk 6 0 0 s [x]):=by
   intro ts rest hf hn;rw[Gk (by simp [Ex.kind]),Mj]at hf;obtain⟨t,r,rfl,h3,hr⟩:=hf.cons;obtain⟨k1,k2,k3⟩:=Ld h3;obtain⟨o,r,rfl,h4,hr⟩:=hr.cons;obtain⟨t1,t2,rfl,h1,h2⟩:=hr.app;obtain⟨u,q,rfl,h5,hq⟩:=h2.cons;rw[hq.nil];have hu:=Hg h5;have tu:=Co hu;have hr1:(t::o::(t1++[u]))++rest=t::o::(t1++u::rest):=by simp
   rw[hr1];have:=Ku (t:=t) (l:=o::(t1++u::rest)) k1 (aW (Hg h4) hu (Ie ih.2 h1 (Fi (.inr (.inl tu))) (Gu (.inr (.inl tu))) (On hx)));rw[k2]at this;exact this
  exact⟨ht,Hd (by simp [Ex.kind]) ht⟩
 |read=>
  have ht:Ja (.mk 7 0 0 [] []):=by
   intro ts rest hf hn;rw[Gk (by simp [Ex.kind]),Ms]at hf;obtain⟨t,r,rfl,h3,hr⟩:=hf.cons;obtain⟨u,r,rfl,h4,hr⟩:=hr.cons;obtain⟨v,r,rfl,h5,hr⟩:=hr.cons;rw[hr.nil];exact Xl (is_wd h3) (Hg h4) (Hg h5)
  exact⟨ht,Hd (by simp [Ex.kind]) ht⟩
def Gw(e:Ex):Nat→List Pc
 |0=>Ch e
 |k+1=>sg [40]::(Gw e k++[sg [41]])
theorem eT {s:Bs}{t:Tk}{r:List Tk}(h:isP s t=false):Ak s (t::r)= .error t.line:=by
 unfold Ak;rw[Ad h];rfl
theorem aV {lv n:Int}{l:List Tk}(h1:Ev (fun f=>Bb f l) (.error n)):Ev (fun f=>Aq f lv l) (.error n):=
 Ev.one h1 (fun f e1=>by(try dsimp only at e1 ⊢);rw[Aq,e1])
theorem Kf {e:Ex}(h:WEx e):∀(k:Nat) (ts rest:List Tk),For ts (Gw e k)→Iw rest→Cb 1 rest=0→Ev (fun f=>Aq f 1 (ts++rest)) (.ok (e,rest))
 |0,ts,rest,hf,hn,hb=>Ie (eR h).2 hf hn hb (On h)
 |k+1,ts,rest,hf,hn,hb=>by
  obtain⟨t,r,rfl,h3,hr⟩:=hf.cons;obtain⟨t1,t2,rfl,h1,h2⟩:=hr.app;obtain⟨u,r2,rfl,h4,h5⟩:=h2.cons;have hu:=Hg h4;have tu:=Co hu;have ih:=Kf h k t1 (u::r2++rest) h1 (Fi (.inl tu)) (Gu (.inl tu));rw[h5.nil]at ih ⊢;have:=Oy (lv:=1) (Nk (Hg h3) hu ih) (Mo hb);simpa using this
theorem cH {e:Ex}(h:WEx e)(k:Nat)(t u:Tk)(ts rest:List Tk)(ht:isP [40] t=true)(hf:For ts (Gw e k))(hu:u.kind=5)(hux:u.text=[]):∃n,Ev (fun f=>Aq f 1 (t::(ts++u::rest))) (.error n):=by
 have ih:=Kf h k ts (u::rest) hf (Fi (.inr (.inr (.inr (.inr hux))))) (Gu (.inr (.inr (.inr (.inr hux)))));refine⟨u.line,aV (Ev.one ih (fun f e1=> ?_))⟩;(try dsimp only at e1 ⊢);have h4:=Co ht;have hn:isP [41] u=false:=Lx (.inr (.inr hu));rw[Bb,Tb ⟨by rw[h4];decide,by rw[h4];decide,by rw[h4];decide⟩];dsimp only;rw[Ao ht];dsimp only;rw[e1];dsimp only;rw[eT hn]
def Gv(S:Int→Bs→Bool):List Pc→Bs→Prop
 |[],_=>True
 | .g _::l,z=>Gv S l z
 | .t x::l,z=>S x.kind (Bp l++z)=true∧Gv S l z
theorem Gv.app {S:Int→Bs→Bool}:∀ {a b:List Pc} {z:Bs},Gv S a (Bp b++z)→Gv S b z→Gv S (a++b) z
 |[],b,z,_,h=>h
 | .g x::a,b,z,h1,h2=>Gv.app (a:=a) h1 h2
 | .t x::a,b,z,h1,h2=>⟨by rw[List.append_eq,Bq,Zc];exact h1.1,Gv.app (a:=a) h1.2 h2⟩
def Yv(c:UInt8):Bool:=c==32||c==41||c==93||c==44||c==59||c==10
def Um(c:UInt8):Bool:=Bw c||Ca c||c==40||c==45||c==33||c==126
def Tq(z:Bs):Prop:=z=[]∨∃c r,z=c::r∧Yv c=true
def Ju(z:Bs):Prop:= ∃c r,z=c::r∧Um c=true
structure Te (S:Int→Bs→Bool):Prop where
 nil:∀k,S k []=true
 soft:∀k c r,Yv c=true→S k (c::r)=true
 head:∀c r,Um c=true→S 4 (c::r)=true
 opens:∀k r,k≠3→S k (40::r)=true∧S k (91::r)=true
theorem Te.ofSoft {S:Int→Bs→Bool}(h:Te S){z:Bs}(hz:Tq z)(k:Int):S k z=true:=by
 rcases hz with rfl|⟨c,r,rfl,hc⟩
 ·exact h.nil k
 ·exact h.soft k c r hc
theorem Te.ofHead {S:Int→Bs→Bool}(h:Te S){z:Bs}(hz:Ju z):S 4 z=true:=by
 obtain⟨c,r,rfl,hc⟩:=hz;exact h.head c r hc
theorem Ju.app {a b:Bs}(h:Ju a):Ju (a++b):=by
 obtain⟨c,r,rfl,hc⟩:=h;exact⟨c,r++b,rfl,hc⟩
theorem Iv {c:UInt8}{r:Bs}(h:Yv c=true):Tq (c::r):= .inr ⟨c,r,rfl,h⟩
theorem Mc {s:Bs}(h:Ap s=true):Ju s:=by
 cases s with
 |nil=>exact absurd h (by decide)
 |cons c r=>
  refine⟨c,r,rfl,?_⟩;have:Bw c=true:=by
   simp only[Ap,Ec,Zf,Bool.or_eq_true,Bool.not_true,Bool.false_and,Bool.or_false]at h
   first|exact h.1.1|exact h.1.1.1|exact h.2.1|(simp at h;exact h.1)|(simp at h;exact h.1.1)|(simp at h;exact h.2.1)
  unfold Um;rw[this];rfl
def bS:Prop:= ∀u,(∀c,c∈Zi u→Ca c=true)∧Zi u≠[]
theorem cN {n:Int}(h:0≤n)(hd:bS):Ju (Zg n):=by
 unfold Zg;rw[if_neg (by omega)];rcases hq:Zi n.toNat with _|⟨c,r⟩
 ·exact absurd hq (hd n.toNat).2
 ·refine⟨c,r,rfl,?_⟩
  have:=(hd n.toNat).1 c (by rw[hq];exact Zb);unfold Um;rw[this];simp
theorem Ns(x:Pc)(l:List Pc):Bp (x::l)=x.text++Bp l:=rfl
theorem Rb {e:Ex}{lv:Int}(h:Ju (Bp (Ch e))):Ju (Bp (Cg e lv)):=by
 unfold Cg Eu;split
 ·exact⟨40,_,rfl,by decide⟩
 ·exact h
theorem Jc(hd:bS){e:Ex}(h:WEx e):Ju (Bp (Ch e)):=by
 induction h with
 |num n h=>rw[Mw];exact(cN h hd).app
 |var s h=>rw[Mg];exact(Mc h).app
 |one o x ho hx ih=>rw[Mn];rcases ho with rfl|rfl|rfl<;>exact⟨_,_,rfl,by decide⟩
 |two o x y ho hx hy ihx ihy=>rw[Mx,Bq];exact(Rb ihx).app
 |call s l h hl hx ih=>rw[Mh,Ns];exact(Mc h).app
 |idx s x h hx ih=>rw[Mj,Ns];exact(Mc h).app
 |read=>rw[Ms];exact⟨_,_,rfl,by decide⟩
theorem Oj {S:Int→Bs→Bool}(hS:Te S){e:Ex}(hh:Ju (Bp (Ch e)))(h:∀z,Tq z→Gv S (Ch e) z)(lv:Int)(z:Bs)(hz:Tq z):Gv S (Cg e lv) z:=by
 unfold Cg Eu;split
 ·rw[Zc]
  refine⟨?_,?_⟩
  ·show S 4 (Bp (Ch e++[sg [41]])++z)=true
   rw[Bq,Zc];exact hS.ofHead hh.app
  ·show Gv S (Ch e++[sg [41]]) z
   exact Gv.app (h _ (Iv (by decide))) ⟨hS.ofSoft hz 4,trivial⟩
 ·exact h z hz
theorem Vt {S:Int→Bs→Bool}(hS:Te S)(z:Bs):∀(l:List Ex),(∀y,y∈l→∀z,Tq z→Gv S (Ch y) z)→Gv S (l.flatMap (fun y=>[sg [44],.g [32]]++Ch y)) (41::z)∧Tq (Bp (l.flatMap (fun y=>[sg [44],.g [32]]++Ch y))++41::z)
 |[],h=>⟨trivial,Iv (by decide)⟩
 |y::l,h=>by
  obtain⟨h1,h2⟩:=Vt hS z l (fun x hx=>h x (Ze _ hx));rw[List.flatMap_cons];refine⟨?_,?_⟩
  ·refine Gv.app (a:=[sg [44],.g [32]]++Ch y) ?_ h1
   exact⟨hS.soft 4 32 _ (by decide),h y Zb _ h2⟩
  ·exact Iv (by decide)
theorem ex_sep {S:Int→Bs→Bool}(hS:Te S)(hd:bS){e:Ex}(h:WEx e):∀z,Tq z→Gv S (Ch e) z:=by
 induction h with
 |num n h=>intro z hz;rw[Mw];exact⟨hS.ofSoft hz 3,trivial⟩
 |var s h=>intro z hz;rw[Mg];exact⟨hS.ofSoft hz 1,trivial⟩
 |one o x ho hx ih=>
  intro z hz;rw[Mn];exact⟨hS.ofHead (Rb (Jc hd hx)).app,Oj hS (Jc hd hx) ih 9 z hz⟩
 |two o x y ho hx hy ihx ihy=>
  intro z hz;rw[Mx];refine Gv.app (Oj hS (Jc hd hx) ihx _ _ (Iv (by decide))) ?_;exact⟨hS.soft 4 32 _ (by decide),Oj hS (Jc hd hy) ihy _ z hz⟩
 |call s l h hl hx ih=>
  intro z hz;rw[Mh];have hclose:Gv S [sg [41]] z:=⟨hS.ofSoft hz 4,trivial⟩
  cases l with
  |nil=>
   exact⟨(hS.opens 1 _ (by decide)).1,hS.soft 4 41 _ (by decide),hclose⟩
  |cons x l=>
   have hx0:=hx x Zb;obtain⟨h1,h2⟩:=Vt hS z l (fun y hy=>ih y (Ze _ hy));rw[Li];refine⟨(hS.opens 1 _ (by decide)).1,?_,?_⟩
   ·rw[Bq,Bq,Zc,Zc]
    exact hS.ofHead (Jc hd hx0).app
   ·rw[Zc]
    refine Gv.app (ih x Zb _ ?_) (Gv.app h1 hclose);rw[Bq,Zc];exact h2
 |idx s x h hx ih=>
  intro z hz;rw[Mj];refine⟨(hS.opens 1 _ (by decide)).2,?_,Gv.app (ih _ (Iv (by decide))) ⟨hS.ofSoft hz 4,trivial⟩⟩;rw[Bq,Zc];exact hS.ofHead (Jc hd hx).app
 |read=>
  intro z hz;rw[Ms];exact⟨(hS.opens 2 _ (by decide)).1,hS.soft 4 41 _ (by decide),hS.ofSoft hz 4,trivial⟩
theorem Uq(hd:bS){e:Ex}(h:WEx e):∀k,Ju (Bp (Gw e k))
 |0=>Jc hd h
 |k+1=>⟨40,_,rfl,by decide⟩
theorem Ob {S:Int→Bs→Bool}(hS:Te S)(hd:bS){e:Ex}(h:WEx e):∀k z,Tq z→Gv S (Gw e k) z
 |0,z,hz=>ex_sep hS hd h z hz
 |k+1,z,hz=>by
  refine⟨?_,Gv.app (Ob hS hd h k _ (Iv (by decide))) ⟨hS.ofSoft hz 4,trivial⟩⟩;rw[Bq,Zc];exact hS.ofHead (Uq hd h k).app
def Dl:List Pc→Bs
 | .g b::l=>b++Dl l
 |_=>[]
def Fe:List Pc→List It
 |[]=>[]
 | .g _::l=>Fe l
 | .t x::l=>⟨x.text,x.kind,x.num,Dl l,[]⟩::Fe l
theorem Kx:∀l:List Pc,Dl l++By (Fe l)=Bp l
 |[]=>rfl
 | .g b::l=>by
  show(b++Dl l)++By (Fe l)=b++Bp l
  rw[Zc,Kx l]
 | .t x::l=>by
  show []++By (_::Fe l)=x.text++Bp l
  rw[Jr,List.nil_append];show x.text++(Ah (Dl l) []++By (Fe l))=_
  rw[show Ah (Dl l) []=Dl l by unfold Ah;simp,Kx l]
theorem Su:∀(l:List Pc) (line:Nat),(Ko line (Fe l)).map t3=Kh l
 |[],line=>rfl
 | .g b::l,line=>Su l line
 | .t x::l,line=>by
  show(⟨x.kind,x.text,x.num,line⟩:Tk)|>fun t=>t3 t::(Ko _ (Fe l)).map t3=x::Kh l
  rw[Su l];rfl
def Py(x:T3):Prop:=Gx x.text x.kind x.num∧(x.kind=3→∀r,x.text≠39::r)∧I64 x.num
def Bl(l:List Pc):Prop:= ∀p,p∈l→match p with| .t x=>Py x| .g b=> ∀c,c∈b→Ej c=true
theorem Kl:∀(l:List Pc),Bl l→∀c,c∈Dl l→Ej c=true
 |[],h,c,hc=>by cases hc
 | .t x::l,h,c,hc=>by cases hc
 | .g b::l,h,c,hc=>by
  rcases List.mem_append.1 (show c∈b++Dl l from hc)with hc|hc
  ·exact h (.g b) Zb c hc
  ·exact Kl l (fun p hp=>h p (Ze _ hp)) c hc
theorem Wd(z:Bs):∀(l:List Pc),Bl l→Gv Io l z→Ib z (Fe l)∧∀i,i∈Fe l→I64 i.n
 |[],h,hs=>⟨trivial,fun i hi=>by cases hi⟩
 | .g b::l,h,hs=>Wd z l (fun p hp=>h p (Ze _ hp)) hs
 | .t x::l,h,hs=>by
  have hl:Bl l:=fun p hp=>h p (Ze _ hp)
  obtain⟨i1,i2⟩:=Wd z l hl hs.2;obtain⟨h1,h2,h3⟩:Py x:=h (.t x) Zb;have hg:Ah (Dl l) []=Dl l:=by unfold Ah;simp
  refine⟨⟨Ur h1 h2 ?_,⟨Kl l hl,fun p hp=>by cases hp⟩,i1⟩,fun i hi=> ?_⟩
  ·show Io x.kind (Ah (Dl l) []++(By (Fe l)++z))=true
   rw[hg,←Zc,Kx];exact hs.1
  ·rcases Zo.1 hi with rfl|hi
   ·exact h3
   ·exact i2 i hi
theorem Ma {c:UInt8}{r:Bs}(h7:c.toNat<128)(h:c≠61∧c≠60∧c≠62∧c≠47):Io 4 (c::r)=true:=by
 obtain⟨h1,h2,h3,h4⟩:=h;simp [Io,h7,h1,h2,h3,h4]
theorem eP:Te Io:=by
 refine⟨fun k=>rfl,fun k c r h=> ?_,fun c r h=> ?_,fun k r h=> ?_⟩
 ·have hc:c=32∨c=41∨c=93∨c=44∨c=59∨c=10:=by simpa [Yv,or_assoc]using h
  by_cases h4:k=4
  ·subst h4;rcases hc with rfl|rfl|rfl|rfl|rfl|rfl<;>exact Ma (by decide) (by decide)
  ·by_cases h3:k=3
   ·subst h3;rcases hc with rfl|rfl|rfl|rfl|rfl|rfl<;>(unfold Io;dsimp only;rw[if_neg (by decide),if_pos rfl];decide)
   ·unfold Io
    rcases hc with rfl|rfl|rfl|rfl|rfl|rfl<;>(dsimp only;rw[if_neg h4,if_neg h3];decide)
 ·unfold Um at h
  by_cases hl:Bw c=true
  ·have:=Mz hl
   exact Ma (Fo hl) ⟨by rintro rfl;exact absurd this (by decide),by rintro rfl;exact absurd this (by decide),by rintro rfl;exact absurd this (by decide),by rintro rfl;exact absurd this (by decide)⟩
  ·by_cases hd:Ca c=true
   ·have h1:=Vr hd
    have h2:=Jx hd;exact Ma h2 ⟨by rintro rfl;exact absurd hd (by decide),by rintro rfl;exact absurd hd (by decide),by rintro rfl;exact absurd hd (by decide),by rintro rfl;exact absurd hd (by decide)⟩
   ·have hc:c=40∨c=45∨c=33∨c=126:=by simpa [hl,hd,or_assoc]using h
    rcases hc with rfl|rfl|rfl|rfl<;>exact Ma (by decide) (by decide)
 ·by_cases h4:k=4
  ·subst h4;exact⟨Ma (by decide) (by decide),Ma (by decide) (by decide)⟩
  ·refine⟨?_,?_⟩<;>(unfold Io;dsimp only;rw[if_neg h4,if_neg h];decide)
theorem digL:bS:=fun u=>⟨Hf u,Mt u⟩
theorem Sb(u:Nat)(h:u<10000000000000000000):Zj u≤19:=by
 by_cases h0:u<10
 ·rw[Zj,dif_pos h0];decide
 ·have step:∀(n u:Nat),(¬u<10→Zj (u / 10)≤n)→Zj u≤n+1:=fun n u h=>by
   rw[Zj];split
   ·omega
   ·rename_i hh;have:=h hh;omega
  have pw:∀(n u:Nat),u<10 ^ (n+1)→Zj u≤n+1:=by
   intro n
   induction n with
   |zero=>intro u hu;rw[Zj,dif_pos (by omega)];omega
   |succ n ih=>intro u hu;exact step (n+1) u (fun _=>ih (u / 10) (by rw[Nat.pow_succ]at hu;omega))
  exact pw 18 u (by omega)
theorem num_ok {n:Int}(h0:0≤n)(h1:I64 n):Py ⟨3,Zg n,n⟩:=by
 have e:Zg n=Zi n.toNat:=by unfold Zg;rw[if_neg (by omega)]
 have hu:(n.toNat:Int)=n:=by omega
 have hb:n.toNat≤9223372036854775807:=by have:=h1.2;omega
 refine⟨?_,fun _ r hr=> ?_,h1⟩
 ·show Gx (Zg n) 3 n
  rw[e];rcases hq:Zi n.toNat with _|⟨c,t⟩
  ·exact absurd hq (Mt _)
  ·have hlen:(Zi n.toNat).length≤19:=by
    rw[Lib.decDigits_length];exact Sb _ (by omega)
   have:=Gx.num n.toNat hlen hb c t hq (Hf _ c (by rw[hq];exact Zb));rw[hu]at this;rw[←hq];exact this
 ·have hr:Zg n=39::r:=hr
  rw[e]at hr;have:=Hf n.toNat 39 (by rw[hr];exact Zb);exact absurd this (by decide)
theorem Ph:∀(f:Bool) (x:Bs),Ec f x=true→∀c,c∈x→c.toNat<128∧Gy (c.toNat:Nat)=true
 |_,[],_,c,hc=>by cases hc
 |f,d::l,h,c,hc=>by
  rw[Ec]at h;obtain⟨h1,h2⟩:=(Zf _ _).mp h;rcases Zo.1 hc with rfl|hc
  ·unfold Gy
   rw[Gq,He];rcases(Bool.or_eq_true _ _).mp h1 with h3|h3
   ·exact⟨Fo h3,by rw[h3];rfl⟩
   ·have h4:=((Zf _ _).mp h3).2
    exact⟨Jx h4,by rw[h4];simp⟩
  ·exact Ph false l h2 c hc
theorem Sg {s:Bs}(h:Ap s=true):Py ⟨1,s,0⟩:=by
 have h':=h;unfold Ap at h';simp only[Zf]at h';obtain⟨⟨⟨h1,h2⟩,h3⟩,h4⟩:=h';refine⟨?_,fun e=>absurd (show(1:Int)=3 from e) (by decide),Dw⟩
 cases s with
 |nil=>exact absurd h1 (by decide)
 |cons c t=>
  have hl:Bw c=true:=by
   rw[Ec]at h4;have:=((Zf _ _).mp h4).1;simpa using this
  exact .name (c::t) h (by simpa using h3) c t rfl hl (Ph true _ h4)
theorem Dy {x:Bs}(h:Hu x=true):Py ⟨4,x,0⟩:=⟨Yy h,fun e=>absurd (show(4:Int)=3 from e) (by decide),Dw⟩
theorem Yt {o:Int}(h:0<Aj o∨o=17∨o=18∨o=19):Hu (Al o)=true:=by
 rcases h with h|rfl|rfl|rfl
 ·obtain⟨i,rfl⟩:=Kz h
  exact(by decide:∀i:Fin 16,Hu (Al ((i.val:Int)+1))=true) i
 ·decide
 ·decide
 ·decide
inductive N64:Ex→Prop
 |mk (k o n:Int) (nm:Bs) (args:List Ex) (h:I64 n) (ha:∀x,x∈args→N64 x):N64 (.mk k o n nm args)
theorem Bl.app {a b:List Pc}(h1:Bl a)(h2:Bl b):Bl (a++b):=fun p hp=>by
 rcases List.mem_append.1 hp with h|h
 ·exact h1 p h
 ·exact h2 p h
theorem Bl.cons {p:Pc}{l:List Pc}(h1:match p with| .t x=>Py x| .g b=> ∀c,c∈b→Ej c=true)(h2:Bl l):Bl (p::l):=fun q hq=>by
 rcases Zo.1 hq with rfl|h
 ·exact h1
 ·exact h2 q h
theorem Bl.nil:Bl []:=fun p hp=>by cases hp
theorem Rz {e:Ex}{lv:Int}(h:Bl (Ch e)):Bl (Cg e lv):=by
 unfold Cg Eu;split
 ·exact Bl.app (Bl.app (Bl.cons (Dy (by decide)) Bl.nil) h) (Bl.cons (Dy (by decide)) Bl.nil)
 ·exact h
theorem ex_toks {e:Ex}(h:WEx e)(hn:N64 e):Bl (Ch e):=by
 induction h with
 |num n h=>cases hn with|mk _ _ _ _ _ h1 ha=>rw[Mw];exact Bl.cons (num_ok h h1) Bl.nil
 |var s h=>rw[Mg];exact Bl.cons (Sg h) Bl.nil
 |one o x ho hx ih=>cases hn with|mk _ _ _ _ _ h1 ha=>rw[Mn];exact Bl.cons (Dy (Yt (.inr ho))) (Rz (ih (ha x Zb)))
 |two o x y ho hx hy ihx ihy=>
  cases hn with
  |mk _ _ _ _ _ h1 ha=>
   rw[Mx];refine Bl.app (Rz (ihx (ha x Zb))) (Bl.cons (by show ∀c,c∈[32]→_;decide) (Bl.cons (Dy (Yt (.inl ho))) (Bl.cons (by show ∀c,c∈[32]→_;decide) (Rz (ihy (ha y (by simp)))))))
 |call s l h hl hx ih=>
  cases hn with
  |mk _ _ _ _ _ h1 ha=>
   rw[Mh];refine Bl.cons (Sg h) (Bl.cons (Dy (by decide)) (Bl.app ?_ (Bl.cons (Dy (by decide)) Bl.nil)));have hm:∀(l:List Ex),(∀x,x∈l→Bl (Ch x))→Bl (l.flatMap (fun y=>[sg [44],.g [32]]++Ch y)):=by
    intro l hl p hp;obtain⟨y,hy,hp⟩:=List.mem_flatMap.1 hp;exact Bl.app (Bl.cons (Dy (by decide)) (Bl.cons (by show ∀c,c∈[32]→_;decide) Bl.nil)) (hl y hy) p hp
   cases l with
   |nil=>exact Bl.nil
   |cons x l=>
    rw[Li];exact Bl.app (ih x Zb (ha x Zb)) (hm l (fun y hy=>ih y (Ze _ hy) (ha y (Ze _ hy))))
 |idx s x h hx ih=>
  cases hn with
  |mk _ _ _ _ _ h1 ha=>rw[Mj];exact Bl.cons (Sg h) (Bl.cons (Dy (by decide)) (Bl.app (ih (ha x Zb)) (Bl.cons (Dy (by decide)) Bl.nil)))
 |read=>rw[Ms];exact Bl.cons ⟨Yx (by decide) (by decide),fun e=>absurd (show(2:Int)=3 from e) (by decide),Dw⟩ (Bl.cons (Dy (by decide)) (Bl.cons (Dy (by decide)) Bl.nil))
theorem Lr {e:Ex}(h:WEx e)(hn:N64 e):∀k,Bl (Gw e k)
 |0=>ex_toks h hn
 |k+1=>Bl.cons (Dy (by decide)) (Bl.app (Lr h hn k) (Bl.cons (Dy (by decide)) Bl.nil))
theorem Ag.n64 {D:Nat→Prop}{w:World}{l:List Ex}{v:Value}(h:Ag D w l v):∀x,x∈l→N64 x:=by
 induction h with
 |mk l a cap b off sv hcap hfit ha h0 h1 h2 h3 h4 hs hn ih=>
  intro x hx;obtain⟨i,hi,rfl⟩:=List.getElem_of_mem hx;have e:Ci l i=l[i]:=by simp [Ci,List.getElem?_eq_getElem hi]
  have h1:=ih i hi;have h2:=hn i hi;rw[e]at h1 h2;generalize l[i]=y at h1 h2;obtain⟨k,o,n,nm,args⟩:=y;exact .mk k o n nm args h2 h1
theorem tok_ne {x:T3}(h:Py x):x.text≠[]:=h.1.ne
theorem Ry:∀l:List Pc,Bl l→(Fe l).length≤(Bp l).length
 |[],h=>Nat.le_refl _
 | .g b::l,h=>by
  have:=Ry l (fun p hp=>h p (Ze _ hp));show(Fe l).length≤(b++Bp l).length
  rw[Zh];omega
 | .t x::l,h=>by
  have:=Ry l (fun p hp=>h p (Ze _ hp));have h1:x.text≠[]:=tok_ne (h (.t x) Zb);have h2:0<x.text.length:=List.length_pos_iff.2 h1;show(Fe l).length+1≤(x.text++Bp l).length
  rw[Zh];omega
theorem Pz(l:List Pc)(h0:Dl l=[])(hp:Bl l)(hs:Gv Io l [])(hlen:(Bp l).length≤20000)(Q:Ex ×Int ×Int→Prop)
  (hz:∀(T:List Tk) (u:Tk),T.map t3=Kh l→u.kind=5→u.text=[]→∃z,Ev (fun f=>Aq f 1 (T++[u])) z∧Q (Kw (Nu z))) (w:World) (hl:Fh w):
  Calls Zd 13 #[.string (Aa (Bp l))] w fun e w'=> ∃r,Q r∧WhE w r e w':=by
 obtain⟨i1,i2⟩:=Wd [] l hp hs;have ht:=Kx l;rw[h0,List.nil_append]at ht;obtain⟨z,⟨f0,hf⟩,hq⟩:=hz (Ko (1+Bt (Ah [] [])) (Fe l)) ⟨5,[],0,Xh (1+Bt (Ah [] [])) (Fe l)⟩ (Su l _) rfl rfl;have hil:=Ry l hp;have hx:=Tw [] [] Ky (Fe l) i1 i2 (by show([]++By (Fe l)).length≤20000;rw[List.nil_append,ht];exact hlen) (by omega) (f0+4*((Fe l).length+1)+4) (by omega) w hl;have e0:Ah [] []++By (Fe l)=Bp l:=by rw[←ht];rfl
 rw[e0]at hx;refine hx.mono ?_;intro e w' hp;have e1:Aq (f0+4*((Fe l).length+1)+4) 1 (Cq (1+Bt (Ah [] [])) (Fe l))=z:=hf _ (by omega);rw[e1]at hp;exact⟨_,hq,hp⟩
theorem Yw {e:Ex}(h:WEx e):∀(k:Nat) (r:List Pc),Dl (Gw e k++r)=[]
 |k+1,r=>rfl
 |0,r=>by
  have wrap:∀(e:Ex) (lv:Int) (r:List Pc),(∀r,Dl (Ch e++r)=[])→Dl (Cg e lv++r)=[]:=by
   intro e lv r h;unfold Cg Eu;split
   ·rfl
   ·exact h r
  have all:∀r,Dl (Ch e++r)=[]:=by
   induction h with
   |num n h=>intro r;rw[Mw];rfl
   |var s h=>intro r;rw[Mg];rfl
   |one o x ho hx ih=>intro r;rw[Mn];rfl
   |two o x y ho hx hy ihx ihy=>intro r;rw[Mx,Zc];exact wrap _ _ _ ihx
   |call s l h hl hx ih=>intro r;rw[Mh];rfl
   |idx s x h hx ih=>intro r;rw[Mj];rfl
   |read=>intro r;rw[Ms];rfl
  exact all r
def Fx(t:Bs):Nat→Bs
 |0=>t
 |k+1=>[40]++Fx t k++[41]
theorem Tz(t:Bs):∀k,(Fx t k).length=t.length+2*k
 |0=>rfl
 |k+1=>by rw[Fx,Zh,Zh,Tz t k];simp;omega
theorem Kc(e:Ex):∀k,Bp (Gw e k)=Fx (Af e) k
 |0=>Rx e
 |k+1=>by
  show [40]++Bp (Gw e k++[sg [41]])=[40]++Fx (Af e) k++[41]
  rw[Bq,Kc e k,←Zc];rfl
theorem Ul {u:Tk}{r:List Tk}(h:u.text=[]):Iw (u::r)∧Cb 1 (u::r)=0:=⟨Fi (.inr (.inr (.inr (.inr h)))),Gu (.inr (.inr (.inr (.inr h))))⟩
theorem cJ {e:Ex}(hr:Cm e=true)(h:WEx e)(hn:N64 e)(k:Nat)(hlen:(Fx (Af e) k).length≤20000)(w:World)(hl:Fh w):
  Calls Zd 13 #[.string (Aa (Fx (Af e) k))] w (WhE w (e,0,0)):=by
 rw[←Kc]at hlen ⊢;refine(Pz (Gw e k) (by have:=Yw h k [];rwa[Zl]at this) (Lr h hn k) (Ob eP digL h k [] (.inl rfl)) hlen (fun r=>r=(e,0,0)) ?_ w hl).mono ?_
 ·intro T u hT hu hx
  refine⟨.ok (e,[u]),Kf h k T [u] hT (Ul hx).1 (Ul hx).2,?_⟩;have h1:Nu (.ok (e,[u]))=(e,0,0):=by show(if u.kind=5 then(e,(0:Int),(0:Int))else(exZ,40,u.line))=_;rw[if_pos hu]
  rw[h1];show(if(0:Int)=0∧Cm e=false then(exZ,(41:Int),(1:Int))else(e,0,0))=_;rw[if_neg (by rintro⟨_,h2⟩;rw[hr]at h2;cases h2)]
 ·rintro r w' ⟨R,rfl,hp⟩;exact hp
theorem Uj(n:Int):Kw (exZ,40,n)=(exZ,40,n):=by show(if(40:Int)=0∧Cm exZ=false then(exZ,(41:Int),(1:Int))else(exZ,40,n))=_;rw[if_neg (by rintro⟨h,_⟩;exact absurd h (by decide))]
theorem Xq {e:Ex}(h:WEx e)(hn:N64 e)(k:Nat)(hlen:(Fx (Af e) k++[41]).length≤20000)(w:World)(hl:Fh w):
  Calls Zd 13 #[.string (Aa (Fx (Af e) k++[41]))] w fun r w'=> ∃n,WhE w (exZ,40,n) r w':=by
 have et:Bp (Gw e k++[sg [41]])=Fx (Af e) k++[41]:=by rw[Bq,Kc];rfl
 rw[←et]at hlen ⊢;refine(Pz (Gw e k++[sg [41]]) (Yw h k _) (Bl.app (Lr h hn k) (Bl.cons (Dy (by decide)) Bl.nil)) (Gv.app (Ob eP digL h k _ (Iv (by decide))) ⟨eP.ofSoft (.inl rfl) 4,trivial⟩) hlen (fun r=> ∃n,r=(exZ,40,n)) ?_ w hl).mono ?_
 ·intro T u hT hu hx
  obtain⟨t1,t2,rfl,h1,h2⟩:=For.app (show For T (Gw e k++[sg [41]])from hT);obtain⟨c,r,rfl,h3,h4⟩:=h2.cons;have hc:=Hg h3;have tc:=Co hc;rw[h4.nil];refine⟨.ok (e,[c,u]),?_,c.line,?_⟩
  ·have:=Kf h k t1 [c,u] h1 (Fi (.inl tc)) (Gu (.inl tc))
   simpa using this
  ·have hk:c.kind≠5:=Ot hc
   have h5:Nu (.ok (e,[c,u]))=(exZ,40,c.line):=by show(if c.kind=5 then(e,(0:Int),(0:Int))else(exZ,40,c.line))=_;rw[if_neg hk]
   rw[h5];exact Uj _
 ·rintro r w' ⟨R,⟨n,rfl⟩,hp⟩;exact⟨n,hp⟩
theorem aI {e:Ex}(h:WEx e)(hn:N64 e)(k:Nat)(hlen:([40]++Fx (Af e) k).length≤20000)(w:World)(hl:Fh w):
  Calls Zd 13 #[.string (Aa ([40]++Fx (Af e) k))] w fun r w'=> ∃n,WhE w (exZ,40,n) r w':=by
 have et:Bp (sg [40]::Gw e k)=[40]++Fx (Af e) k:=by rw[←Kc];rfl
 rw[←et]at hlen ⊢;refine(Pz (sg [40]::Gw e k) rfl (Bl.cons (Dy (by decide)) (Lr h hn k)) ⟨by show Io 4 (Bp (Gw e k)++[])=true;exact eP.ofHead (Uq digL h k).app,Ob eP digL h k [] (.inl rfl)⟩ hlen (fun r=> ∃n,r=(exZ,40,n)) ?_ w hl).mono ?_
 ·intro T u hT hu hx
  obtain⟨t,r,rfl,h3,h4⟩:=For.cons (show For T (sg [40]::Gw e k)from hT);obtain⟨n,hn⟩:=cH h k t u r [] (Hg h3) h4 hu hx;exact⟨.error n,hn,n,Uj n⟩
 ·rintro r w' ⟨R,⟨n,rfl⟩,hp⟩;exact⟨n,hp⟩
theorem Iy(a b:Bs):Aa a++Aa b=Aa (a++b):=by
 apply ByteArray.ext;simp [Aa]
theorem bB(a:Bs):(Aa a).size=a.length:=by show a.toArray.size=_;simp
theorem cC {B:Nat}{a w:World}(h:Below B a w)(n:Nat):Below B a (w.drewN n):=⟨h.os,h.tape,h.output,h.size,h.block⟩
theorem pn_good {X:Ex}(hr:Cm X=true)(h:WEx X)(hn:N64 X)(k:Nat)(hlen:(Fx (Af X) k).length≤20000)(w:World)(hl:Fh w):
  Calls Zd 13 #[.string (Aa (Fx (Af X) k))] w fun e w'=>Below w.heap.size w w'∧∃sa sc,e= .returned (.tuple #[.agg #[.int .i64 X.kind,.int .i64 X.op,.int .i64 X.n,.string (Aa X.name),.slice sa X.args.length sc],.int .i64 0,.int .i64 0])∧Ag (w.heap.size≤ ·) w' X.args (.slice sa X.args.length sc):=by
 refine(cJ hr h hn k hlen w hl).mono ?_;rintro e w' ⟨hb,v,rfl,s,rfl,hx,_⟩;obtain⟨sa,sc,rfl⟩:=hx.shape;exact⟨hb,sa,sc,rfl,hx⟩
def BadE(w:World)(e:Ending)(w':World):Prop:=Below w.heap.size w w'∧∃n kk o m s sa sl sc,e= .returned (.tuple #[.agg #[.int .i64 kk,.int .i64 o,.int .i64 m,.string s,.slice sa sl sc],.int .i64 40,.int .i64 n])
theorem dY {w:World}{e:Ending}{w':World}(h:∃n,WhE w (exZ,40,n) e w'):BadE w e w':=by
 obtain⟨n,hb,v,rfl,s,rfl,hx,_⟩:=h;obtain⟨sa,sc,rfl⟩:=hx.shape;exact⟨hb,n,_,_,_,_,sa,_,sc,rfl⟩
inductive Pa:Ex→Prop
 |num (n:Int) (h:0≤n):Pa (.mk 1 0 n [] [])
 |var (nm:Bs) (h:Ap nm=true):Pa (.mk 2 0 0 nm [])
 |one (o:Int) (x:Ex) (h:o=17∨o=18∨o=19) (hx:Bv x=true):Pa (.mk 3 o 0 [] [x])
 |two (o:Int) (x y:Ex) (h:0<Aj o) (hx:Bv x=true) (hy:Bv y=true):Pa (.mk 4 o 0 [] [x,y])
 |call (nm:Bs) (l:List Ex) (h:Ap nm=true) (hn:l.length≤6) (hl:∀x,x∈l→Bv x=true):Pa (.mk 5 0 0 nm l)
 |index (nm:Bs) (x:Ex) (h:Ap nm=true) (hx:Bv x=true):Pa (.mk 6 0 0 nm [x])
 |read:Pa (.mk 7 0 0 [] [])
def SOk(x:St):Prop:= ∃m,Jl m x=true
inductive Hz:St→Prop
 |set (nm:Bs) (x:Ex) (h:Ap nm=true) (hx:Bv x=true):Hz (.mk 1 nm [x] [] [])
 |store (nm:Bs) (x y:Ex) (h:Ap nm=true) (hx:Bv x=true) (hy:Bv y=true):Hz (.mk 2 nm [x,y] [] [])
 |iff (x:Ex) (t e:List St) (hx:Bv x=true) (ht:∀y,y∈t→SOk y) (he:∀y,y∈e→SOk y):Hz (.mk 3 [] [x] t e)
 |loop (x:Ex) (t:List St) (hx:Bv x=true) (ht:∀y,y∈t→SOk y):Hz (.mk 4 [] [x] t [])
 |brk:Hz (.mk 5 [] [] [] [])
 |cont:Hz (.mk 6 [] [] [] [])
 |ret (x:Ex) (hx:Bv x=true):Hz (.mk 7 [] [x] [] [])
 |prt (x:Ex) (hx:Bv x=true):Hz (.mk 8 [] [x] [] [])
 |trp (x:Ex) (hx:Bv x=true):Hz (.mk 9 [] [x] [] [])
 |call (nm:Bs) (l:List Ex) (h:Ap nm=true) (hn:l.length≤6) (hl:∀x,x∈l→Bv x=true):Hz (.mk 10 [] [.mk 5 0 0 nm l] [] [])
structure FOk (f:Fu):Prop where
 name:Ap f.name=true
 params:∀x,x∈f.params→Ap x=true
 locals:∀x,x∈f.locals→Ap x=true
 body:∀x,x∈f.body→SOk x
mutual
def Ef:Ex→Ex→Bool
 | .mk k o n nm us,.mk k' o' n' nm' bs=>k==k' && o==o' && n==n' && nm==nm' && De us bs
def De:List Ex→List Ex→Bool
 |[],[]=>true
 |x::l,y::m=>Ef x y && De l m
 |_,_=>false
end
mutual
theorem Wq:∀a b:Ex,Ef a b=true↔a=b
 | .mk k o n nm us,.mk k' o' n' nm' bs=>by
  rw[Ef];simp only[Zf,beq_iff_eq,Jj us bs,Ex.mk.injEq];simp only[and_assoc]
theorem Jj:∀a b:List Ex,De a b=true↔a=b
 |[],[]=>by simp [De]
 |x::l,y::m=>by rw[De];simp [Wq x y,Jj l m]
 |[],y::m=>by simp [De]
 |x::l,[]=>by simp [De]
end
def Gi {α:Type}(f:α→α→Bool):List α→List α→Bool
 |[],[]=>true
 |x::l,y::m=>f x y && Gi f l m
 |_,_=>false
theorem Nr:∀l m,De l m=Gi Ef l m
 |[],[]=>rfl
 |x::l,y::m=>by rw[De,Gi,Nr l m]
 |[],y::m=>by simp [De,Gi]
 |x::l,[]=>by simp [De,Gi]
theorem Ow {α:Type}(f:α→α→Bool):∀(l m:List α),l.length≠m.length→Gi f l m=false
 |[],[],h=>absurd rfl h
 |x::l,y::m,h=>by rw[Gi,Ow f l m (by simpa using h)];simp
 |[],y::m,_=>rfl
 |x::l,[],_=>rfl
theorem Nq {α:Type}(f:α→α→Bool)(d:α):∀(l m:List α),l.length=m.length→(∀i,i<l.length→f (l.getD i d) (m.getD i d)=true)→Gi f l m=true
 |[],[],_,_=>rfl
 |x::l,y::m,h,hf=>by
  have h0:f x y=true:=by have:=hf 0 (by simp);simpa using this
  rw[Gi,h0,Nq f d l m (by simpa using h) (fun i hi=>by have:=hf (i+1) (by simpa using hi);simpa using this)];rfl
 |[],y::m,h,_=>by simp at h
 |x::l,[],h,_=>by simp at h
theorem Ln {α:Type}(f:α→α→Bool)(d:α):∀(l m:List α) (i:Nat),l.length=m.length→i<l.length→f (l.getD i d) (m.getD i d)=false→Gi f l m=false
 |x::l,y::m,0,_,_,hf=>by rw[Gi,show f x y=false by simpa using hf];rfl
 |x::l,y::m,i+1,h,hi,hf=>by rw[Gi,Ln f d l m i (by simpa using h) (by simpa using hi) (by simpa using hf)];simp
 |[],_,_,_,hi,_=>by simp at hi
 |x::l,[],_,h,_,_=>by simp at h
theorem Jb {l:Bs}(h:Ap l=true):l.length≤20:=by
 unfold Ap at h;simp only[Zf,decide_eq_true_eq]at h;exact h.1.1.2
theorem Qd(e:Ex)(lev:Int)(t:Bs):(Dm e lev t).length≤t.length+2:=by
 unfold Dm;split
 ·simp
 ·omega
theorem Sa:∀i:Fin 20,(Al i.val).length≤2:=by decide+kernel
theorem Ux(o:Int):(Al o).length≤2:=by
 by_cases h:0≤o∧o≤19
 ·have e1:((o.toNat:Nat):Int)=o:=Int.toNat_of_nonneg (by omega)
  have:=Sa ⟨o.toNat,by omega⟩;simp only[e1]at this;exact this
 ·unfold Al
  rw[if_neg (by omega),if_neg (by omega),if_neg (by omega),if_neg (by omega),if_neg (by omega),if_neg (by omega),if_neg (by omega),if_neg (by omega),if_neg (by omega),if_neg (by omega),if_neg (by omega),if_neg (by omega),if_neg (by omega),if_neg (by omega),if_neg (by omega),if_neg (by omega),if_neg (by omega),if_neg (by omega),if_neg (by omega)];exact Nat.zero_le _
theorem ex1_len(n:Int)(h:0≤n∧n≤9223372036854775807)(o:Int)(nm:Bs)(l:List Ex):(Af (.mk 1 o n nm l)).length≤21:=by
 rw[Lm];exact Lib.itoa_length_le n (by omega) h.2
end Go.Proofs.YtcfpfnoldgnloaaGreatDoor
