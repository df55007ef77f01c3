/-
  ParseWhere: for every input the law returns true, and its arguments read afterwards as before: the row, the card. Condition: the tables that the row lists are laid as the program's text lays them.
-/
import Derived.Test.YtcfpfnoldgnloaaGreatDoorPw20
import Derived.Test.YtcfpfnoldgnloaaGreatDoorPw09
import Derived.Test.YtcfpfnoldgnloaaGreatDoorPw11
import Derived.Test.YtcfpfnoldgnloaaGreatDoorCards
import Derived.Test.YtcfpfnoldgnloaaGreatDoorTie
set_option linter.unusedVariables false
set_option linter.unusedSimpArgs false
namespace Go.Proofs.YtcfpfnoldgnloaaGreatDoor
open Go.RowKit
set_option maxHeartbeats 20000000
set_option maxRecDepth 100000
open Go.Lib renaming hid→Za
open List renaming length_append→Zb
theorem gJ(w:World)(hl:Ji w):
  Calls Tryz.prog 11 #[] w fun e w'=>e= .returned (.bool true)∧Below w.heap.size w w':=by
 have HL:=Za hl;clear hl;go_enter Tryz.func11,Tryz.ntmps11
 go_wp2_with fail
 refine(aw_p w HL.out).mono ?_;rintro e w1 ⟨hb1,aa,an,ac,b,off,cap,b2,o2,c2,rfl,h3,hk,hc,hc2⟩;have hal:Below w1.heap.size w1 (w1.alloc (.cells #[.slice aa an ac,.slice (some ⟨b,off,none⟩) 1 cap] 34)):=bA;have HO:=Za (Ae.new w1 [.slice aa an ac,.slice (some ⟨b,off,none⟩) 1 cap] 34);have HL1:=Za ((HL.out.old hb1).old hal);have HB1:=Za (hb1.trans (hal.mono hb1.size));have H3:=Za (Ad hal h3);have HK:=Za (Ad hal hk);clear hb1 h3 hk hal;go_upto_region 2 with(fail)
 generalize w1.alloc (.cells #[.slice aa an ac,.slice (some ⟨b,off,none⟩) 1 cap] 34)=w2 at*;obtain⟨pb,hpb⟩:∃pb,w1.heap.size=pb:=⟨_,rfl⟩;rw[hpb]at HO ⊢;clear hpb;go_wp2_with fail
 refine(aw_q w2 HL1.out).mono ?_;rintro e w3 ⟨hb3,a3,n3,d3,f3,m3,e3,rfl⟩;have hal:Below w3.heap.size w3 (w3.alloc (.cells #[.slice a3 n3 d3,.slice f3 m3 e3] 34)):=bA;have HO3:=Za ((HO.out.old hb3).old hal);have HL3:=Za ((HL1.out.old hb3).old hal);have HB3:=Za (HB1.out.trans ((hb3.trans (hal.mono hb3.size)).mono HB1.out.size));have H33:=Za (Ad hal (Ad hb3 H3.out));have HK3:=Za (Ad hal (Ad hb3 HK.out));clear hb3 hal HO HL1 HB1 H3 HK;go_upto_region 3 with(fail)
 generalize w3.alloc (.cells #[.slice a3 n3 d3,.slice f3 m3 e3] 34)=w4 at*;go_wp2_with fail
 refine(aw_x w4 HL3.out).mono ?_;rintro e w5 ⟨hb5,k,o,n,s,b5,off5,cap5,rfl,h5⟩;have hal:Below w5.heap.size w5 (w5.alloc (.cells #[.int .i64 k,.int .i64 o,.int .i64 n,.string s,.slice (some ⟨b5,off5,none⟩) 2 cap5] 27)):=bA;have HO5:=Za ((HO3.out.old hb5).old hal);have HX5:=Za (Ae.new w5 [.int .i64 k,.int .i64 o,.int .i64 n,.string s,.slice (some ⟨b5,off5,none⟩) 2 cap5] 27);have HB5:=Za (HB3.out.trans ((hb5.trans (hal.mono hb5.size)).mono HB3.out.size));have H35:=Za (Ad hal (Ad hb5 H33.out));have HK5:=Za (Ad hal (Ad hb5 HK3.out));have H85:=Za (Ad hal h5);clear hb5 hal HO3 HL3 HB3 H33 HK3 h5;go_upto_region 4 with(fail)
 generalize w5.alloc (.cells #[.int .i64 k,.int .i64 o,.int .i64 n,.string s,.slice (some ⟨b5,off5,none⟩) 2 cap5] 27)=w6 at*;obtain⟨xb,hxb⟩:∃xb,w5.heap.size=xb:=⟨_,rfl⟩;rw[hxb]at HX5 ⊢;clear hxb;have p1:=HO5.out.at 1 _ rfl;have q4:=HX5.out.at 4 _ rfl;have c3:=H35.out;have ck:=HK5.out;have c8:=H85.out;have hcI:(1:Int)≤(cap:Int):=by omega
 go_wp2_with fail
 go_ret
 exact⟨rfl,HB5.out⟩
def Ua(c n:Int):Int:=if c<0 then(-(c+1)) % n else c % n
theorem oQ(c n:Int)(hc:I64 c)(h0:0<n)(h1:n≤9223372036854775807)(w:World):
  Calls Tryz.prog 12 #[.int .i64 c,.int .i64 n] w fun e w'=>e= .returned (.int .i64 (Ua c n))∧w'=w:=by
 obtain⟨l,u⟩:=hc;unfold Ua
 by_cases hneg:c<0
 ·rw[if_pos hneg]
  have hn0:(n==0)=false:=by simp;omega
  go_enter Tryz.func12,Tryz.ntmps12
  go_wp2_with fail
  go_ret
  exact⟨Ih (by show -((c+1).tmod n)=_;rw[←Int.neg_tmod,Int.tmod_eq_emod_of_nonneg (by omega)]),rfl⟩
 ·rw[if_neg hneg]
  have hneg':0≤c:=by omega
  go_enter Tryz.func12,Tryz.ntmps12
  go_wp2_with fail
  go_ret
  exact⟨rfl,rfl⟩
theorem cQ(c n:Int)(h:0<n):∃k:Nat,Ua c n=k∧(k:Int)<n:=by
 unfold Ua;split
 ·exact⟨((-(c+1)) % n).toNat,by have:=Int.emod_nonneg (-(c+1)) (show n≠0 by omega);omega,by have:=Int.emod_nonneg (-(c+1)) (show n≠0 by omega);have:=Int.emod_lt_of_pos (-(c+1)) h;omega⟩
 ·exact⟨(c % n).toNat,by have:=Int.emod_nonneg c (show n≠0 by omega);omega,by have:=Int.emod_nonneg c (show n≠0 by omega);have:=Int.emod_lt_of_pos c h;omega⟩
theorem Pv(a b:Bs):Aa a++Aa b=Aa (a++b):=by
 apply ByteArray.ext;simp [Aa]
theorem nR(L:List Tk)(j:Nat)(h:j<L.length):Ka (L.take (j+1))=Ka (L.take j)++((Ld L j).text++[10]):=by
 unfold Ka;rw[List.take_succ_eq_append_getElem h,List.flatMap_append];simp [Ld,List.getElem?_eq_getElem h]
theorem whTk_le(L:List Tk)(j:Nat):(Ka (L.take j)).length≤(Ka L).length:=by
 have e:Ka L=Ka (L.take j)++Ka (L.drop j):=by unfold Ka;rw[←List.flatMap_append,List.take_append_drop]
 rw[e,Zb];omega
theorem wh_bad {p:Pr}{D:Nat→Prop}{w0:World}{vf:Value}(hr:Ff p=true)(hf:Cf D w0 p.funcs vf)(hlen:(Fj p).length≤5000)(T:List Tk)(u:Tk)(hT:T.map t3=Gu (Ki p))(k:Nat)(hk:k≤T.length)(w:World)(hl:Ji w):
  Calls Tryz.prog 14 #[.string (Aa (Ka ((T++[u]).take k))++⟨#[101,108,115,101,32,101,108,115,101]⟩)] w fun e w'=>Below w.heap.size w w'∧∃aa an ac fa fn fc,e= .returned (.tuple #[.agg #[.slice aa an ac,.slice fa fn fc],.int .i64 40,.int .i64 ((k:Int)+1)]):=by
 show Calls _ _ #[.string (Aa (Ka ((T++[u]).take k))++Aa Rf)] _ _
 have hTl:T.length=(Gu (Ki p)).length:=by rw[←hT,List.length_map]
 rw[Pv,List.take_append_of_le_length hk,lN,List.map_take,hT];refine(nM hr hf.n64 hlen k (by omega) w hl).mono ?_;rintro e w' ⟨hb,v,rfl,av,fv,rfl,ha,hf⟩;obtain⟨aa,ac,rfl⟩:=ha.yshape;obtain⟨fa,fc,rfl⟩:=hf.yshape;exact⟨hb,aa,_,ac,fa,_,fc,by rw[show((1+k:Nat):Int)=(k:Int)+1 by omega]⟩
theorem gT(raw0:List Int)(rv:Value)(n:Int)(hn:I64 n)(w:World)(hr:Is (· <w.heap.size) w raw0 rv)(hl:Ji w):
  Calls Tryz.prog 5 #[rv,.int .i64 n] w fun e w'=>e= .returned (.bool true)∧Below w.heap.size w w':=by
 have HL:=Za hl;have HRA:=Za hr;have HN:=Za hn;clear hl hr hn;go_enter Tryz.func5,Tryz.ntmps5
 go_wp2_with fail
 refine(gJ w HL.out).mono ?_;rintro e w1 ⟨rfl,hb1⟩;have HB1:=Za hb1;clear hb1;go_wp2_with fail
 refine(qF raw0 false rv w1 (Is.old HB1.out HRA.out)).mono ?_;rintro e w2 ⟨va,vf,ds,rfl,hb2,ha2,hds,hd3,hf2⟩;have pr:=Oa raw0 false;have pl:Cv (Fj (Kl raw0 false)).length:=by have h1:=mU raw0 false;have h2:=oY;show _≤_;omega
 have pc:=(Qj raw0 false).2.2;generalize Kl raw0 false=p at*;have hO:=Ln.of ha2 hds hd3 hf2;have HB2:=Za (HB1.out.trans (hb2.mono HB1.out.size));have HP2:=Za hO;have PR:=Za pr;have PL:=Za pl;have PC:=Za pc;have HL2:=Za (HL.out.old HB2.out);clear hb2 ha2 hds hd3 hf2 hO pr pl pc HB1;go_wp2_with fail
 refine(gU p _ _ w2 HL2.out.lt HL2.out.pow HP2.out.ars HP2.out.fus PR.out (lQ PC.out) PL.out).mono ?_;rintro e w3 ⟨rfl,hb3⟩;have HB3:=Za (HB2.out.trans (hb3.mono HB2.out.size));have HP3:=Za (HP2.out.old hb3);have HL3:=Za (HL2.out.old hb3);have HSC:Hid (∀w,(Fj p).length≤5000→Ji w→Calls Tryz.prog 20 #[.string (Aa (Fj p))] w fun e w'=>Below w.heap.size w w'∧∃v T u,e= .returned (.tuple #[v,.int .i64 0,.int .i64 0])∧Wj w' (T++[u]) v∧T.map t3=Gu (Ki p)∧T.length≤20000):=Za fun w h hl=>scan_pr PR.out HP3.out.fus.n64 (by omega) w hl
 have HWB:Hid ((Fj p).length≤5000→∀(T:List Tk) (u:Tk),T.map t3=Gu (Ki p)→∀k,k≤T.length→∀w,Ji w→Calls Tryz.prog 14 #[.string (Aa (Ka ((T++[u]).take k))++⟨#[101,108,115,101,32,101,108,115,101]⟩)] w fun e w'=>Below w.heap.size w w'∧∃aa an ac fa fn fc,e= .returned (.tuple #[.agg #[.slice aa an ac,.slice fa fn fc],.int .i64 40,.int .i64 ((k:Int)+1)])):=Za fun h T u hT k hk w hl=>wh_bad PR.out HP3.out.fus h T u hT k hk w hl
 have HWL:Hid (∀(T:List Tk),T.map t3=Gu (Ki p)→(Ka T).length≤2*(Fj p).length):=Za fun T hT=>by
  rw[lN,hT,←Rs];exact Qe _ (aU PR.out HP3.out.fus.n64)
 clear hb3 HB2 HP2 HL2 PL;generalize Ki p=PP at*;generalize Fj p=tp at*
 by_cases h1:tp.length≤5000
 ·have a1:¬((tp.length:Int)>5000):=by omega
  have a2:¬((5000:Int)<(tp.length:Int)):=by omega
  have H1:=Za h1;clear h1;go_wp2_with fail
  refine(HSC.out _ H1.out HL3.out).mono ?_;rintro e w4 ⟨hb4,v,T,u,rfl,hz4,hT,hTl⟩;obtain⟨va',vc',rfl,hvc⟩:=hz4.slice;have HB4:=Za (HB3.out.trans (hb4.mono HB3.out.size));have HZ4:=Za hz4;have HW:=Za fun k hk w h=>HWB.out H1.out T u hT k hk w h
  have hwl:(Ka T).length≤10000:=by have:=HWL.out T hT;have:=H1.out;omega
  have hTu:(T++[u]).length=T.length+1:=by rw[Zb];rfl
  have HWT:Hid (∀k,k≤T.length→(Ka ((T++[u]).take k)).length≤10000):=Za fun k hk=>by
   rw[List.take_append_of_le_length hk];have:=whTk_le T k;omega
  clear hb4 hz4 HSC HWB HWL HB3 HL3 hwl hT;obtain⟨L,hL⟩:∃L,T++[u]=L:=⟨_,rfl⟩;rw[hL]at hTu HWT HW HZ4 ⊢;clear hL;obtain⟨m,hm⟩:∃m,T.length=m:=⟨_,rfl⟩;rw[hm]at hTu HWT HW hTl;clear hm;have hz:(L.length:Int)=((m+1:Nat):Int):=by omega
  go_wp2_with fail
  refine(oQ n _ HN.out (by omega) (by omega) w4).mono ?_;rintro e w5 ⟨he,rfl⟩;obtain⟨k,hk,hk51⟩:=cQ n ((m:Int)+1) (by omega);rw[hk]at he;subst he;have hkm:k≤m:=by omega
  have HKM:=Za hkm;clear hk hk51 hkm hz HN;go_wp2_with fail
  go_loopw [12,13] (fun s12 s13 wq=> ∃j:Nat,s12= .string (Aa (Ka (L.take j)))∧s13= .int .i64 j∧j≤k∧wq=w5) (fun _ s13 _=>match s13 with| .int _ n=>k - n.toNat|_=>0)
  case atStart=>exact⟨0,rfl,rfl,Nat.zero_le _,rfl⟩
  case round=>
   obtain⟨j,rfl,rfl,hj,rfl⟩:=hrel;have hkm:=HKM.out
   by_cases hjk:j<k
   ·obtain⟨tb,tof,rfl,htb,t0,t1,t2,t3⟩:=HZ4.out.at j (by omega)
    have hsl:=HWT.out (j+1) (by omega);have hsu:=nR L j (by omega);rw[hsu,Zb,Zb,List.length_singleton]at hsl;have n1:¬(9223372036854775807<(Ka (L.take j)).length+(Ld L j).text.length):=by omega
    have n2:¬(9223372036854775807<(Ka (L.take j)).length+(Ld L j).text.length+1):=by omega
    have hS1:Hid (Aa (Ka (L.take j))++Aa (Ld L j).text++⟨#[10]⟩=Aa (Ka (L.take (j+1)))):=Za (by
     show Aa (Ka (L.take j))++Aa (Ld L j).text++Aa [10]=_
     rw[Pv,Pv,hsu,List.append_assoc])
    have hjI:(j:Int)<(k:Int):=by omega
    have hjm:(j:Int)<(m:Int)+1:=by omega
    clear hsl hsu t0 t2 t3;generalize Ka (L.take j)=A at*;generalize (Ld L j).text=B at*;go_wp2_with fail
    go_roundw
    case rel=>exact⟨j+1,congrArg Value.string hS1.out,rfl,hjk,by first|rfl|trivial⟩
    case measure=>simp;omega
   ·have hjk':j=k:=by omega
    subst hjk';have hw1:=HWT.out j hkm;have HP:=Za (HW.out j hkm);have n1:¬(9223372036854775807<(Ka (L.take j)).length+9):=by omega
    have HL5:=Za (HL.out.old HB4.out);clear hw1 hj hjk HW HWT;generalize Ka (L.take j)=A at*;go_wp2_with fail
    refine(HP.out _ HL5.out).mono ?_;rintro e w6 ⟨hb6,aa,an,ac,fa,fn,fc,rfl⟩;have hal:Below w6.heap.size w6 (w6.alloc (.cells #[.slice aa an ac,.slice fa fn fc] 34)):=bA;have hbb:=hb6.trans (hal.mono hb6.size);have HB7:=Za (HB4.out.trans (hbb.mono HB4.out.size));have HZ7:=Za (HZ4.out.old hbb);clear hb6 hal hbb HP HB4 HZ4 HL5;go_upto_region 15 with(fail)
    generalize w6.alloc (.cells #[.slice aa an ac,.slice fa fn fc] 34)=w7 at*;obtain⟨tb,tof,rfl,htb,t0,t1,t2,t3⟩:=HZ7.out.at j (by omega);have hjm:(j:Int)<(m:Int)+1:=by omega
    have e9:((j:Int)+1==(j:Int)+1)=true:=by simp
    have hlast:Hid (0<j→∃x:Bs,w7.cell? ⟨tb,tof+(j - 1)*4+1,none⟩=some (.string (Aa x))):=Za fun h0=>by
     obtain⟨tb',tof',h,_,_,s1,_⟩:=HZ7.out.at (j - 1) (by omega)
     cases h
     exact⟨_,s1⟩
    clear t2 t3 HZ7;generalize (Ld L j).kind=kk at*;generalize (Ld L j).text=tt at*
    by_cases hk2:kk=2
    ·cases c2:(tt==[101,108,115,101])with
     |true=>
      have c1:(kk==2)=true:=by rw[hk2];rfl
      clear hlast;go_wp2_with fail
      all_goals(go_ret;exact⟨rfl,HB7.out⟩)
     |false=>
      have c1:(kk==2)=true:=by rw[hk2];rfl
      by_cases h0:0<j
      ·obtain⟨x,hx⟩:=hlast h0
       have j0:(0:Int)<(j:Int):=by omega
       have j1:((j:Int)>0):=by omega
       have j2:((j:Int) - 1)=((j - 1:Nat):Int):=by omega
       have j3:(0:Int)≤(j:Int) - 1:=by omega
       have j4:(j:Int) - 1<(m:Int)+1:=by omega
       have j5:((j:Int) - 1).toNat=j - 1:=by omega
       clear hlast;go_wp2_with fail
       all_goals(go_ret;exact⟨rfl,HB7.out⟩)
      ·have j0:¬((0:Int)<(j:Int)):=by omega
       have j1:¬((j:Int)>0):=by omega
       clear hlast;go_wp2_with fail
       all_goals(go_ret;exact⟨rfl,HB7.out⟩)
    ·have c1:(kk==2)=false:=by rw[beq_eq_false_iff_ne];exact hk2
     by_cases h0:0<j
     ·obtain⟨x,hx⟩:=hlast h0
      have j0:(0:Int)<(j:Int):=by omega
      have j1:((j:Int)>0):=by omega
      have j2:((j:Int) - 1)=((j - 1:Nat):Int):=by omega
      have j3:(0:Int)≤(j:Int) - 1:=by omega
      have j4:(j:Int) - 1<(m:Int)+1:=by omega
      have j5:((j:Int) - 1).toNat=j - 1:=by omega
      clear hlast;go_wp2_with fail
      all_goals(go_ret;exact⟨rfl,HB7.out⟩)
     ·have j0:¬((0:Int)<(j:Int)):=by omega
      have j1:¬((j:Int)>0):=by omega
      clear hlast;go_wp2_with fail
      all_goals(go_ret;exact⟨rfl,HB7.out⟩)
 ·have a1:((tp.length:Int)>5000):=by omega
  have a2:((5000:Int)<(tp.length:Int)):=by omega
  clear h1 HSC HWB HWL;go_wp2_with fail
  go_ret
  exact⟨rfl,HB3.out⟩
end Go.Proofs.YtcfpfnoldgnloaaGreatDoor
namespace Go.Proofs.YtcfpfnoldgnloaaGreatDoor.wParseWhere
open Go.ChangeShapes Go.WideShapes Go.ChangeAt Go.RowKit
set_option maxRecDepth 100000
theorem own:ownKnob Tryz.prog.godebug=none:=by kernel_rfl
theorem Vh(H:Type)(enc:TypeId ×Value→H)(W:World)(base:Nat)(args:Array Value)(ds gs:List (DataW H))(before:List MemPlace)
  (hval:∀(j:Nat) t v,Tryz.f5.params[j]? =some t→args[j]? =some v→Value.okWide Tryz.prog W .any base t v)
  (hW:DataW.Whole enc Tryz.prog Tryz.f5.params.toList Rows.parseWhereSpec.vars false W args.toList ds gs before) (hsz:(DataW.weightsEach Tryz.prog (Tryz.f5.params.toList++(OpenSpec.ofChange Rows.parseWhereSpec).bare.plain.varTypes Tryz.prog) (ds++gs)).all (· ≤reachBytes)=true) (hL:laidMetH Tryz.prog Rows.parseWhereRow.laid W) (hsh:W.ShapedOpen Tryz.prog):
  Calls Tryz.prog 5 args W fun e W'=> ∃v,e= .returned v∧Rows.parseWhereSpec.post enc Tryz.prog Tryz.f5 false true false false W args v W':=by
 have hT:=zlib_of hL hsh;have hW':=hW;obtain⟨p,q,hA0,hV,rfl,hfz,hnd⟩:=hW;have hA:DataW.TrodAll enc Tryz.prog W 0 (fun _=>true) true Tryz.f5.params.toList args.toList ds p:=hA0;rw[Tryz.params5]at hA hval hsz;obtain⟨x0,vs0,d0,ds0,p0,q0,hargs,rfl,rfl,h0,r0⟩:=trodAll_cons hA;obtain⟨x1,vs1,d1,ds1,p1,q1,e1,rfl,rfl,h1,r1⟩:=trodAll_cons r0;obtain⟨rfl,rfl,rfl⟩:=trodAll_nil r1;subst e1;obtain rfl:args= #[x0,x1]:=by cases args;simp_all
 obtain⟨rfl,rfl⟩:=trodVars_none hV;obtain⟨raw0,hraw0,again0⟩:=qG (hval 0 38 x0 rfl rfl) h0;obtain⟨raw1,hx1,hraw1⟩:=aX (hval 1 3 x1 rfl rfl) h1;subst hx1;clear hA0;refine(gT raw0 x0 raw1 hraw1 W hraw0 hT).mono fun e W' ⟨he,hb⟩=> ?_
 subst he;exact⟨_,rfl,jZ (pa:=(p0++(p1++[]))) (pv:=[]) hW' (fun _ _ _=>trodAll_cons_mk (shut_bool Tryz.underlying4 _) trodAll_mk0) (fun sp hsp=>trodAll_cons_mk (again0 W' sp true hb (fun q hq=>hsp q (by simp [hq]))) (trodAll_cons_mk (zagain (by kernel_rfl) (of_decide_eq_true (by kernel_rfl)) h1 hb sp (fun q hq=>hsp q (by simp [hq]))) (trodAll_mk0))) (fun _ _=>rfl) rfl
  hb (ok_one (by kernel_rfl) rfl (okWide_bool_mk Tryz.underlying4 _))⟩
def tab1:DataW Unit→List Value
 | .lit (.int k n)=>[.int k n]
 | .agg l=>l.map fun| .lit (.int k n)=>Value.int k n|_=>undef
 |_=>[undef]
def pR:DataW Unit→Array Value
 | .agg l=>(l.flatMap tab1).toArray
 |_=> #[]
def Ui:DataW Unit→Value
 | .iface _ (.ptr (.agg [.lit (.string b)]))=> .string ⟨b.toArray⟩
 |_=>undef
noncomputable def lowB:Nat:=(World.holding Tryz.prog default ⟨#[],#[],[]⟩).heap.size
noncomputable def Rv (os:Os):World:=
 let h0:=(World.holding Tryz.prog os ⟨#[.cells #[Ui Rows.laid_strconv_ErrRange] 234,.cells #[Ui Rows.laid_strconv_ErrSyntax] 234],#[],[]⟩).heap
 let lay (g:Nat) (d:DataW Unit) (h:Array Obj):Array Obj:=h.modify g fun
  | .cells _ t frozen=> .cells (pR d) t frozen
  |o=>o
 let err (g:Nat) (b:Nat) (h:Array Obj):Array Obj:=h.modify g fun
  | .cells _ t frozen=> .cells #[.iface 232 (.pointer (some ⟨b,0,none⟩))] t frozen
  |o=>o
 {World.holding Tryz.prog os ⟨#[.cells #[Ui Rows.laid_strconv_ErrRange] 234,.cells #[Ui Rows.laid_strconv_ErrSyntax] 234],#[],[]⟩with heap:=lay 6 Rows.laid_math_bits_deBruijn32tab (lay 7 Rows.laid_math_bits_deBruijn64tab (lay 3 Rows.laid_internal_strconv_uint64pow10 (lay 2 Rows.laid_unicode_utf8_acceptRanges (lay 1 Rows.laid_unicode_utf8_first (err 5 lowB (err 4 (lowB+1) h0))))))}
theorem rF(os:Os):laidMet Tryz.prog Rows.parseWhereRow.laid ((Rv os).forCall (fun _ _=>0) ⟨#[],#[.slice none 0 0,.int .i64 0],[]⟩).memory:=
 laidMet_of_run' 8 (by kernel_rfl) (by kernel_rfl)
theorem reads(os:Os){H:Type}(enc:TypeId ×Value→H):∃places,DataW.whole enc Tryz.prog ((Rv os).forCall (fun _ _=>0) ⟨#[],#[.slice none 0 0,.int .i64 0],[]⟩).memory Tryz.f5.params.toList Rows.parseWhereSpec.vars false ((#[.slice none 0 0,.int .i64 0]:Array Value).toList) 8=some ([.nil,.lit (.int .i64 0)],[],places):=
 ⟨[],by kernel_rfl⟩
theorem lifted(os:Os)(started:os.Started)(H:Type)(enc:TypeId ×Value→H)(F:Stop.Interp):
  ReturnsInHanded {} Tryz.checked os 5 .any ((OpenSpec.ofChange Rows.parseWhereSpec).preRow enc Tryz.prog Tryz.f5 Rows.parseWhereRow.domain false Rows.parseWhereRow.laid) (((OpenSpec.ofChange Rows.parseWhereSpec).at F).post enc Tryz.prog Tryz.f5 false true false false):=by
 obtain⟨places,hx⟩:=reads os enc;refine returnsInHanded_of_row (C:=Tryz.checked) (s:=OpenSpec.ofChange Rows.parseWhereSpec) own started (by kernel_rfl) Tryz.func5
  (witness_row_at (enc:=enc) (C:=Tryz.checked) false (Rv os) #[.slice none 0 0,.int .i64 0] rfl (by kernel_rfl) (by kernel_rfl) (by kernel_rfl)
   (OpenSpec.preRow_of_cond 8 hx (by kernel_rfl) (fun k hk=>by cases hk) (by kernel_rfl) (rF os))) ?_
 intro W base args ds gs before hval hW _ _ hsz hL hsh _;exact Vh H enc W base args ds gs before hval hW hsz hL hsh
theorem said:Rows.ParseWhereSaid:=
 OpenClaim.holds_of_cond 5 Tryz.f5 rfl rfl rfl rfl rfl rfl rfl ⟨rfl,rfl,rfl,rfl,rfl⟩ rfl rfl rfl rfl rfl (by kernel_rfl) Tryz.func5 (by kernel_rfl)
  (of_decide_eq_true (by kernel_rfl)) (by unfold Func.isWrapper;first|(rw[if_pos (by decide+kernel)];kernel_rfl)|(rw[if_neg (by decide+kernel)];exact⟨rfl,rfl⟩))
  (fun os started H enc _ F=>by rw[OpenClaim.pre_eq_preRow];exact lifted os started H enc F)
theorem plain(f:FuncId)(fn:Func)(hf:Tryz.pinned.checked.prog.funcNamed "counterproof/counterprooflaw04.ParseWhere" =some f)(hfn:Tryz.pinned.checked.prog.funcs[f]? =some fn):
  true=Tryz.pinned.checked.prog.looks []∧∀(j:Nat) t,fn.params[j]? =some t→Tryz.pinned.checked.prog.wantsStandIn t=false:=by
 obtain rfl:f=5:=Option.some.inj ((show Tryz.prog.funcNamed "counterproof/counterprooflaw04.ParseWhere" =some 5 by kernel_rfl).symm.trans hf)|>.symm;obtain rfl:fn=Tryz.f5:=(Option.some.inj (Tryz.func5.symm.trans hfn)).symm;refine⟨by kernel_rfl,fun j t ht=> ?_⟩;rw[Tryz.params5]at ht;have hm:=Array.mem_of_getElem? ht;simp only[List.mem_toArray,List.mem_cons,List.not_mem_nil,or_false]at hm;rcases hm with rfl|rfl
 ·exact(show Tryz.prog.wantsStandIn 38=false by kernel_rfl)
 ·exact(show Tryz.prog.wantsStandIn 3=false by kernel_rfl)
end Go.Proofs.YtcfpfnoldgnloaaGreatDoor.wParseWhere
namespace Go.Proofs.YtcfpfnoldgnloaaGreatDoor
theorem parseWhere_card:Rows.ParseWhereCardSaid:=
 Claim7.holds_tied_plain_at .later [] _ _ _ _ wParseWhere.said (fun _ h=>by cases h) (by kernel_rfl) (fun _ h=>by cases h) parseWhere_row_tie rfl ⟨rfl,rfl⟩ (by kernel_rfl) rfl wParseWhere.plain (by kernel_rfl)
#print axioms parseWhere_card
end Go.Proofs.YtcfpfnoldgnloaaGreatDoor
