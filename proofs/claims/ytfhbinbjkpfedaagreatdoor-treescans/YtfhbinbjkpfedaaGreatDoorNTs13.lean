/-
  TreeScans: for every input the law returns true, and its arguments read afterwards as before: the row, the card. Condition: the tables that the row lists are laid as the program's text lays them.
-/
import Derived.Test.YtfhbinbjkpfedaaGreatDoorNTs12
import Derived.Test.YtfhbinbjkpfedaaGreatDoorNTs06
import Derived.Test.YtfhbinbjkpfedaaGreatDoorCards
import Derived.Test.YtfhbinbjkpfedaaGreatDoorTie
set_option linter.unusedVariables false
set_option linter.unusedSimpArgs false
namespace Go.Proofs.YtfhbinbjkpfedaaGreatDoor
open Go.RowKit Go.Proofs.Tryz
set_option maxHeartbeats 20000000
set_option maxRecDepth 100000
open Go.Lib renaming hid→Za
open Go.Proofs.Tryz renaming prog→Zb
open IntWalk renaming i64_in→Zc
theorem aT(b:Nat)(t:Int)(w:World)(hp:Be w b [] t):
  Calls Zb 33 #[.pointer (some ⟨b,0,none⟩)] w fun e w'=>e=.returned (.string (Aa []))∧Below b w w':=by
 obtain⟨p,v,hbk,hq,hown⟩:=hp;have hUS:∀(q:Option Addr) (W:World),(Builtin.unsafeString_ #[111,3] 9 #[.pointer q,.int .i64 0]).run Zb W=.ok (.string (Aa [])) W:=fun q W=>Lib.run_unsafeString_none W _ _ _ q
 have mixed:Tryz.prog.follows .mixedOrders=true:=by kernel_rfl
 have hbk':w.drew.heap[b]? =some (.cells #[p,v,.int .i64 t] 76 (0,0)):=hbk;have hbl:b<w.heap.size:=by
  rcases Nat.lt_or_ge b w.heap.size with h|h
  ·exact h
  ·rw[Array.getElem?_eq_none h]at hbk;simp at hbk
 rcases hown.2 with⟨rfl,_⟩|⟨g,cap,cur,rfl,hbg,hg,hnc,hcm,hcs,htake⟩
 ·have c1:w.drew.cell? ⟨b,1,none⟩=some (.slice none 0 0):=by rw[Lib.cell_of_heap hbk'];rfl
  have hSD:(Builtin.unsafeSliceData_ #[72] 111 #[.slice none 0 0]).run Zb w.drew=.ok (.pointer none) w.drew:=Lib.run_unsafeSliceData_nil _ _ _ _ _;clear hbk hown hq;go_enter func33,ntmps33
  go_wp2
  go_region_o
  all_goals(go_wp2;go_ret;exact⟨rfl,Below.drew (Below.refl b w)⟩)
 ·by_cases hz:cap=0
  ·subst hz
   have c1:w.drew.cell? ⟨b,1,none⟩=some (.slice (some ⟨g,0,none⟩) 0 0):=by rw[Lib.cell_of_heap hbk'];rfl
   have hg':w.drew.heap[g]? =some (.cells cur 5 (0,0)):=hg;have hSD:(Builtin.unsafeSliceData_ #[72] 111 #[.slice (some ⟨g,0,none⟩) 0 0]).run Zb w.drew=.ok (.pointer (some ⟨w.drew.heap.size,0,none⟩)) (w.drew.alloc (.view ⟨g,0,none⟩ 5)):=
    Lib.run_unsafeSliceData_zero _ _ _ _ underlying111 _ _ (5,cur.size) (by simp [World.shape?,hg'])
   have c2:w.cell? ⟨b,1,none⟩=some (.slice (some ⟨g,0,none⟩) 0 0):=c1;clear hbk hown hq hg hg' htake;go_enter func33,ntmps33
   go_wp2
   go_region_o
   all_goals(go_wp2;go_ret;exact⟨rfl,(Below.drew (Below.refl b w)).alloc (Nat.le_of_lt hbl) _⟩)
  ·have c1:w.drew.cell? ⟨b,1,none⟩=some (.slice (some ⟨g,0,none⟩) 0 cap):=by rw[Lib.cell_of_heap hbk'];rfl
   have hSD:(Builtin.unsafeSliceData_ #[72] 111 #[.slice (some ⟨g,0,none⟩) 0 cap]).run Zb w.drew=.ok (.pointer (some ⟨g,0,none⟩)) w.drew:=
    Lib.run_unsafeSliceData_row _ _ _ _ _ _ hz
   clear hbk hown hq hg htake;go_enter func33,ntmps33
   go_wp2
   go_region_o
   all_goals(go_wp2;go_ret;exact⟨rfl,Below.drew (Below.refl b w)⟩)
theorem dW(p:Pr)(sa sf:Value)(w:World)(hb:3<w.heap.size)(ht:Ct w)(ha:Br (· <w.heap.size) w p.arrays sa)(hf:Bj (· <w.heap.size) w p.funcs sf)(hr:Dp p=true)(hfit:Bw (Bz p).length):
  Calls Zb 9 #[.agg #[sa,sf]] w fun r w'=>r=.returned (.tuple #[.string (Aa (Bz p)),.int .i64 0])∧Below w.heap.size w w':=
 Rz p sa sf w hb ht ha hf hr (fun b W h=>by
  by_cases hn:Bz p=[]
  ·rw[hn]at h ⊢;exact aT b 0 W h
  ·exact Ml b _ _ _ h hn) hfit
theorem sts_n64 {D:Nat→Prop}{w:World}{l:List St}{v:Value}(h:Al D w l v):∀x,x∈l→Xe x:=by
 induction h with
 |mk l a cap b off sa st se hcap hfit ha h0 h1 h2 h3 h4 ea et ee ih1 ih2=>
  intro x hx;obtain⟨i,hi,rfl⟩:=List.getElem_of_mem hx;have e:Ff l i=l[i]:=by simp [Ff,List.getElem?_eq_getElem hi]
  have k1:=(ea i hi).n64;have k2:=ih1 i hi;have k3:=ih2 i hi;rw[e]at k1 k2 k3;generalize l[i]=y at k1 k2 k3;obtain⟨k,nm,args,thn,els⟩:=y;exact .mk k nm args thn els k1 k2 k3
theorem fus_n64 {D:Nat→Prop}{w:World}{l:List Fu}{v:Value}(h:Bj D w l v):∀g,g∈l→∀x,x∈g.body→Xe x:=by
 obtain⟨a,cap,b,off,pv,lv,bv,hv,h1,h2,h3,h4⟩:=h;intro g hg;obtain⟨i,hi,rfl⟩:=List.getElem_of_mem hg;have e:Cm l i=l[i]:=by simp [Cm,List.getElem?_eq_getElem hi]
 have:=sts_n64 (h4 i hi).2.2.2;rw[e]at this;exact this
theorem Rn(d:Fu):∀(l:List Fu) (k:Nat),k<l.length→Gc (l.take (k+1))=Gc (l.take k)+cU (l.getD k d)
 |[],k,h=>absurd h (by simp)
 |x::l,0,_=>by simp [Gc]
 |x::l,k+1,h=>by
  have:=Rn d l k (by simpa using h);rw[List.take_succ_cons,List.take_succ_cons,Gc,Gc,this,List.getD_cons_succ];omega
theorem Ma:∀(l:List Fu) (k:Nat),Gc (l.take k)≤Gc l
 |[],k=>by simp
 |x::l,0=>by simp [Gc]
 |x::l,k+1=>by rw[List.take_succ_cons,Gc,Gc];have:=Ma l k;omega
theorem eZ {D:Nat→Prop}{w:World}{l:List Fu}{v:Value}(h:Bj D w l v)(n:Nat):Bj D (w.drewN n) l v:=Bj.keep (w:=w) (w':=w.drewN n) (fun _ _ _ _ hx=>hx) h
theorem bE(raw:List Int)(free:Bool)(rv:Value)(w:World)(hr:Gv (· <w.heap.size) w raw rv)(hl:Kn w):
  Calls Zb 4 #[rv,.bool free] w fun e w'=>e=.returned (.bool true)∧Below w.heap.size w w':=by
 have HL:=Za hl;have HRA:=Za hr;clear hl hr;go_enter func4,ntmps4
 go_wp2_with fail
 refine(eC w HL.o.lt HL.o.pow).mono ?_;rintro e w1 ⟨rfl,hb1⟩;have HB1:=Za hb1;clear hb1;go_wp2_with fail
 refine(jL raw free rv w1 (Gv.old HB1.o HRA.o)).mono ?_;rintro e w2 ⟨va,vf,ds,rfl,hb2,ha2,hds,hd3,hf2⟩;have pr:=La raw free;have pl:Bw (Bz (Ie raw free)).length:=by have h1:=fD raw free;have h2:=gB;show _≤_;omega
 generalize Ie raw free=p at*;have hO:=Wi.of ha2 hds hd3 hf2;have HB2:=Za (HB1.o.trans (hb2.mono HB1.o.size));have PR:=Za pr;have PL:=Za pl;have HA:=Za hO.ars;have HF:=Za hO.fus;clear hb2 ha2 hds hd3 hf2 hO pr pl HB1 HRA;obtain⟨a1,a2,rfl⟩:=HA.o.shape;obtain⟨f1,f2,rfl⟩:=HF.o.shape;have hbA:Below w2.heap.size w2 (w2.alloc (.cells #[.slice a1 p.arrays.length a2,.slice f1 p.funcs.length f2] 27)):=bA;have HB3:=Za (HB2.o.trans (hbA.mono HB2.o.size));have HOP:=Za (Ag.new w2 [.slice a1 p.arrays.length a2,.slice f1 p.funcs.length f2] 27);have hz:w2.heap.size<(w2.alloc (.cells #[.slice a1 p.arrays.length a2,.slice f1 p.funcs.length f2] 27)).heap.size:=by simp
 have HA3:=Za ((HA.o.old hbA).mono (D':=(· <(w2.alloc (.cells #[.slice a1 p.arrays.length a2,.slice f1 p.funcs.length f2] 27)).heap.size)) (fun b hb=>Nat.lt_trans hb hz));have HF3:=Za ((Bj.old hbA HF.o).mono (D':=(· <(w2.alloc (.cells #[.slice a1 p.arrays.length a2,.slice f1 p.funcs.length f2] 27)).heap.size)) (fun b hb=>Nat.lt_trans hb hz));have la:=HA.o.fits.lt;have lf:=HF.o.fits.lt;clear hbA hz HA HF HB2;go_upto_region 3 with(fail)
 generalize w2.alloc (.cells #[.slice a1 p.arrays.length a2,.slice f1 p.funcs.length f2] 27)=w3 at*;generalize w2.heap.size=pb at*;have q0:=HOP.o.at 0 _ rfl;have q1:=HOP.o.at 1 _ rfl;have HL3:=Za (HL.o.old HB3.o);have HPR:=Za (dW p _ _ w3 HL3.o.lt HL3.o.pow HA3.o HF3.o PR.out PL.out);clear HL3;go_wp2_with fail
 refine HPR.o.mono ?_;rintro e w4 ⟨rfl,hb4⟩;have HB4:=Za (HB3.o.trans (hb4.mono HB3.o.size));have HOP4:=Za (HOP.o.old hb4);have HF4:=Za ((Bj.old hb4 HF3.o).mono (D':=fun _=>True) (fun _ _=>trivial));clear hb4 q0 q1 HPR HB3 HOP HA3 HF3;have q0:=HOP4.o.at 0 _ rfl;have q1:=HOP4.o.at 1 _ rfl;have htl:=PL.out.out;have hsz:(Aa (Bz p)).size=(Bz p).length:=by show(Bz p).toArray.size=_;simp
 by_cases hgt:(Bz p).length≤20000
 ·have hle:¬(((Aa (Bz p)).size:Int)>20000):=by omega
  have hlt':¬((20000:Int)<((Aa (Bz p)).size:Int)):=by omega
  have hnf:=pr_nf PR.out;have hfl:=iD (Bz p);have hsm:p.arrays.length+Gc p.funcs≤20000:=by omega
  have HLL:=Za (HL.o.old HB4.o);have HTS:=Za (fun w hl=>ts_scan PR.out (fus_n64 HF4.o) hgt w hl);clear hnf hfl hgt hsz htl PL PR HL;generalize Aa (Bz p)=S at*;go_wp2_with fail
  go_loopw [9,10] (fun s9 s10 wr=> ∃k A:Nat,k≤p.funcs.length∧s10=.int .i64 k∧s9=.int .i64 A∧A=p.arrays.length+Gc (p.funcs.take k)∧∃n,wr=w4.drewN n) (fun _ s10 _=>p.funcs.length-(intOf s10).toNat)
  case atStart=>exact⟨0,p.arrays.length,Nat.zero_le _,rfl,rfl,by simp [Gc],0,rfl⟩
  case round=>
   obtain⟨k,A,hk,rfl,rfl,hA,hn⟩:=hrel;have HN:=Za hn;have HFW:Hid (Bj (fun _=>True) wr p.funcs (.slice f1 p.funcs.length f2)):=by obtain⟨n,rfl⟩:=hn;exact eZ HF4.o n
   have r0:wr.cell? ⟨pb,0,none⟩=some (.slice a1 p.arrays.length a2):=by obtain⟨n,rfl⟩:=hn;exact q0
   have r1:wr.cell? ⟨pb,1,none⟩=some (.slice f1 p.funcs.length f2):=by obtain⟨n,rfl⟩:=hn;exact q1
   clear hn q0 q1
   by_cases hlt:k<p.funcs.length
   ·obtain⟨fb,off,pv,lv,sv,rfl,hD,hfb,c0,c1,c2,c3,h1,h2,h3⟩:=HFW.o.cellAt k hlt
    obtain⟨l1,l2,rfl⟩:=h2.shape;have hnext:Gc (p.funcs.take (k+1))=Gc (p.funcs.take k)+cU (Cm p.funcs k):=Rn Fu.nil p.funcs k hlt;have hle2:=Ma p.funcs (k+1);have hfu:cU (Cm p.funcs k)=2+(Cm p.funcs k).locals.length+Cd (Cm p.funcs k).body:=rfl;have l63:=h2.fits.lt;have HC1:Hid (∀m,Calls Zb 22 #[sv] (wr.drewN m) fun e w'=>e=.returned (.int .i64 (Cd (Cm p.funcs k).body))∧∃n,w'=(wr.drewN m).drewN n):=fun m=>ln_any _ _ _ _ (Ls h3 m) (by omega)
    clear h1 h2 h3 hD HFW c0 c1;generalize Cm p.funcs k=x at*;generalize x.locals.length=L at*;generalize Cd x.body=B at*;have HM:Hid (A+2+L+B=p.arrays.length+Gc (p.funcs.take (k+1))):=by show _=_;omega
    have b0:(A:Int)≤20000:=by omega
    have b1:(L:Int)≤20000:=by omega
    have b2:(B:Int)≤20000:=by omega
    have b3:(0:Int)≤(A:Int):=by omega
    have b4:(0:Int)≤(L:Int):=by omega
    have b5:(0:Int)≤(B:Int):=by omega
    have i0:(0:Int)≤(k:Int):=by omega
    have i1:(k:Int)<(p.funcs.length:Int):=by omega
    have S1:IntKind.i64.wrap ((A:Int)+2)=(A:Int)+2:=Zc _ (by omega);have S2:IntKind.i64.wrap ((A:Int)+2+(L:Int))=(A:Int)+2+(L:Int):=Zc _ (by omega);have S3:IntKind.i64.wrap ((A:Int)+2+(L:Int)+(B:Int))=(A:Int)+2+(L:Int)+(B:Int):=Zc _ (by omega);clear hA hnext hle2 hfu hsm;go_wp2_with fail
    go_quiet ((go_at_call 22;exact Calls.quiet_of (HC1.o _)))
    have HN2:Hid (∃n,wr.drewN nq=w4.drewN n):=by obtain⟨n,hn⟩:=HN.o;exact⟨_,by rw[hn,World.drewN_drewN]⟩
    go_wp2_with fail
    go_roundw
    case rel=>exact⟨k+1,A+2+L+B,by omega,by go_num,by go_num,HM.o,HN2.o⟩
    case measure=>simp [intOf];omega
   ·have e:p.funcs.take k=p.funcs:=List.take_of_length_le (by omega)
    rw[e]at hA;have HBW:Hid (Below w.heap.size w wr):=by obtain⟨n,hn⟩:=HN.o;rw[hn];exact Jg HB4.o n
    have HLW:Hid (Kn wr):=by obtain⟨n,hn⟩:=HN.o;rw[hn];exact HLL.o.old (Jg (Below.refl _ _) n)
    have HT:=Za (HTS.o wr HLW.o);clear HTS HLL HLW HFW e HN;have hAs:(A:Int)≤20000:=by omega
    have hA0:(0:Int)≤(A:Int):=by omega
    rw[←hA]at HT;clear hA hsm;go_wp2_with fail
    refine HT.o.mono ?_;rintro r w5 ⟨hb5,v,T,u,rfl,hT,hu,hTl⟩;obtain⟨t1,t2,rfl,hcap⟩:=hT.slice;have hll:(T++[u]).length=T.length+1:=by simp
    obtain⟨tb,tf,rfl,htb,k0,k1,k2,k3⟩:=hT.at T.length (by rw[hll];omega);have hat:Od (T++[u]) T.length=u:=by simp [Od]
    rw[hat,hu]at k3;rw[hll];have HB5:=Za (HBW.o.trans (hb5.mono HBW.o.size));clear hb5 hT hat hll k0 k1 k2 hu HT r0 r1 hcap;generalize T.length=n at*;have j0:(0:Int)≤(n:Int):=by omega
    have j1:(n:Int)≤20000:=by omega
    have e1:(((n+1:Nat):Int)>0):=by omega
    have e2:((0:Int)<((n+1:Nat):Int)):=by omega
    have S1:IntKind.i64.wrap (((n+1:Nat):Int)-1)=(n:Int):=by rw[show((n+1:Nat):Int)-1=(n:Int)by omega];exact Zc _ (by omega)
    have S2:IntKind.i64.wrap ((A:Int)+1)=((A+1:Nat):Int):=by rw[show((A+1:Nat):Int)=(A:Int)+1 by omega];exact Zc _ (by omega)
    have i1:(n:Int)<((n+1:Nat):Int):=by omega
    go_wp2_with fail
    go_ret
    exact⟨rfl,HB5.o⟩
 ·have hle:(((Aa (Bz p)).size:Int)>20000):=by omega
  have hlt':((20000:Int)<((Aa (Bz p)).size:Int)):=by omega
  clear hgt hsz htl;generalize Aa (Bz p)=S at*;go_wp2_with fail
  go_ret
  exact⟨rfl,HB4.o⟩
end Go.Proofs.YtfhbinbjkpfedaaGreatDoor
namespace Go.Proofs.YtfhbinbjkpfedaaGreatDoor.wTreeScans
open Go.ChangeShapes Go.WideShapes Go.ChangeAt Go.RowKit
set_option maxRecDepth 100000
theorem own:ownKnob Tryz.prog.godebug=none:=by kernel_rfl
theorem iR(H:Type)(enc:TypeId ×Value→H)(W:World)(base:Nat)(args:Array Value)(ds gs:List (DataW H))(before:List MemPlace)
  (hval:∀(j:Nat) t v,Tryz.f4.params[j]? =some t→args[j]? =some v→Value.okWide Tryz.prog W .any base t v)
  (hW:DataW.Whole enc Tryz.prog Tryz.f4.params.toList Rows.treeScansSpec.vars false W args.toList ds gs before) (hsz:(DataW.weightsEach Tryz.prog (Tryz.f4.params.toList++(OpenSpec.ofChange Rows.treeScansSpec).bare.plain.varTypes Tryz.prog) (ds++gs)).all (· ≤reachBytes)=true) (hL:laidMetH Tryz.prog Rows.treeScansRow.laid W) (hsh:W.ShapedOpen Tryz.prog):
  Calls Tryz.prog 4 args W fun e W'=> ∃v,e=.returned v∧Rows.treeScansSpec.post enc Tryz.prog Tryz.f4 false true false false W args v W':=by
 have hT:=zlib_of hL hsh;have hW':=hW;obtain⟨p,q,hA0,hV,rfl,hfz,hnd⟩:=hW;have hA:DataW.TrodAll enc Tryz.prog W 0 (fun _=>true) true Tryz.f4.params.toList args.toList ds p:=hA0;rw[Tryz.params4]at hA hval hsz;obtain⟨x0,vs0,d0,ds0,p0,q0,hargs,rfl,rfl,h0,r0⟩:=trodAll_cons hA;obtain⟨x1,vs1,d1,ds1,p1,q1,e1,rfl,rfl,h1,r1⟩:=trodAll_cons r0;obtain⟨rfl,rfl,rfl⟩:=trodAll_nil r1;subst e1;obtain rfl:args= #[x0,x1]:=by cases args;simp_all
 obtain⟨rfl,rfl⟩:=trodVars_none hV;obtain⟨raw0,hraw0,again0⟩:=iM (hval 0 22 x0 rfl rfl) h0;obtain⟨b1,rfl,rfl,rfl⟩:=open_bool Tryz.underlying4 (hval 1 4 x1 rfl rfl) h1;clear hA0;refine(bE raw0 b1 x0 W hraw0 hT).mono fun e W' ⟨he,hb⟩=>?_
 subst he;exact⟨_,rfl,Xv (pa:=(p0++([]++[]))) (pv:=[]) hW' (fun _ _ _=>trodAll_cons_mk (shut_bool Tryz.underlying4 _) trodAll_mk0) (fun sp hsp=>trodAll_cons_mk (again0 W' sp true hb (fun q hq=>hsp q (by simp [hq]))) (trodAll_cons_mk (shut_bool Tryz.underlying4 _) (trodAll_mk0))) (fun _ _=>rfl) rfl
  hb (ok_one (by kernel_rfl) rfl (okWide_bool_mk Tryz.underlying4 _))⟩
def tab1:DataW Unit→List Value
 |.lit (.int k n)=>[.int k n]
 |.agg l=>l.map fun|.lit (.int k n)=>Value.int k n|_=>undef
 |_=>[undef]
def jW:DataW Unit→Array Value
 |.agg l=>(l.flatMap tab1).toArray
 |_=> #[]
def Qj:DataW Unit→Value
 |.iface _ (.ptr (.agg [.lit (.string b)]))=>.string ⟨b.toArray⟩
 |_=>undef
noncomputable def lowB:Nat:=(World.holding Tryz.prog default ⟨#[],#[],[]⟩).heap.size
noncomputable def Oj (os:Os):World:=
 let h0:=(World.holding Tryz.prog os ⟨#[.cells #[Qj Rows.laid_strconv_ErrRange] 207,.cells #[Qj Rows.laid_strconv_ErrSyntax] 207],#[],[]⟩).heap
 let lay (g:Nat) (d:DataW Unit) (h:Array Obj):Array Obj:=h.modify g fun
  |.cells _ t frozen=>.cells (jW d) t frozen
  |o=>o
 let err (g:Nat) (b:Nat) (h:Array Obj):Array Obj:=h.modify g fun
  |.cells _ t frozen=>.cells #[.iface 205 (.pointer (some ⟨b,0,none⟩))] t frozen
  |o=>o
 {World.holding Tryz.prog os ⟨#[.cells #[Qj Rows.laid_strconv_ErrRange] 207,.cells #[Qj Rows.laid_strconv_ErrSyntax] 207],#[],[]⟩with heap:=lay 6 Rows.laid_math_bits_deBruijn32tab (lay 7 Rows.laid_math_bits_deBruijn64tab (lay 3 Rows.laid_internal_strconv_uint64pow10 (lay 2 Rows.laid_unicode_utf8_acceptRanges (lay 1 Rows.laid_unicode_utf8_first (err 5 lowB (err 4 (lowB+1) h0))))))}
theorem jD(os:Os):laidMet Tryz.prog Rows.treeScansRow.laid ((Oj os).forCall (fun _ _=>0) ⟨#[],#[.slice none 0 0,.bool false],[]⟩).memory:=
 laidMet_of_run' 8 (by kernel_rfl) (by kernel_rfl)
theorem reads(os:Os){H:Type}(enc:TypeId ×Value→H):∃places,DataW.whole enc Tryz.prog ((Oj os).forCall (fun _ _=>0) ⟨#[],#[.slice none 0 0,.bool false],[]⟩).memory Tryz.f4.params.toList Rows.treeScansSpec.vars false ((#[.slice none 0 0,.bool false]:Array Value).toList) 8=some ([.nil,.lit (.bool false)],[],places):=
 ⟨[],by kernel_rfl⟩
theorem lifted(os:Os)(started:os.Started)(H:Type)(enc:TypeId ×Value→H)(F:Stop.Interp):
  ReturnsInHanded {} Tryz.checked os 4 .any ((OpenSpec.ofChange Rows.treeScansSpec).preRow enc Tryz.prog Tryz.f4 Rows.treeScansRow.domain false Rows.treeScansRow.laid) (((OpenSpec.ofChange Rows.treeScansSpec).at F).post enc Tryz.prog Tryz.f4 false true false false):=by
 obtain⟨places,hx⟩:=reads os enc;refine returnsInHanded_of_row (C:=Tryz.checked) (s:=OpenSpec.ofChange Rows.treeScansSpec) own started (by kernel_rfl) Tryz.func4
  (witness_row_at (enc:=enc) (C:=Tryz.checked) false (Oj os) #[.slice none 0 0,.bool false] rfl (by kernel_rfl) (by kernel_rfl) (by kernel_rfl)
   (OpenSpec.preRow_of_cond 8 hx (by kernel_rfl) (fun k hk=>by cases hk) (by kernel_rfl) (jD os))) ?_
 intro W base args ds gs before hval hW _ _ hsz hL hsh _;exact iR H enc W base args ds gs before hval hW hsz hL hsh
theorem said:Rows.TreeScansSaid:=
 OpenClaim.holds_of_cond 4 Tryz.f4 rfl rfl rfl rfl rfl rfl rfl ⟨rfl,rfl,rfl,rfl,rfl⟩ rfl rfl rfl rfl rfl (by kernel_rfl) Tryz.func4 (by kernel_rfl)
  (of_decide_eq_true (by kernel_rfl)) (by unfold Func.isWrapper;first|(rw[if_pos (by decide+kernel)];kernel_rfl)|(rw[if_neg (by decide+kernel)];exact⟨rfl,rfl⟩))
  (fun os started H enc _ F=>by rw[OpenClaim.pre_eq_preRow];exact lifted os started H enc F)
theorem plain(f:FuncId)(fn:Func)(hf:Tryz.pinned.checked.prog.funcNamed "counterproof/counterprooflaw03.TreeScans" =some f)(hfn:Tryz.pinned.checked.prog.funcs[f]? =some fn):
  true=Tryz.pinned.checked.prog.looks []∧∀(j:Nat) t,fn.params[j]? =some t→Tryz.pinned.checked.prog.wantsStandIn t=false:=by
 obtain rfl:f=4:=Option.some.inj ((show Tryz.prog.funcNamed "counterproof/counterprooflaw03.TreeScans" =some 4 by kernel_rfl).symm.trans hf)|>.symm;obtain rfl:fn=Tryz.f4:=(Option.some.inj (Tryz.func4.symm.trans hfn)).symm;refine⟨by kernel_rfl,fun j t ht=>?_⟩;rw[Tryz.params4]at ht;have hm:=Array.mem_of_getElem? ht;simp only[List.mem_toArray,List.mem_cons,List.not_mem_nil,or_false]at hm;rcases hm with rfl|rfl
 ·exact(show Tryz.prog.wantsStandIn 22=false by kernel_rfl)
 ·exact(show Tryz.prog.wantsStandIn 4=false by kernel_rfl)
end Go.Proofs.YtfhbinbjkpfedaaGreatDoor.wTreeScans
namespace Go.Proofs.YtfhbinbjkpfedaaGreatDoor
theorem treeScans_card:Rows.TreeScansCardSaid:=
 Claim7.holds_tied_plain_at .later [] _ _ _ _ wTreeScans.said (fun _ h=>by cases h) (by kernel_rfl) (fun _ h=>by cases h) treeScans_row_tie rfl ⟨rfl,rfl⟩ (by kernel_rfl) rfl wTreeScans.plain (by kernel_rfl)
#print axioms treeScans_card
end Go.Proofs.YtfhbinbjkpfedaaGreatDoor
