/-
  Right trees have the shapes that texts are made of. Plain functions alone.
-/
import Derived.Test.YtfhbinbjkpfedaaGreatDoorTT13
set_option linter.unusedVariables false
set_option linter.unusedSimpArgs false
namespace Go.Proofs.YtfhbinbjkpfedaaGreatDoor
open Go.RowKit Go.Proofs.Tryz
set_option maxHeartbeats 20000000
set_option maxRecDepth 100000
open Go.Lib renaming hid→Za
open Go.Proofs.Tryz renaming prog→Zb
open Below renaming refl→Zc
open Nat renaming zero_le→Zd,lt_succ_iff_lt_or_eq→Zl,le_refl→Zn
open Bk renaming old→Ze
open World renaming cell?_alloc_lt→Zf,drewN_drewN→Zm,block_lt_of_cell?→Zs
open List renaming mem_cons_self→Zg,length_eq_one_iff→Zj,sizeOf_lt_of_mem→Zk,take_of_length_le→Zp,length_eq_zero_iff→Zr
open Ay renaming old→Zh
open IntWalk renaming i64_in→Zi
open Int renaming reduceEq→Zo
open Bool renaming and_eq_true→Zq
theorem Tv {D:Nat→Prop}{w:World}{l:List Ex}{v:Value}(h:Aj D w l v)(n:Nat):Aj D (w.drewN n) l v:=Aj.keep (w:=w) (w':=w.drewN n) (fun _ _ _ _ hx=>hx) h
theorem Ns:∀l:List Ex,l.length≤Ah l
 |[]=>Zd _
 |x::l=>by rw[Ah,Hc,List.length_cons];have:=Ns l;omega
theorem Ng:∀l:List St,l.length≤Ai l
 |[]=>Zd _
 |x::l=>by rw[Ai,Mk,List.length_cons];have:=Ng l;omega
def CeOf(l:List Ex):Prop:= ∀(D:Nat→Prop) (v:Value) (w:World),Aj D w l v→Ah l≤1152921504606846976→
 Calls Zb 81 #[v] w fun e w'=>e=.returned (.int .i64 (Ah l))∧∃n,w'=w.drewN n
theorem ce_step(l:List Ex)(ih:∀x,x∈l→CeOf x.args):CeOf l:=by
 intro D v w h hs;obtain⟨a,c,rfl⟩:=h.shape;have l63:=h.fits.lt;have hlen:=Ns l;have H:=Za h;have IH:=Za ih;have HS:=Za hs;clear h ih hs;have HLN:=Za hlen;clear hlen;go_enter func81,ntmps81
 go_wp2_with fail
 go_loopw [3,4] (fun s3 s4 wr=> ∃k A:Nat,k≤l.length∧s4=.int .i64 k∧s3=.int .i64 A∧A+k=l.length+Ah (l.take k)∧∃n,wr=w.drewN n) (fun _ s4 _=>l.length-(intOf s4).toNat)
 case atStart=>exact⟨0,l.length,Zd _,rfl,rfl,by simp [Ah],0,rfl⟩
 case round=>
  obtain⟨k,A,hk,rfl,rfl,hA,hn⟩:=hrel;have HN:=Za hn;have HAW:Hid (Aj D wr l (.slice a l.length c)):=by obtain⟨n,rfl⟩:=hn;exact Tv H.out n
  clear hn
  by_cases hlt:k<l.length
  ·obtain⟨eb,off,es,rfl,hD,c0,c1,c2,c3,c4,hes,hn64⟩:=Aj.cellAt HAW.o k hlt
   obtain⟨t1,t2,rfl⟩:=hes.shape;have hnext:Ah (l.take (k+1))=Ah (l.take k)+Bj (Ao l k):=Mc l Ex.nil k hlt;rw[Hc]at hnext;have hle:=Jx l (k+1);have hsm:=HS.o;have hll:=HLN.o;rw[hnext]at hle;have HC1:=Za (IH.out _ (Bf hlt) D _ wr hes (by omega));have HM:Hid (A+Ah (Ao l k).args+(k+1)=l.length+Ah (l.take (k+1))):=by show _=_;rw[hnext];omega
   clear hes hD hn64 HAW IH hnext;generalize Ao l k=x at*;generalize hT:Ah x.args=T at*;clear hT;have b0:(A:Int)≤2305843009213693952:=by omega
   have b1:(T:Int)≤1152921504606846976:=by omega
   have b3:(0:Int)≤(A:Int):=by omega
   have b4:(0:Int)≤(T:Int):=by omega
   have i1:(k:Int)<(l.length:Int):=by omega
   have S1:IntKind.i64.wrap ((A:Int)+(T:Int))=(A:Int)+(T:Int):=Zi _ (by omega);clear hA hle hsm hll;go_wp2_with fail
   refine HC1.o.mono ?_;rintro e w2 ⟨rfl,n2,hn2⟩;have HN2:Hid (∃n,w2=w.drewN n):=by obtain⟨n,hn⟩:=HN.o;exact⟨_,by rw[hn2,hn,Zm]⟩
   clear hn2 HC1 HN c0 c1 c2 c3 c4;go_wp2_with fail
   go_roundw
   case rel=>exact⟨k+1,A+T,by omega,by go_num,by go_num,HM.o,HN2.o⟩
   case measure=>simp [intOf];omega
  ·have e:l.take k=l:=Zp (by omega)
   have hAe:A=Ah l:=by rw[e]at hA;omega
   subst hAe;clear e;go_wp2_with fail
   go_ret
   exact⟨rfl,HN.o⟩
theorem kK:∀(n:Nat) (l:List Ex),SizeOf.sizeOf l≤n→CeOf l
 |0,l,h=>by cases l<;>simp at h
 |n+1,l,h=>ce_step l fun x hx=>kK n x.args (by
   have h1:=Zk hx;have h2:SizeOf.sizeOf x.args<SizeOf.sizeOf x:=by cases x;simp only[Ex.args,Ex.mk.sizeOf_spec];omega
   omega)
theorem ce_any(l:List Ex):CeOf l:=kK _ l (Zn _)
def kL(l:List St):Prop:= ∀(D:Nat→Prop) (v:Value) (w:World),Ap D w l v→Ai l≤1152921504606846976→
 Calls Zb 43 #[v] w fun e w'=>e=.returned (.int .i64 (Ai l))∧∃n,w'=w.drewN n
theorem cb_step(l:List St)(iht:∀x,x∈l→kL x.thn)(ihe:∀x,x∈l→kL x.els):kL l:=by
 intro D v w h hs;obtain⟨a,c,rfl⟩:=h.shape;have l63:=h.fits.lt;have hlen:=Ng l;have H:=Za h;have IHT:=Za iht;have IHE:=Za ihe;have HS:=Za hs;clear h iht ihe hs;have HLN:=Za hlen;clear hlen;go_enter func43,ntmps43
 go_wp2_with fail
 go_loopw [3,4] (fun s3 s4 wr=> ∃k A:Nat,k≤l.length∧s4=.int .i64 k∧s3=.int .i64 A∧A+k=l.length+Ai (l.take k)∧∃n,wr=w.drewN n) (fun _ s4 _=>l.length-(intOf s4).toNat)
 case atStart=>exact⟨0,l.length,Zd _,rfl,rfl,by simp [Ai],0,rfl⟩
 case round=>
  obtain⟨k,A,hk,rfl,rfl,hA,hn⟩:=hrel;have HN:=Za hn;have HAW:Hid (Ap D wr l (.slice a l.length c)):=by obtain⟨n,rfl⟩:=hn;exact Dc H.out n
  clear hn
  by_cases hlt:k<l.length
  ·obtain⟨eb,off,es,et,ee,rfl,hD,hebl,c0,c1,c2,c3,c4,hes,het,hee⟩:=Ap.cellAt HAW.o k hlt
   obtain⟨s1,s2,rfl⟩:=hes.shape;obtain⟨t1,t2,rfl⟩:=het.shape;obtain⟨u1,u2,rfl⟩:=hee.shape;have HEX:=Za hes;have HET:=Za het;have HEE:=Za hee;have IHTX:=Za (IHT.out _ (Dy hlt));have IHEX:=Za (IHE.out _ (Dy hlt));have hnext:Ai (l.take (k+1))=Ai (l.take k)+Dh (Db l k):=Me l St.nil k hlt;rw[Mk]at hnext;have hle:=Jp l (k+1);have hsm:=HS.o;have hll:=HLN.o;rw[hnext]at hle;have HC0:Hid (∀m,Calls Zb 81 #[.slice s1 (Db l k).args.length s2] (wr.drewN m) fun e w'=>e=.returned (.int .i64 (Ah (Db l k).args))∧∃n,w'=(wr.drewN m).drewN n):=fun m=>ce_any _ D _ _ (Tv HEX.o m) (by omega)
   have HC1:Hid (∀m,Calls Zb 43 #[.slice t1 (Db l k).thn.length t2] (wr.drewN m) fun e w'=>e=.returned (.int .i64 (Ai (Db l k).thn))∧∃n,w'=(wr.drewN m).drewN n):=fun m=>IHTX.out D _ _ (Dc HET.o m) (by omega)
   have HC2:Hid (∀m,Calls Zb 43 #[.slice u1 (Db l k).els.length u2] (wr.drewN m) fun e w'=>e=.returned (.int .i64 (Ai (Db l k).els))∧∃n,w'=(wr.drewN m).drewN n):=fun m=>IHEX.out D _ _ (Dc HEE.o m) (by omega)
   have HM:Hid (A+Ah (Db l k).args+Ai (Db l k).thn+Ai (Db l k).els+(k+1)=l.length+Ai (l.take (k+1))):=by show _=_;rw[hnext];omega
   clear hes het hee hD hebl HAW IHT IHE IHTX IHEX HEX HET HEE hnext;generalize Db l k=x at*;generalize hX:Ah x.args=X at*;generalize hT:Ai x.thn=T at*;generalize hE:Ai x.els=E at*;generalize x.args.length=al at*;generalize x.thn.length=tl at*;generalize x.els.length=ul at*;clear hX hT hE;have b0:(A:Int)≤2305843009213693952:=by omega
   have b1:(X:Int)+(T:Int)+(E:Int)≤1152921504606846976:=by omega
   have b3:(0:Int)≤(A:Int):=by omega
   have b4:(0:Int)≤(X:Int):=by omega
   have b5:(0:Int)≤(T:Int):=by omega
   have b6:(0:Int)≤(E:Int):=by omega
   have i1:(k:Int)<(l.length:Int):=by omega
   have S1:IntKind.i64.wrap ((A:Int)+(X:Int))=(A:Int)+(X:Int):=Zi _ (by omega);have S2:IntKind.i64.wrap ((A:Int)+(X:Int)+(T:Int))=(A:Int)+(X:Int)+(T:Int):=Zi _ (by omega);have S3:IntKind.i64.wrap ((A:Int)+(X:Int)+(T:Int)+(E:Int))=(A:Int)+(X:Int)+(T:Int)+(E:Int):=Zi _ (by omega);clear hA hle hsm hll;go_wp2_with fail
   go_quiet (first|(go_at_call 81;with_reducible exact Calls.quiet_of (HC0.o _))|(go_at_call 43;first|(with_reducible exact Calls.quiet_of (HC1.o _))|(with_reducible exact Calls.quiet_of (HC2.o _))))
   have HN2:Hid (∃n,wr.drewN nq=w.drewN n):=by obtain⟨n,hn⟩:=HN.o;exact⟨_,by rw[hn,Zm]⟩
   clear c0 c1 c2 c3 c4 HC0 HC1 HC2 HN;go_wp2_with fail
   go_roundw
   case rel=>exact⟨k+1,A+X+T+E,by omega,by go_num,by go_num,HM.o,HN2.o⟩
   case measure=>simp [intOf];omega
  ·have e:l.take k=l:=Zp (by omega)
   have hAe:A=Ai l:=by rw[e]at hA;omega
   subst hAe;clear e;go_wp2_with fail
   go_ret
   exact⟨rfl,HN.o⟩
theorem aX:∀(n:Nat) (l:List St),SizeOf.sizeOf l≤n→kL l
 |0,l,h=>by cases l<;>simp at h
 |n+1,l,h=>cb_step l
  (fun x hx=>aX n x.thn (by
   have h1:=Zk hx
   cases x with
   |mk k nm us t e=>show SizeOf.sizeOf t≤n;simp at h1;omega))
  (fun x hx=>aX n x.els (by
   have h1:=Zk hx
   cases x with
   |mk k nm us t e=>show SizeOf.sizeOf e≤n;simp at h1;omega))
theorem cb_any(l:List St):kL l:=aX _ l (Zn _)
theorem dY(p:Pr)(D:Nat→Prop)(sa sf:Value)(w:World)(ha:Bp D w p.arrays sa)(hf:Bk D w p.funcs sf)(hs:Fv p≤1152921504606846976):
  Calls Zb 14 #[.agg #[sa,sf]] w fun e w'=>e=.returned (.int .i64 (Fv p))∧Below w.heap.size w w':=by
 obtain⟨a1,a2,rfl⟩:=ha.shape;obtain⟨f1,f2,rfl⟩:=hf.shape;have la:=ha.fits.lt;have lf:=hf.fits.lt;have E:Hid (Fv p=By p.funcs):=rfl;have HS:Hid (By p.funcs≤1152921504606846976):=hs;have hbA:Below w.heap.size w (w.alloc (.cells #[.slice a1 p.arrays.length a2,.slice f1 p.funcs.length f2] 27)):=bA;have GB1:=Za hbA;have GO1:=Za (Al.new w [.slice a1 p.arrays.length a2,.slice f1 p.funcs.length f2] 27);have GF1:=Za (Ze hbA hf);clear hbA ha hf hs;go_enter func14,ntmps14
 go_upto_region 1 with(fail)
 generalize w.alloc (.cells #[.slice a1 p.arrays.length a2,.slice f1 p.funcs.length f2] 27)=W1 at*;go_wp2_with fail
 go_loopw [3,4] (fun s3 s4 wr=> ∃k:Nat,k≤p.funcs.length∧s4=.int .i64 k∧s3=.int .i64 (By (p.funcs.take k))∧Hid (Below w.heap.size w wr)∧Hid (Al wr w.heap.size [.slice a1 p.arrays.length a2,.slice f1 p.funcs.length f2] 27)∧Hid (Bk D wr p.funcs (.slice f1 p.funcs.length f2))) (fun _ s4 _=>p.funcs.length-(intOf s4).toNat)
 case atStart=>exact⟨0,Zd _,rfl,rfl,GB1,GO1,GF1⟩
 case round=>
  obtain⟨k,hk,rfl,rfl,GB,GO,GF⟩:=hrel;clear GB1 GO1 GF1;have q1:=GO.out.at 1 _ rfl
  by_cases hlt:k<p.funcs.length
  ·have hkI:(k:Int)<(p.funcs.length:Int):=by omega
   obtain⟨fb,off,pv,lv,sv,rfl,hD,hfb,c0,c1,c2,c3,h1,h2,h3⟩:=GF.out.cellAt k hlt;have hnext:By (p.funcs.take (k+1))=By (p.funcs.take k)+Ai (Bc p.funcs k).body:=Mh p.funcs Fu.nil k hlt;have hle:=Jy p.funcs (k+1);have hsm:=HS.o;have HC:=Za (cb_any _ D _ wr h3 (by omega));have HM:Hid (By (p.funcs.take k)+Ai (Bc p.funcs k).body=By (p.funcs.take (k+1))):=hnext.symm;rw[hnext]at hle;clear h1 h2 h3 hD hfb hnext;generalize By (p.funcs.take k)=A at*;generalize Ai (Bc p.funcs k).body=B at*;have b0:(A:Int)≤1152921504606846976:=by omega
   have b1:(B:Int)≤1152921504606846976:=by omega
   have b3:(0:Int)≤(A:Int):=by omega
   have b4:(0:Int)≤(B:Int):=by omega
   have S1:IntKind.i64.wrap ((A:Int)+(B:Int))=(A:Int)+(B:Int):=Zi _ (by omega);clear hle hsm;go_wp2_with fail
   refine HC.o.mono ?_;rintro e w2 ⟨rfl,n,hw2⟩;have hb2:Below wr.heap.size wr w2:=by rw[hw2];have h:=Zc wr.heap.size wr;exact⟨h.os,h.tape,h.output,h.size,h.block⟩
   have GB2:=Za (GB.out.trans (hb2.mono GB.out.size));have GO2:=Za (GO.out.old hb2);have GF2:=Za (Ze hb2 GF.out);clear hb2 hw2 HC q1 c0 c1 c2 c3 GB GO GF;go_wp2_with fail
   go_roundw
   case rel=>exact⟨k+1,by omega,by go_num,by rw[←HM.o];go_num,GB2,GO2,GF2⟩
   case measure=>simp [intOf];omega
  ·have e:p.funcs.take k=p.funcs:=Zp (by omega)
   rw[e];clear e;go_wp2_with fail
   go_ret
   exact⟨by rw[E.out];rfl,GB.out⟩
theorem Hq {D:Nat→Prop}{w:World}{l:List Bs}{v:Value}(h:Ay D w l v)(n:Nat):Ay D (w.drewN n) l v:=Ay.keep (w:=w) (w':=w.drewN n) (fun _ _ _ _ hx=>hx) h
theorem Uk(la lb:List Bs):(la==lb)=Bg (fun a b=>a==b) la lb:=by
 induction la generalizing lb with
 |nil=>cases lb<;>rfl
 |cons x la ih=>cases lb with
  |nil=>rfl
  |cons y lb=>rw[Bg,←ih];rfl
theorem Np(la lb:List Bs)(D:Nat→Prop)(va vb:Value)(w:World)(ha:Ay D w la va)(hb:Ay D w lb vb):
  Calls Zb 50 #[va,vb] w fun e w'=>e=.returned (.bool (la==lb))∧∃n,w'=w.drewN n:=by
 obtain⟨a1,a2,rfl⟩:=ha.shape;obtain⟨b1,b2,rfl⟩:=hb.shape;have l63:=ha.fits.lt;have m63:=hb.fits.lt;rw[Uk]
 by_cases hl:lb.length=la.length
 ·have HA:=Za ha;have HB:=Za hb;have HL:=Za hl
  rw[hl]at HB ⊢;clear ha hb hl m63;go_enter func50,ntmps50
  go_wp2_with fail
  go_loopw [5] (fun s5 wr=> ∃k:Nat,k≤la.length∧s5=.int .i64 k∧(∀i,i<k→(la.getD i []==lb.getD i [])=true)∧∃n,wr=w.drewN n) (fun s5 _=>la.length-(intOf s5).toNat)
  case atStart=>exact⟨0,Zd _,rfl,fun i hi=>by omega,0,rfl⟩
  case round=>
   obtain⟨k,hk,rfl,hno,hn⟩:=hrel;have HNO:=Za hno;have HN:=Za hn;have HAW:Hid (Ay D wr la (.slice a1 la.length a2)):=by obtain⟨n,rfl⟩:=hn;exact Hq HA.o n
   have HBW:Hid (Ay D wr lb (.slice b1 la.length b2)):=by obtain⟨n,rfl⟩:=hn;exact Hq HB.o n
   clear hno hn
   by_cases hlt:k<la.length
   ·obtain⟨xa,xb,xc,xd,e1,e2,e3,e4,e5⟩:=HAW.o
    obtain⟨ya,yb,yc,yd,f1,f2,f3,f4,f5⟩:=HBW.o
    cases e1
    injection f1 with q1 q2 q3
    subst q1 q3;clear q2;obtain⟨rfl,_⟩:=e4.resolve_left (by omega);obtain⟨rfl,_⟩:=f4.resolve_left (by have:=HL.o;omega);have a0:=e5 k hlt;have b0:=f5 k (by rw[HL.o];exact hlt);clear e2 e3 e4 e5 f2 f3 f4 f5 HAW HBW;have HKL:=Za hlt;have i0:(0:Int)≤(k:Int):=by omega
    have i1:(k:Int)<(la.length:Int):=by omega
    obtain⟨x,hx⟩:∃x,la.getD k []=x:=⟨_,rfl⟩;obtain⟨y,hy⟩:∃y,lb.getD k []=y:=⟨_,rfl⟩;rw[hx]at a0;rw[hy]at b0;have HX:=Za hx;have HY:=Za hy;clear hx hy;go_wp2_with fail
    go_quiet (fail)
    cases hq:x==y
    ·go_wp2_with fail
     go_ret
     obtain⟨n0,hn0⟩:=HN.o;exact⟨Af (Dl _ [] la lb k HL.o.symm HKL.o (by rw[HX.o,HY.o];exact hq)).symm,_,by rw[hn0,Zm]⟩
    ·go_wp2_with fail
     go_roundw
     case rel=>exact⟨k+1,by omega,by go_num,fun i hi=>by rcases Zl.1 hi with h|rfl;exact HNO.o i h;rw[HX.o,HY.o];exact hq,by obtain⟨n0,hn0⟩:=HN.o;exact⟨_,by rw[hn0,Zm]⟩⟩
     case measure=>simp [intOf];omega
   ·go_wp2_with fail
    go_ret
    exact⟨Af (Dz _ [] la lb HL.o.symm (fun i hi=>HNO.o i (by omega))).symm,HN.o⟩
 ·have hne:((la.length:Int) !=(lb.length:Int))=true:=by rw[bne_iff_ne];omega
  have E:Hid (Bg (fun a b:Bs=>a==b) la lb=false):=Ft _ _ _ (by omega);clear ha hb hl;go_enter func50,ntmps50
  go_wp2_with fail
  go_ret
  exact⟨Af E.out.symm,0,rfl⟩
theorem Hd {B:Nat}{a w:World}(h:Below B a w)(n:Nat):Below B a (w.drewN n):=⟨h.os,h.tape,h.output,h.size,h.block⟩
theorem Ql {p q:Pr}(h:p.arrays.length≠q.arrays.length∨p.funcs.length≠q.funcs.length):Fh p q=false:=by
 cases e:Fh p q
 ·rfl
 ·have:=(Ks p q).1 e
  subst this;rcases h with h|h<;>exact absurd rfl h
theorem Mt(p q:Pr):Fh p q=(Bg Ep p.arrays q.arrays && Bg Eb p.funcs q.funcs):=by
 unfold Fh;rw[Lk,Ll]
theorem eT(p q:Pr)(D:Nat→Prop)(sa sf ta tf:Value)(w:World)(ha:Bp D w p.arrays sa)(hf:Bk D w p.funcs sf)(ha':Bp D w q.arrays ta)(hf':Bk D w q.funcs tf):
  Calls Zb 16 #[.agg #[sa,sf],.agg #[ta,tf]] w fun r w'=>r=.returned (.bool (Fh p q))∧Below w.heap.size w w':=by
 obtain⟨a1,a2,rfl⟩:=ha.shape;obtain⟨f1,f2,rfl⟩:=hf.shape;obtain⟨b1,b2,rfl⟩:=ha'.shape;obtain⟨g1,g2,rfl⟩:=hf'.shape;have la:=ha.fits.lt;have lf:=hf.fits.lt;have lb:=ha'.fits.lt;have lg:=hf'.fits.lt;have hb1:Below w.heap.size w (w.alloc (.cells #[.slice a1 p.arrays.length a2,.slice f1 p.funcs.length f2] 27)):=bA;have hO1:=Al.new w [.slice a1 p.arrays.length a2,.slice f1 p.funcs.length f2] 27;have hz1:(w.alloc (.cells #[.slice a1 p.arrays.length a2,.slice f1 p.funcs.length f2] 27)).heap.size=w.heap.size+1:=by simp
 obtain⟨W1,hW1⟩:∃W,w.alloc (.cells #[.slice a1 p.arrays.length a2,.slice f1 p.funcs.length f2] 27)=W:=⟨_,rfl⟩;have hb2:Below W1.heap.size W1 (W1.alloc (.cells #[.slice b1 q.arrays.length b2,.slice g1 q.funcs.length g2] 27)):=bA;have hO2:=Al.new W1 [.slice b1 q.arrays.length b2,.slice g1 q.funcs.length g2] 27;rw[hW1]at hb1 hO1 hz1;have hbb:=hb1.trans (hb2.mono (by omega));have GB1:=Za hbb;have GP1:=Za (hO1.old hb2);have GQ1:=Za hO2;have GA:=Za (ha.old hbb);have GF:=Za (Ze hbb hf);have GA':=Za (ha'.old hbb);have GF':=Za (Ze hbb hf');rw[←hW1]at GB1 GP1 GQ1 GA GF GA' GF';clear hb1 hb2 hbb hO1 hO2 ha hf ha' hf' hz1 hW1 W1;have hz:(w.alloc (.cells #[.slice a1 p.arrays.length a2,.slice f1 p.funcs.length f2] 27)).heap.size=w.heap.size+1:=by simp
 rw[hz]at GQ1;clear hz;go_enter func16,ntmps16
 go_upto_region 1 with(fail)
 generalize (w.alloc (.cells #[.slice a1 p.arrays.length a2,.slice f1 p.funcs.length f2] 27)).alloc (.cells #[.slice b1 q.arrays.length b2,.slice g1 q.funcs.length g2] 27)=W2 at*;have q0:=GP1.out.at 0 _ rfl;have q1:=GP1.out.at 1 _ rfl;have r0:=GQ1.out.at 0 _ rfl;have r1:=GQ1.out.at 1 _ rfl
 by_cases hla:p.arrays.length=q.arrays.length
 ·by_cases hlf:p.funcs.length=q.funcs.length
  ·have HLA:=Za hla
   have HLF:=Za hlf;rw[←hla]at r0;rw[←hlf]at r1;have GPF:Hid (∀w',Below W2.heap.size W2 w'→Al w' w.heap.size [.slice a1 p.arrays.length a2,.slice f1 p.funcs.length f2] 27):=fun w' h=>GP1.out.old h
   have GQF:Hid (∀w',Below W2.heap.size W2 w'→Al w' (w.heap.size+1) [.slice b1 p.arrays.length b2,.slice g1 p.funcs.length g2] 27):=fun w' h=>by rw[hla,hlf];exact GQ1.out.old h
   have GFF:Hid (∀w',Below W2.heap.size W2 w'→Bk D w' p.funcs (.slice f1 p.funcs.length f2)):=fun w' h=>Ze h GF.out
   have GFG:Hid (∀w',Below W2.heap.size W2 w'→Bk D w' q.funcs (.slice g1 p.funcs.length g2)):=fun w' h=>by rw[hlf];exact Ze h GF'.out
   have GAA:Hid (Bp D W2 q.arrays (.slice b1 p.arrays.length b2)):=by rw[hla];exact GA'.out
   clear hla hlf lb lg GP1 GQ1 GF GF' GA';go_wp2_with fail
   go_loopw [5] (fun s5 wr=> ∃k:Nat,k≤p.arrays.length∧s5=.int .i64 k∧Hid (∀i,i<k→Ep (Dj p.arrays i) (Dj q.arrays i)=true)∧∃n,wr=W2.drewN n) (fun s5 _=>p.arrays.length-(intOf s5).toNat)
   case atStart=>exact⟨0,Zd _,rfl,fun i hi=>absurd hi (by omega),0,rfl⟩
   case round=>
    obtain⟨k,hk,rfl,HI,hn⟩:=hrel;have HN:=Za hn;have u0:wr.cell? ⟨w.heap.size,0,none⟩=some (.slice a1 p.arrays.length a2):=by obtain⟨n,rfl⟩:=hn;exact q0
    have v0:wr.cell? ⟨w.heap.size+1,0,none⟩=some (.slice b1 p.arrays.length b2):=by obtain⟨n,rfl⟩:=hn;exact r0
    by_cases hlt:k<p.arrays.length
    ·have hkI:(k:Int)<(p.arrays.length:Int):=by omega
     have HLT:=Za hlt;obtain⟨b,off,rfl,hD,hb,c0,c1⟩:=GA.out.cellAt k hlt;obtain⟨b',off',rfl,hD',hb',d0,d1⟩:=GAA.out.cellAt k (by rw[←HLA.o];exact hlt);have c0':wr.cell? ⟨b,off+k*2,none⟩=some (.string (Aa (Dj p.arrays k).name)):=by obtain⟨n,rfl⟩:=hn;exact c0
     have c1':wr.cell? ⟨b,off+k*2+1,none⟩=some (.int .i64 (Dj p.arrays k).size):=by obtain⟨n,rfl⟩:=hn;exact c1
     have d0':wr.cell? ⟨b',off'+k*2,none⟩=some (.string (Aa (Dj q.arrays k).name)):=by obtain⟨n,rfl⟩:=hn;exact d0
     have d1':wr.cell? ⟨b',off'+k*2+1,none⟩=some (.int .i64 (Dj q.arrays k).size):=by obtain⟨n,rfl⟩:=hn;exact d1
     have HNX:Hid (Ep (Dj p.arrays k) (Dj q.arrays k)=true→∀i,i<k+1→Ep (Dj p.arrays i) (Dj q.arrays i)=true):=fun h i hi=>by
      rcases Zl.1 hi with h'|h'
      ·exact HI.o i h'
      ·subst h';exact h
     have HBD:Hid (Ep (Dj p.arrays k) (Dj q.arrays k)=false→Fh p q=false):=fun h=>by
      rw[Mt,Dl Ep Ar.nil _ _ k HLA.o HLT.o h];rfl
     have HB:Hid (Below w.heap.size w wr):=by obtain⟨n,rfl⟩:=hn;exact Hd GB1.out n
     have HR:Hid (Ep (Dj p.arrays k) (Dj q.arrays k)=((Dj p.arrays k).name==(Dj q.arrays k).name && (Dj p.arrays k).size==(Dj q.arrays k).size)):=rfl;clear hD hb hD' hb' c0 c1 d0 d1 hn HI q0 q1 r0 r1;generalize Ep (Dj p.arrays k) (Dj q.arrays k)=rx at*;generalize (Dj p.arrays k).name=xn at*;generalize (Dj p.arrays k).size=xs at*;generalize (Dj q.arrays k).name=yn at*;generalize (Dj q.arrays k).size=ys at*
     cases e1:xn==yn
     ·have HRF:Hid (rx=false):=by show _=_;rw[HR.o,e1];rfl
      clear HR;go_wp2_with fail
      go_quiet (fail)
      go_wp2_with fail
      go_ret
      exact⟨Af (HBD.o HRF.o).symm,Hd HB.o _⟩
     ·cases e2:xs==ys
      ·have HRF:Hid (rx=false):=by show _=_;rw[HR.o,e1,e2];rfl
       clear HR;go_wp2_with fail
       go_quiet (fail)
       go_wp2_with fail
       go_ret
       exact⟨Af (HBD.o HRF.o).symm,Hd HB.o _⟩
      ·have HRT:Hid (rx=true):=by show _=_;rw[HR.o,e1,e2];rfl
       clear HR;obtain rfl:=eq_of_beq e1;obtain rfl:=eq_of_beq e2;clear e1 e2;go_wp2_with fail
       go_quiet (fail)
       have HN2:Hid (∃n,wr.drewN nq=W2.drewN n):=by obtain⟨n,hn⟩:=HN.o;exact⟨_,by rw[hn,Zm]⟩
       go_wp2_with fail
       go_roundw
       case rel=>exact⟨k+1,by omega,by go_num,HNX.o HRT.o,HN2.o⟩
       case measure=>simp [intOf];omega
    ·have HZA:Hid (Bg Ep p.arrays q.arrays=true):=Dz Ep Ar.nil _ _ HLA.o (fun i hi=>HI.o i (by omega))
     have HB:Hid (Below w.heap.size w wr):=by obtain⟨n,rfl⟩:=hn;exact Hd GB1.out n
     have HBW:Hid (Below W2.heap.size W2 wr):=by obtain⟨n,rfl⟩:=hn;exact Hd (Zc _ _) n
     clear HI hn HN q0 q1 r0 r1 GA GAA GB1;go_wp2_with fail
     go_loopw [6] (fun s6 wr'=> ∃k:Nat,k≤p.funcs.length∧s6=.int .i64 k∧Hid (∀i,i<k→Eb (Bc p.funcs i) (Bc q.funcs i)=true)∧Hid (Below w.heap.size w wr')∧Hid (Below W2.heap.size W2 wr')) (fun s6 _=>p.funcs.length-(intOf s6).toNat)
     case atStart=>exact⟨0,Zd _,rfl,fun i hi=>absurd hi (by omega),HB,HBW⟩
     case round=>
      clear u0 v0 HB HBW;obtain⟨k,hk,rfl,HI,GB,GW⟩:=hrel;have q1:=(GPF.out _ GW.out).at 1 _ rfl;have r1:=(GQF.out _ GW.out).at 1 _ rfl;have FF:=Za (GFF.out _ GW.out);have FG:=Za (GFG.out _ GW.out)
      by_cases hlt:k<p.funcs.length
      ·have hkI:(k:Int)<(p.funcs.length:Int):=by omega
       have HLT:=Za hlt;obtain⟨fb,fo,pv,lv,sv,rfl,hD,hfb,c0,c1,c2,c3,h1,h2,h3⟩:=FF.out.cellAt k hlt;obtain⟨gb,go,pv',lv',sv',rfl,hD',hgb,d0,d1,d2,d3,h1',h2',h3'⟩:=FG.out.cellAt k (by rw[←HLF.o];exact hlt);obtain⟨p1,p2,rfl⟩:=h1.shape;obtain⟨l1,l2,rfl⟩:=h2.shape;obtain⟨s1,s2,rfl⟩:=h3.shape;obtain⟨p3,p4,rfl⟩:=h1'.shape;obtain⟨l3,l4,rfl⟩:=h2'.shape;obtain⟨s3,s4,rfl⟩:=h3'.shape;have HNX:Hid (Eb (Bc p.funcs k) (Bc q.funcs k)=true→∀i,i<k+1→Eb (Bc p.funcs i) (Bc q.funcs i)=true):=fun h i hi=>by
        rcases Zl.1 hi with h'|h'
        ·exact HI.o i h'
        ·subst h';exact h
       have HBD:Hid (Eb (Bc p.funcs k) (Bc q.funcs k)=false→Fh p q=false):=fun h=>by
        rw[Mt,Dl Eb Fu.nil _ _ k HLF.o HLT.o h];simp
       have HR:Hid (Eb (Bc p.funcs k) (Bc q.funcs k)=((Bc p.funcs k).name==(Bc q.funcs k).name && ((Bc p.funcs k).params==(Bc q.funcs k).params) && ((Bc p.funcs k).locals==(Bc q.funcs k).locals) && Bg Bu (Bc p.funcs k).body (Bc q.funcs k).body)):=by
        show _=_;rw[Uk,Uk,←Ki,←Ki,←Gk];rfl
       have hbA:Below wr.heap.size wr (wr.alloc (.cells #[.string (Aa (Bc p.funcs k).name),.slice p1 (Bc p.funcs k).params.length p2,.slice l1 (Bc p.funcs k).locals.length l2,.slice s1 (Bc p.funcs k).body.length s2] 47)):=bA;have hOA:=Al.new wr [.string (Aa (Bc p.funcs k).name),.slice p1 (Bc p.funcs k).params.length p2,.slice l1 (Bc p.funcs k).locals.length l2,.slice s1 (Bc p.funcs k).body.length s2] 47;have hzA:(wr.alloc (.cells #[.string (Aa (Bc p.funcs k).name),.slice p1 (Bc p.funcs k).params.length p2,.slice l1 (Bc p.funcs k).locals.length l2,.slice s1 (Bc p.funcs k).body.length s2] 47)).heap.size=wr.heap.size+1:=by simp
       obtain⟨WA,hWA⟩:∃W,wr.alloc (.cells #[.string (Aa (Bc p.funcs k).name),.slice p1 (Bc p.funcs k).params.length p2,.slice l1 (Bc p.funcs k).locals.length l2,.slice s1 (Bc p.funcs k).body.length s2] 47)=W:=⟨_,rfl⟩;rw[hWA]at hbA hOA hzA;have r1A:=Ac hbA r1;have d0A:=Ac hbA d0;have d1A:=Ac hbA d1;have d2A:=Ac hbA d2;have d3A:=Ac hbA d3;have hbB:Below WA.heap.size WA (WA.alloc (.cells #[.string (Aa (Bc q.funcs k).name),.slice p3 (Bc q.funcs k).params.length p4,.slice l3 (Bc q.funcs k).locals.length l4,.slice s3 (Bc q.funcs k).body.length s4] 47)):=bA;have hOB:=Al.new WA [.string (Aa (Bc q.funcs k).name),.slice p3 (Bc q.funcs k).params.length p4,.slice l3 (Bc q.funcs k).locals.length l4,.slice s3 (Bc q.funcs k).body.length s4] 47;have hbb:=hbA.trans (hbB.mono (by omega));have EB:=Za (GB.out.trans (hbb.mono GB.out.size));have EW:=Za (GW.out.trans (hbb.mono GW.out.size));have EP:=Za (hOA.old hbB);have EQ:=Za hOB;have C1:Hid (∀W',(∃n,W'=(WA.alloc (.cells #[.string (Aa (Bc q.funcs k).name),.slice p3 (Bc q.funcs k).params.length p4,.slice l3 (Bc q.funcs k).locals.length l4,.slice s3 (Bc q.funcs k).body.length s4] 47)).drewN n)→Calls Zb 50 #[.slice p1 (Bc p.funcs k).params.length p2,.slice p3 (Bc q.funcs k).params.length p4] W' fun e w'=>e=.returned (.bool ((Bc p.funcs k).params==(Bc q.funcs k).params))∧∃n,w'=W'.drewN n):=by
        rintro W' ⟨n,rfl⟩;exact Np (Bc p.funcs k).params (Bc q.funcs k).params D _ _ _ (Hq (h1.old hbb) n) (Hq (h1'.old hbb) n)
       have C2:Hid (∀W',(∃n,W'=(WA.alloc (.cells #[.string (Aa (Bc q.funcs k).name),.slice p3 (Bc q.funcs k).params.length p4,.slice l3 (Bc q.funcs k).locals.length l4,.slice s3 (Bc q.funcs k).body.length s4] 47)).drewN n)→Calls Zb 50 #[.slice l1 (Bc p.funcs k).locals.length l2,.slice l3 (Bc q.funcs k).locals.length l4] W' fun e w'=>e=.returned (.bool ((Bc p.funcs k).locals==(Bc q.funcs k).locals))∧∃n,w'=W'.drewN n):=by
        rintro W' ⟨n,rfl⟩;exact Np (Bc p.funcs k).locals (Bc q.funcs k).locals D _ _ _ (Hq (h2.old hbb) n) (Hq (h2'.old hbb) n)
       have C3:Hid (∀W',(∃n,W'=(WA.alloc (.cells #[.string (Aa (Bc q.funcs k).name),.slice p3 (Bc q.funcs k).params.length p4,.slice l3 (Bc q.funcs k).locals.length l4,.slice s3 (Bc q.funcs k).body.length s4] 47)).drewN n)→Calls Zb 51 #[.slice s1 (Bc p.funcs k).body.length s2,.slice s3 (Bc q.funcs k).body.length s4] W' fun e w'=>e=.returned (.bool (Bg Bu (Bc p.funcs k).body (Bc q.funcs k).body))∧∃n,w'=W'.drewN n):=by
        rintro W' ⟨n,rfl⟩;exact gR (Bc p.funcs k).body (Bc q.funcs k).body D _ _ _ (Dc (h3.old hbb) n) (Dc (h3'.old hbb) n)
       rw[hzA]at EQ;rw[←hWA]at EB EW EP EQ C1 C2 C3 r1A d0A d1A d2A d3A;clear hbA hOA hzA hbB hOB hbb hWA WA hD hfb hD' hgb h1 h2 h3 h1' h2' h3' HI GB GW FF FG;generalize Eb (Bc p.funcs k) (Bc q.funcs k)=rx at*;generalize ((Bc p.funcs k).params==(Bc q.funcs k).params)=bp at*;generalize ((Bc p.funcs k).locals==(Bc q.funcs k).locals)=bl at*;generalize Bg Bu (Bc p.funcs k).body (Bc q.funcs k).body=bs at*;generalize (Bc p.funcs k).name=xn at*;generalize (Bc q.funcs k).name=yn at*;generalize (Bc p.funcs k).params.length=x1l at*;generalize (Bc p.funcs k).locals.length=x2l at*;generalize (Bc p.funcs k).body.length=x3l at*;generalize (Bc q.funcs k).params.length=y1l at*;generalize (Bc q.funcs k).locals.length=y2l at*;generalize (Bc q.funcs k).body.length=y3l at*;go_upto_region 13 with(fail)
       clear q1 r1 c0 c1 c2 c3 d0 d1 d2 d3 r1A d0A d1A d2A d3A;generalize (wr.alloc (.cells #[.string (Aa xn),.slice p1 x1l p2,.slice l1 x2l l2,.slice s1 x3l s2] 47)).alloc (.cells #[.string (Aa yn),.slice p3 y1l p4,.slice l3 y2l l4,.slice s3 y3l s4] 47)=W3 at*;generalize wr.heap.size=fb3 at*;have x0:=EP.out.at 0 _ rfl;have x1:=EP.out.at 1 _ rfl;have x2:=EP.out.at 2 _ rfl;have x3:=EP.out.at 3 _ rfl;have y0:=EQ.out.at 0 _ rfl;have y1:=EQ.out.at 1 _ rfl;have y2:=EQ.out.at 2 _ rfl;have y3:=EQ.out.at 3 _ rfl;have K1:=Za (C1.out W3 ⟨0,rfl⟩);go_wp2_with fail
       refine K1.out.mono ?_;rintro e w4 ⟨rfl,hw4⟩;have HW4:=Za hw4;have K2:=Za (C2.out w4 hw4);have z2:w4.cell? ⟨fb3,2,none⟩=some (.slice l1 x2l l2):=by obtain⟨n,rfl⟩:=hw4;exact x2
       have z2':w4.cell? ⟨fb3+1,2,none⟩=some (.slice l3 y2l l4):=by obtain⟨n,rfl⟩:=hw4;exact y2
       clear hw4 K1 C1 C2;go_wp2_with fail
       refine K2.out.mono ?_;rintro e w5 ⟨rfl,hw5⟩;have HW5:Hid (∃n,w5=W3.drewN n):=by obtain⟨n,hn⟩:=HW4.o;obtain⟨m,hm⟩:=hw5;exact⟨_,by rw[hm,hn,Zm]⟩
       have K3:=Za (C3.out w5 HW5.o);have z3:w5.cell? ⟨fb3,3,none⟩=some (.slice s1 x3l s2):=by obtain⟨n,hn⟩:=HW5.o;rw[hn];exact x3
       have z3':w5.cell? ⟨fb3+1,3,none⟩=some (.slice s3 y3l s4):=by obtain⟨n,hn⟩:=HW5.o;rw[hn];exact y3
       clear hw5 K2 C3 HW4 z2 z2';go_wp2_with fail
       refine K3.out.mono ?_;rintro e w6 ⟨rfl,hw6⟩;have HW6:Hid (∃n,w6=W3.drewN n):=by obtain⟨n,hn⟩:=HW5.o;obtain⟨m,hm⟩:=hw6;exact⟨_,by rw[hm,hn,Zm]⟩
       have z0:w6.cell? ⟨fb3,0,none⟩=some (.string (Aa xn)):=by obtain⟨n,hn⟩:=HW6.o;rw[hn];exact x0
       have z0':w6.cell? ⟨fb3+1,0,none⟩=some (.string (Aa yn)):=by obtain⟨n,hn⟩:=HW6.o;rw[hn];exact y0
       have GB6:Hid (Below w.heap.size w w6):=by obtain⟨n,hn⟩:=HW6.o;rw[hn];exact Hd EB.out n
       have GW6:Hid (Below W2.heap.size W2 w6):=by obtain⟨n,hn⟩:=HW6.o;rw[hn];exact Hd EW.out n
       clear hw6 K3 HW5 HW6 z3 z3' x0 x1 x2 x3 y0 y1 y2 y3 EB EW EP EQ
       cases bp
       ·have HRF:Hid (rx=false):=by show _=_;rw[HR.o];simp
        clear HR;go_wp2_with fail
        all_goals
         go_ret
         exact⟨Af (HBD.o HRF.o).symm,GB6.out⟩
       cases bl
       ·have HRF:Hid (rx=false):=by show _=_;rw[HR.o];simp
        clear HR;go_wp2_with fail
        all_goals
         go_ret
         exact⟨Af (HBD.o HRF.o).symm,GB6.out⟩
       cases bs
       ·have HRF:Hid (rx=false):=by show _=_;rw[HR.o];simp
        clear HR;go_wp2_with fail
        all_goals
         go_ret
         exact⟨Af (HBD.o HRF.o).symm,GB6.out⟩
       cases e1:xn==yn
       ·have HRF:Hid (rx=false):=by show _=_;rw[HR.o,e1];rfl
        clear HR;go_wp2_with fail
        go_ret
        exact⟨Af (HBD.o HRF.o).symm,GB6.out⟩
       ·have HRT:Hid (rx=true):=by show _=_;rw[HR.o,e1];rfl
        clear HR;go_wp2_with fail
        go_roundw
        case rel=>exact⟨k+1,by omega,by go_num,HNX.o HRT.o,GB6,GW6⟩
        case measure=>simp [intOf];omega
      ·have HZF:Hid (Bg Eb p.funcs q.funcs=true):=Dz Eb Fu.nil _ _ HLF.o (fun i hi=>HI.o i (by omega))
       clear HI;go_wp2_with fail
       go_ret
       exact⟨Af (by rw[Mt,HZA.o,HZF.o];rfl),GB.out⟩
  ·have E:Hid (Fh p q=false):=Ql (.inr hlf)
   have h1:((p.arrays.length:Int) !=(q.arrays.length:Int))=false:=by rw[hla];simp
   have h2:((p.funcs.length:Int) !=(q.funcs.length:Int))=true:=by rw[bne_iff_ne];omega
   clear hla hlf;go_wp2_with fail
   go_ret
   exact⟨Af E.out.symm,GB1.out⟩
 ·have E:Hid (Fh p q=false):=Ql (.inl hla)
  have h1:((p.arrays.length:Int) !=(q.arrays.length:Int))=true:=by rw[bne_iff_ne];omega
  clear hla;go_wp2_with fail
  go_ret
  exact⟨Af E.out.symm,GB1.out⟩
theorem Yl(b:Nat)(t:Int)(w:World)(hp:Bt w b [] t):
  Calls Zb 33 #[.pointer (some ⟨b,0,none⟩)] w fun e w'=>e=.returned (.string (Aa []))∧Below b w w':=by
 obtain⟨p,v,hbk,hq,hown⟩:=hp;have hUS:∀(q:Option Addr) (W:World),(Builtin.unsafeString_ #[111,3] 9 #[.pointer q,.int .i64 0]).run Zb W=.ok (.string (Aa [])) W:=fun q W=>Lib.run_unsafeString_none W _ _ _ q
 have mixed:Tryz.prog.follows .mixedOrders=true:=by kernel_rfl
 have hbk':w.drew.heap[b]? =some (.cells #[p,v,.int .i64 t] 76 (0,0)):=hbk;have hbl:b<w.heap.size:=by
  rcases Nat.lt_or_ge b w.heap.size with h|h
  ·exact h
  ·rw[Array.getElem?_eq_none h]at hbk;simp at hbk
 rcases hown.2 with⟨rfl,_⟩|⟨g,cap,cur,rfl,hbg,hg,hnc,hcm,hcs,htake⟩
 ·have c1:w.drew.cell? ⟨b,1,none⟩=some (.slice none 0 0):=by rw[Lib.cell_of_heap hbk'];rfl
  have hSD:(Builtin.unsafeSliceData_ #[72] 111 #[.slice none 0 0]).run Zb w.drew=.ok (.pointer none) w.drew:=Lib.run_unsafeSliceData_nil _ _ _ _ _;clear hbk hown hq;go_enter func33,ntmps33
  go_wp2
  go_region_o
  all_goals(go_wp2;go_ret;exact⟨rfl,Below.drew (Zc b w)⟩)
 ·by_cases hz:cap=0
  ·subst hz
   have c1:w.drew.cell? ⟨b,1,none⟩=some (.slice (some ⟨g,0,none⟩) 0 0):=by rw[Lib.cell_of_heap hbk'];rfl
   have hg':w.drew.heap[g]? =some (.cells cur 5 (0,0)):=hg;have hSD:(Builtin.unsafeSliceData_ #[72] 111 #[.slice (some ⟨g,0,none⟩) 0 0]).run Zb w.drew=.ok (.pointer (some ⟨w.drew.heap.size,0,none⟩)) (w.drew.alloc (.view ⟨g,0,none⟩ 5)):=
    Lib.run_unsafeSliceData_zero _ _ _ _ underlying111 _ _ (5,cur.size) (by simp [World.shape?,hg'])
   have c2:w.cell? ⟨b,1,none⟩=some (.slice (some ⟨g,0,none⟩) 0 0):=c1;clear hbk hown hq hg hg' htake;go_enter func33,ntmps33
   go_wp2
   go_region_o
   all_goals(go_wp2;go_ret;exact⟨rfl,(Below.drew (Zc b w)).alloc (Nat.le_of_lt hbl) _⟩)
  ·have c1:w.drew.cell? ⟨b,1,none⟩=some (.slice (some ⟨g,0,none⟩) 0 cap):=by rw[Lib.cell_of_heap hbk'];rfl
   have hSD:(Builtin.unsafeSliceData_ #[72] 111 #[.slice (some ⟨g,0,none⟩) 0 cap]).run Zb w.drew=.ok (.pointer (some ⟨g,0,none⟩)) w.drew:=
    Lib.run_unsafeSliceData_row _ _ _ _ _ _ hz
   clear hbk hown hq hg htake;go_enter func33,ntmps33
   go_wp2
   go_region_o
   all_goals(go_wp2;go_ret;exact⟨rfl,Below.drew (Zc b w)⟩)
theorem fC(p:Pr)(sa sf:Value)(w:World)(hb:3<w.heap.size)(ht:Da w)(ha:Bp (· <w.heap.size) w p.arrays sa)(hf:Bk (· <w.heap.size) w p.funcs sf)(hr:Cd p=true)(hfit:Ci (Dv p).length):
  Calls Zb 9 #[.agg #[sa,sf]] w fun r w'=>r=.returned (.tuple #[.string (Aa (Dv p)),.int .i64 0])∧Below w.heap.size w w':=
 Ro p sa sf w hb ht ha hf hr (fun b W h=>by
  by_cases hn:Dv p=[]
  ·rw[hn]at h ⊢;exact Yl b 0 W h
  ·exact Ms b _ _ _ h hn) hfit
def Kw(n:Nat):Prop:=n≤1152921504606846976
theorem Kw.out {n:Nat}(h:Kw n):n≤1152921504606846976:=h
def Qi(l:List Ex):Prop:= ∀(D:Nat→Prop) (v:Value) (w:World),Aj D w l v→Kw (Ah l)→
 Calls Zb 80 #[v] w fun e w'=>e=.returned (.int .i64 (Ah l))∧Below w.heap.size w w'
theorem bJ(l:List Ex)(ih:∀x,x∈l→Qi x.args):Qi l:=by
 intro D v w h hs;obtain⟨a,c,rfl⟩:=h.shape;have l63:=h.fits.lt;have H:=Za h;have IH:=Za ih;have HS:=Za hs;clear h ih hs;go_enter func80,ntmps80
 go_wp2_with fail
 go_loopw [2,4,7] (fun s2 _ s7 wr=> ∃k:Nat,k≤l.length∧s7=.int .i64 k∧s2=.int .i64 (Ah (l.take k))∧Below w.heap.size w wr) (fun _ _ s7 _=>l.length-(intOf s7).toNat)
 case atStart=>exact⟨0,Zd _,rfl,rfl,Zc _ _⟩
 case round=>
  obtain⟨k,hk,rfl,rfl,hb⟩:=hrel;have HB:=Za hb;have hsz:=hb.size;clear hb
  by_cases hlt:k<l.length
  ·obtain⟨eb,off,es,rfl,hD,c0,c1,c2,c3,c4,hes,hn⟩:=(H.out.old HB.o).cellAt k hlt
   obtain⟨ea,ec,rfl⟩:=hes.shape;have HES:=Za hes;have IHX:=Za (IH.out _ (Bf hlt));have hnext:Ah (l.take (k+1))=Ah (l.take k)+Bj (Ao l k):=Mc l Ex.nil k hlt;rw[Hc]at hnext;have HN:=Za hnext;have hle:=Jx l (k+1);have hsm:=HS.o.out;rw[hnext]at hle;have hebl:eb<wr.heap.size:=Zs _ _ c0;clear hes hn hD hnext;generalize Ah (l.take k)=A at*;generalize Ah l=T at*;generalize Ao l k=e at*;have HSX:Hid (Kw (Ah e.args)):=by show _≤_;omega
   have hA0:(0:Int)≤(A:Int):=by omega
   have hA1:(A:Int)≤1152921504606846976:=by omega
   have hE0:(0:Int)≤(Ah e.args:Int):=by omega
   have hE1:(Ah e.args:Int)≤1152921504606846976:=by omega
   have hww:Below wr.heap.size wr (wr.alloc (.cells #[.int .i64 e.kind,.int .i64 e.op,.int .i64 e.n,.string (Aa e.name),.slice ea e.args.length ec] 31)):=bA;have HW:=Za (HB.o.trans (hww.mono hsz));have HE2:=Za (HES.o.old hww);clear hww hle hsm;go_wp2_with fail
   refine(IHX.out D _ _ HE2.o HSX.o).mono ?_;rintro r w2 ⟨rfl,hb2⟩;have HB2:=Za (HW.o.trans (hb2.mono (by simp;omega)));clear hb2 c0 c1 c2 c3 c4;go_wp2_with fail
   go_roundw
   case rel=>exact⟨k+1,by omega,by go_num,by rw[HN.o];go_num,HB2.o⟩
   case measure=>simp [intOf];omega
  ·have e:l.take k=l:=Zp (by omega)
   rw[e];clear e;go_wp2_with fail
   go_ret
   exact⟨rfl,HB.o⟩
theorem Tu:∀(n:Nat) (l:List Ex),SizeOf.sizeOf l≤n→Qi l
 |0,l,h=>by cases l<;>simp at h
 |n+1,l,h=>bJ l fun x hx=>Tu n x.args (by
   have h1:=Zk hx;have h2:SizeOf.sizeOf x.args<SizeOf.sizeOf x:=by cases x;simp only[Ex.args,Ex.mk.sizeOf_spec];omega
   omega)
theorem eJ(l:List Ex):Qi l:=Tu _ l (Zn _)
def Nn(l:List St):Prop:= ∀(D:Nat→Prop) (v:Value) (w:World),Ap D w l v→Kw (Ai l)→
 Calls Zb 42 #[v] w fun e w'=>e=.returned (.int .i64 (Ai l))∧Below w.heap.size w w'
theorem eR(l:List St)(iht:∀x,x∈l→Nn x.thn)(ihe:∀x,x∈l→Nn x.els):Nn l:=by
 intro D v w h hs;obtain⟨a,c,rfl⟩:=h.shape;have l63:=h.fits.lt;have H:=Za h;have IHT:=Za iht;have IHE:=Za ihe;have HS:=Za hs;clear h iht ihe hs;go_enter func42,ntmps42
 go_wp2_with fail
 go_loopw [2,4,7] (fun s2 _ s7 wr=> ∃k:Nat,k≤l.length∧s7=.int .i64 k∧s2=.int .i64 (Ai (l.take k))∧Below w.heap.size w wr) (fun _ _ s7 _=>l.length-(intOf s7).toNat)
 case atStart=>exact⟨0,Zd _,rfl,rfl,Zc _ _⟩
 case round=>
  obtain⟨k,hk,rfl,rfl,hb⟩:=hrel;have HB:=Za hb;have hsz:=hb.size;clear hb
  by_cases hlt:k<l.length
  ·obtain⟨eb,off,es,et,ee,rfl,hD,hebl,c0,c1,c2,c3,c4,hes,het,hee⟩:=(H.out.old HB.o).cellAt k hlt
   obtain⟨a1,a2,rfl⟩:=hes.shape;obtain⟨t1,t2,rfl⟩:=het.shape;obtain⟨u1,u2,rfl⟩:=hee.shape;have IHTX:=Za (IHT.out _ (Dy hlt));have IHEX:=Za (IHE.out _ (Dy hlt));have hnext:Ai (l.take (k+1))=Ai (l.take k)+Dh (Db l k):=Me l St.nil k hlt;rw[Mk]at hnext;have HN:=Za hnext;have hle:=Jp l (k+1);have hsm:=HS.o.out;rw[hnext]at hle;have HES:=Za hes;have HET:=Za het;have HEE:=Za hee;clear hes het hee hD hnext;generalize Ai (l.take k)=A at*;generalize Ai l=T at*;generalize Db l k=x at*;have HSX:Hid (Kw (Ah x.args)):=by show _≤_;omega
   have HST:Hid (Kw (Ai x.thn)):=by show _≤_;omega
   have HSE:Hid (Kw (Ai x.els)):=by show _≤_;omega
   have hA0:(0:Int)≤(A:Int):=by omega
   have hA1:(A:Int)≤1152921504606846976:=by omega
   have hE0:(0:Int)≤(Ah x.args:Int):=by omega
   have hE1:(Ah x.args:Int)≤1152921504606846976:=by omega
   have hF0:(0:Int)≤(Ai x.thn:Int):=by omega
   have hF1:(Ai x.thn:Int)≤1152921504606846976:=by omega
   have hG0:(0:Int)≤(Ai x.els:Int):=by omega
   have hG1:(Ai x.els:Int)≤1152921504606846976:=by omega
   have hww:Below wr.heap.size wr (wr.alloc (.cells #[.int .i64 x.kind,.string (Aa x.name),.slice a1 x.args.length a2,.slice t1 x.thn.length t2,.slice u1 x.els.length u2] 56)):=bA;have g2:(wr.alloc (.cells #[.int .i64 x.kind,.string (Aa x.name),.slice a1 x.args.length a2,.slice t1 x.thn.length t2,.slice u1 x.els.length u2] 56)).cell? ⟨wr.heap.size,2,none⟩=some (.slice a1 x.args.length a2):=by simp
   have g3:(wr.alloc (.cells #[.int .i64 x.kind,.string (Aa x.name),.slice a1 x.args.length a2,.slice t1 x.thn.length t2,.slice u1 x.els.length u2] 56)).cell? ⟨wr.heap.size,3,none⟩=some (.slice t1 x.thn.length t2):=by simp
   have g4:(wr.alloc (.cells #[.int .i64 x.kind,.string (Aa x.name),.slice a1 x.args.length a2,.slice t1 x.thn.length t2,.slice u1 x.els.length u2] 56)).cell? ⟨wr.heap.size,4,none⟩=some (.slice u1 x.els.length u2):=by simp
   have HW:=Za hww;have HE2:=Za (HES.o.old hww);have HETF:Hid (∀w',Below wr.heap.size wr w'→Ap D w' x.thn (.slice t1 x.thn.length t2)):=fun w' h=>HET.o.old h
   have HEEF:Hid (∀w',Below wr.heap.size wr w'→Ap D w' x.els (.slice u1 x.els.length u2)):=fun w' h=>HEE.o.old h
   have CT:Hid (∀w',Below wr.heap.size wr w'→Calls Zb 42 #[.slice t1 x.thn.length t2] w' fun e w''=>e=.returned (.int .i64 (Ai x.thn))∧Below w'.heap.size w' w''):=fun w' h=>IHTX.out D _ _ (HETF.o w' h) HST.o
   have CE:Hid (∀w',Below wr.heap.size wr w'→Calls Zb 42 #[.slice u1 x.els.length u2] w' fun e w''=>e=.returned (.int .i64 (Ai x.els))∧Below w'.heap.size w' w''):=fun w' h=>IHEX.out D _ _ (HEEF.o w' h) HSE.o
   clear HET HEE HETF HEEF IHTX IHEX;have hXl:wr.heap.size<(wr.alloc (.cells #[.int .i64 x.kind,.string (Aa x.name),.slice a1 x.args.length a2,.slice t1 x.thn.length t2,.slice u1 x.els.length u2] 56)).heap.size:=by simp
   have S1:IntKind.i64.wrap (1+(Ah x.args:Int))=1+(Ah x.args:Int):=Zi _ (by omega);have S2:IntKind.i64.wrap (1+(Ah x.args:Int)+(Ai x.thn:Int))=1+(Ah x.args:Int)+(Ai x.thn:Int):=Zi _ (by omega);have S3:IntKind.i64.wrap (1+(Ah x.args:Int)+(Ai x.thn:Int)+(Ai x.els:Int))=1+(Ah x.args:Int)+(Ai x.thn:Int)+(Ai x.els:Int):=Zi _ (by omega);have S4:IntKind.i64.wrap ((A:Int)+(1+(Ah x.args:Int)+(Ai x.thn:Int)+(Ai x.els:Int)))=(A:Int)+(1+(Ah x.args:Int)+(Ai x.thn:Int)+(Ai x.els:Int)):=Zi _ (by omega);clear hww hle hsm;go_wp2_with fail
   generalize wr.alloc (.cells #[.int .i64 x.kind,.string (Aa x.name),.slice a1 x.args.length a2,.slice t1 x.thn.length t2,.slice u1 x.els.length u2] 56)=W' at*;clear c0 c1 c2 c3 c4 hebl;generalize wr.heap.size=X at*;have hdr:Below W'.heap.size W' W'.drew:=(Zc _ _).drew;have HE3:=Za (HE2.o.old hdr);have HWd:=Za (HW.o.trans (hdr.mono (Nat.le_of_lt hXl)));clear hdr HE2
   go_region_held3 (fun w'=>w'.cell? ⟨X,2,none⟩=some (.slice a1 x.args.length a2)∧w'.cell? ⟨X,3,none⟩=some (.slice t1 x.thn.length t2)∧w'.cell? ⟨X,4,none⟩=some (.slice u1 x.els.length u2)) (first|(simp [*,Zf];done)|go_keep) (first
    |(go_at_call 80;refine(eJ x.args D _ _ HE3.o HSX.o).mono ?_;rintro r w2 ⟨he,hb2⟩;subst he;have h2l:X<w2.heap.size:=(Nat.lt_of_lt_of_le hXl hb2.size);have p2:w2.cell? ⟨X,2,none⟩=some (.slice a1 x.args.length a2):=Ac hb2 g2;have p3:w2.cell? ⟨X,3,none⟩=some (.slice t1 x.thn.length t2):=Ac hb2 g3;have p4:w2.cell? ⟨X,4,none⟩=some (.slice u1 x.els.length u2):=Ac hb2 g4;have HB2:=Za (HWd.o.trans (hb2.mono (Nat.le_of_lt hXl)));clear hb2)
    |(go_at_call 42;(with_reducible refine(CT.out _ HB2.o).mono ?_);rintro r w3 ⟨he,hb3⟩;subst he;have p2':w3.cell? ⟨X,2,none⟩=some (.slice a1 x.args.length a2):=Ac hb3 p2;have p3':w3.cell? ⟨X,3,none⟩=some (.slice t1 x.thn.length t2):=Ac hb3 p3;have p4':w3.cell? ⟨X,4,none⟩=some (.slice u1 x.els.length u2):=Ac hb3 p4;have h3l:X<w3.heap.size:=(Nat.lt_of_lt_of_le h2l hb3.size);have HB3:=Za (HB2.o.trans (hb3.mono (Nat.le_of_lt h2l)));clear hb3)
    |(go_at_call 42;(with_reducible refine(CE.out _ HB3.o).mono ?_);rintro r w4 ⟨he,hb4⟩;subst he;have p2'':w4.cell? ⟨X,2,none⟩=some (.slice a1 x.args.length a2):=Ac hb4 p2';have p3'':w4.cell? ⟨X,3,none⟩=some (.slice t1 x.thn.length t2):=Ac hb4 p3';have p4'':w4.cell? ⟨X,4,none⟩=some (.slice u1 x.els.length u2):=Ac hb4 p4';have HB4:=Za (HB3.o.trans (hb4.mono (Nat.le_of_lt h3l)));clear hb4))
   go_wp2_with fail
   go_roundw
   case rel=>exact⟨k+1,by omega,by go_num,by rw[HN.o];go_num,HB.o.trans (HB4.o.mono hsz)⟩
   case measure=>simp [intOf];omega
  ·have e:l.take k=l:=Zp (by omega)
   rw[e];clear e;go_wp2_with fail
   go_ret
   exact⟨rfl,HB.o⟩
theorem Sf:∀(n:Nat) (l:List St),SizeOf.sizeOf l≤n→Nn l
 |0,l,h=>by cases l<;>simp at h
 |n+1,l,h=>eR l
  (fun x hx=>Sf n x.thn (by
   have h1:=Zk hx;have h2:SizeOf.sizeOf x.thn<SizeOf.sizeOf x:=by cases x;simp only[St.thn,St.mk.sizeOf_spec];omega
   omega))
  (fun x hx=>Sf n x.els (by
   have h1:=Zk hx;have h2:SizeOf.sizeOf x.els<SizeOf.sizeOf x:=by cases x;simp only[St.els,St.mk.sizeOf_spec];omega
   omega))
theorem iJ(l:List St):Nn l:=Sf _ l (Zn _)
theorem Ra(p:Pr)(D:Nat→Prop)(sa sf:Value)(w:World)(ha:Bp D w p.arrays sa)(hf:Bk D w p.funcs sf)(hs:Kw (Fv p)):
  Calls Zb 13 #[.agg #[sa,sf]] w fun r w'=>r=.returned (.int .i64 (Fv p))∧Below w.heap.size w w':=by
 obtain⟨a1,a2,rfl⟩:=ha.shape;obtain⟨f1,f2,rfl⟩:=hf.shape;have lf:=hf.fits.lt;have HF:=Za hf;have HS:=Za hs;have HB0:Hid (Below w.heap.size w (w.alloc (.cells #[.slice a1 p.arrays.length a2,.slice f1 p.funcs.length f2] 27))):=bA;clear ha hf hs;unfold Fv at*;go_enter func13,ntmps13
 go_wp2_with fail
 go_loopw [2,4,8] (fun s2 _ s8 wr=> ∃k:Nat,k≤p.funcs.length∧s8=.int .i64 k∧s2=.int .i64 (By (p.funcs.take k))∧Below w.heap.size w wr) (fun _ _ s8 _=>p.funcs.length-(intOf s8).toNat)
 case atStart=>exact⟨0,Zd _,rfl,rfl,HB0.o⟩
 case round=>
  obtain⟨k,hk,rfl,rfl,hb⟩:=hrel;have HB:=Za hb;have hsz:=hb.size;clear hb
  by_cases hlt:k<p.funcs.length
  ·obtain⟨eb,off,es,et,ee,rfl,hD,hebl,c0,c1,c2,c3,hes,het,hee⟩:=Bk.cellAt (Ze HB.o HF.o) k hlt
   obtain⟨p1,p2,rfl⟩:=hes.shape;obtain⟨v1,v2,rfl⟩:=het.shape;obtain⟨s1,s2,rfl⟩:=hee.shape;have HES:=Za hee;have hnext:By (p.funcs.take (k+1))=By (p.funcs.take k)+Ai (Bc p.funcs k).body:=Mh p.funcs Fu.nil k hlt;have HN:=Za hnext;have hle:=Jy p.funcs (k+1);have hsm:=HS.o.out;rw[hnext]at hle;clear hes het hee hD hnext;generalize By (p.funcs.take k)=A at*;generalize By p.funcs=T at*;generalize Bc p.funcs k=x at*;have HSX:Hid (Kw (Ai x.body)):=by show _≤_;omega
   have hA0:(0:Int)≤(A:Int):=by omega
   have hA1:(A:Int)≤1152921504606846976:=by omega
   have hE0:(0:Int)≤(Ai x.body:Int):=by omega
   have hE1:(Ai x.body:Int)≤1152921504606846976:=by omega
   have hww:Below wr.heap.size wr (wr.alloc (.cells #[.string (Aa x.name),.slice p1 x.params.length p2,.slice v1 x.locals.length v2,.slice s1 x.body.length s2] 47)):=bA;have HW:=Za (HB.o.trans (hww.mono hsz));have HE2:=Za (HES.o.old hww);clear hww hle hsm;go_wp2_with fail
   refine(iJ x.body D _ _ HE2.o HSX.o).mono ?_;rintro r w2 ⟨rfl,hb2⟩;have HB2:=Za (HW.o.trans (hb2.mono (by simp;omega)));clear hb2 c0 c1 c2 c3;go_wp2_with fail
   go_roundw
   case rel=>exact⟨k+1,by omega,by go_num,by rw[HN.o];go_num,HB2.o⟩
   case measure=>simp [intOf];omega
  ·have e:p.funcs.take k=p.funcs:=Zp (by omega)
   rw[e];clear e;go_wp2_with fail
   go_ret
   exact⟨rfl,HB.o⟩
def Lb(a:Ex):Prop:= ∀(b:Ex) (D:Nat→Prop) (sa sb:Value) (w:World),Aj D w a.args sa→Aj D w b.args sb→
 Calls Zb 83 #[exV a sa,exV b sb] w fun e w'=>e=.returned (.bool (Do a b))∧Below w.heap.size w w'
theorem Rq(la:List Ex)(ih:∀x,x∈la→Lb x)(lb:List Ex)(D:Nat→Prop)(va vb:Value)(w:World)(ha:Aj D w la va)(hb:Aj D w lb vb):
  Calls Zb 82 #[va,vb,.func (.func 83) #[] #[]] w fun e w'=>e=.returned (.bool (Bg Do la lb))∧Below w.heap.size w w':=by
 obtain⟨a1,a2,rfl⟩:=ha.shape;obtain⟨b1,b2,rfl⟩:=hb.shape;have l63:=ha.fits.lt;have m63:=hb.fits.lt
 by_cases hl:lb.length=la.length
 ·rw[hl]at hb ⊢
  have HA:=Za ha;have HB:=Za hb;have IH:=Za ih;have HL:=Za hl;clear ha hb ih hl m63;go_enter func82,ntmps82
  go_wp2_with fail
  go_loopw [7,8,9,17] (fun _ _ _ s17 wr=> ∃k:Nat,k≤la.length∧s17=.int .i64 k∧(∀i,i<k→Do (la.getD i Ex.nil) (lb.getD i Ex.nil)=true)∧Below w.heap.size w wr) (fun _ _ _ s17 _=>la.length-(intOf s17).toNat)
  case atStart=>exact⟨0,Zd _,rfl,fun i hi=>by omega,Zc _ _⟩
  case round=>
   obtain⟨k,hk,rfl,hno,hb⟩:=hrel;have HNO:=Za hno;have HBW:=Za hb;have hsz:=hb.size;clear hno hb
   by_cases hlt:k<la.length
   ·obtain⟨xab,xao,xas,rfl,xaD,a0,a1,a2,a3,a4,ah,an⟩:=Aj.cellAt (Aj.old HBW.o HA.o) k hlt
    obtain⟨xbb,xbo,xbs,rfl,xbD,b0,b1,b2,b3,b4,bh,bn⟩:=Aj.cellAt (Aj.old HBW.o HB.o) k (by rw[HL.o];exact hlt);obtain⟨a5,a6,rfl⟩:=ah.shape;obtain⟨b5,b6,rfl⟩:=bh.shape;have al:=Zs _ _ a0;have bl:=Zs _ _ b0;have HAH:=Za ah;have HBH:=Za bh;clear ah bh an bn xaD xbD;have IHX:=Za (IH.out _ (Bf hlt));have HKL:=Za hlt;generalize hxe:Ao la k=xa at*;generalize hye:Ao lb k=xb at*;have HXE:=Za hxe;have HYE:=Za hye;clear hxe hye;generalize hxa:Do xa xb=q;have HXA:Hid (Do (Ao la k) (Ao lb k)=q):=by show _=_;rw[HXE.o,HYE.o];exact hxa
    have HXB:=Za hxa;clear hxa;have hww:Below wr.heap.size wr ((wr.alloc (.cells #[.int .i64 xa.kind,.int .i64 xa.op,.int .i64 xa.n,.string (Aa xa.name),.slice a5 xa.args.length a6] 31)).alloc (.cells #[.int .i64 xb.kind,.int .i64 xb.op,.int .i64 xb.n,.string (Aa xb.name),.slice b5 xb.args.length b6] 31)):=(bA).alloc (by simp) _;have HAH2:=Za (HAH.o.old hww);have HBH2:=Za (HBH.o.old hww);have HWW:=Za (HBW.o.trans (hww.mono hsz));clear hww;go_wp2_with fail
    refine(IHX.out _ D _ _ _ HAH2.o HBH2.o).mono ?_;rw[HXB.o]
    cases q
    ·rintro r w2 ⟨rfl,hb2⟩
     have HB2:=Za (HWW.o.trans (hb2.mono (by simp;omega)));clear hb2 a0 a1 a2 a3 a4 b0 b1 b2 b3 b4;go_wp2_with fail
     go_ret
     exact⟨Af (Dl Do Ex.nil la lb k HL.o.symm HKL.o HXA.o).symm,HB2.o⟩
    ·rintro r w2 ⟨rfl,hb2⟩
     have HB2:=Za (HWW.o.trans (hb2.mono (by simp;omega)));clear hb2 a0 a1 a2 a3 a4 b0 b1 b2 b3 b4;go_wp2_with fail
     go_roundw
     case rel=>exact⟨k+1,by omega,by go_num,fun i hi=>by rcases Zl.1 hi with h|rfl;exact HNO.o i h;exact HXA.o,HB2.o⟩
     case measure=>simp [intOf];omega
   ·go_wp2_with fail
    go_ret
    exact⟨Af (Dz Do Ex.nil la lb HL.o.symm (fun i hi=>HNO.o i (by omega))).symm,HBW.o⟩
 ·have hne:((la.length:Int) !=(lb.length:Int))=true:=by rw[bne_iff_ne];omega
  have E:Hid (Bg Do la lb=false):=Ft _ _ _ (by omega);clear ha hb ih hl;go_enter func82,ntmps82
  go_wp2_with fail
  go_ret
  exact⟨Af E.out.symm,Zc _ _⟩
theorem Sp(a:Ex)(ih:∀x,x∈a.args→Lb x):Lb a:=by
 intro b D sa sb w ha hb;obtain⟨a1,a2,rfl⟩:=ha.shape;obtain⟨b1,b2,rfl⟩:=hb.shape;have EQ:=Za (Rq a.args ih);obtain⟨k,o,n,nm,us⟩:=a;obtain⟨k',o',n',nm',bs⟩:=b;have HA:=Za ha;have HB:=Za hb;have E:Hid (Do (.mk k o n nm us) (.mk k' o' n' nm' bs)=(k==k' && o==o' && n==n' && nm==nm' && Bg Do us bs)):=by show _=_;rw[Do,Jf]
 clear ha hb ih;show Calls _ _ #[.agg #[.int .i64 k,.int .i64 o,.int .i64 n,.string (Aa nm),.slice a1 us.length a2],.agg #[.int .i64 k',.int .i64 o',.int .i64 n',.string (Aa nm'),.slice b1 bs.length b2]] _ _
 rw[E.out];go_enter func83,ntmps83
 go_wp2_with fail
 ·refine(EQ.out bs D (.slice a1 us.length a2) (.slice b1 bs.length b2) _ ?h1 ?h2).mono ?_
  case h1=>exact Aj.old ((bA).alloc (by simp) _) HA.o
  case h2=>exact Aj.old ((bA).alloc (by simp) _) HB.o
  rintro r w1 ⟨rfl,hb⟩;go_wp2_with fail
  go_ret
  exact⟨Af (by simp [*,Ex.args,St.args,St.thn,St.els]),((bA).alloc (by simp) _).trans (hb.mono (by simp;omega))⟩
 all_goals
  go_ret
  refine⟨Af ?_,(bA).alloc (by simp) _⟩;simp [*]
theorem Nx:∀(n:Nat) (e:Ex),SizeOf.sizeOf e≤n→Lb e
 |0,e,h=>by cases e;simp at h
 |n+1,e,h=>Sp e fun x hx=>Nx n x (by have:=Ex.size_lt hx;omega)
theorem Vj(e:Ex):Lb e:=Nx _ e (Zn _)
theorem dV(la lb:List Ex)(D:Nat→Prop)(va vb:Value)(w:World)(ha:Aj D w la va)(hb:Aj D w lb vb):
  Calls Zb 82 #[va,vb,.func (.func 83) #[] #[]] w fun e w'=>e=.returned (.bool (Cp la lb))∧Below w.heap.size w w':=by
 rw[Jf];exact Rq la (fun x _=>Vj x) lb D va vb w ha hb
def Lg(x:St):Prop:= ∀(y:St) (D:Nat→Prop) (a t e a' t' e':Value) (w:World),Aj D w x.args a→Ap D w x.thn t→Ap D w x.els e→Aj D w y.args a'→Ap D w y.thn t'→Ap D w y.els e'→
 Calls Zb 49 #[stV x a t e,stV y a' t' e'] w fun e w'=>e=.returned (.bool (Bu x y))∧Below w.heap.size w w'
theorem Ml(la:List St)(ih:∀x,x∈la→Lg x)(lb:List St)(D:Nat→Prop)(va vb:Value)(w:World)(ha:Ap D w la va)(hb:Ap D w lb vb):
  Calls Zb 48 #[va,vb,.func (.func 49) #[] #[]] w fun e w'=>e=.returned (.bool (Bg Bu la lb))∧Below w.heap.size w w':=by
 obtain⟨a1,a2,rfl⟩:=ha.shape;obtain⟨b1,b2,rfl⟩:=hb.shape;have l63:=ha.fits.lt;have m63:=hb.fits.lt
 by_cases hl:lb.length=la.length
 ·rw[hl]at hb ⊢
  have HA:=Za ha;have HB:=Za hb;have IH:=Za ih;have HL:=Za hl;clear ha hb ih hl m63;go_enter func48,ntmps48
  go_wp2_with fail
  go_loopw [7,8,9,17] (fun _ _ _ s17 wr=> ∃k:Nat,k≤la.length∧s17=.int .i64 k∧(∀i,i<k→Bu (la.getD i St.nil) (lb.getD i St.nil)=true)∧Below w.heap.size w wr) (fun _ _ _ s17 _=>la.length-(intOf s17).toNat)
  case atStart=>exact⟨0,Zd _,rfl,fun i hi=>by omega,Zc _ _⟩
  case round=>
   obtain⟨k,hk,rfl,hno,hb⟩:=hrel;have HNO:=Za hno;have HBW:=Za hb;have hsz:=hb.size;clear hno hb
   by_cases hlt:k<la.length
   ·obtain⟨xab,xao,a7,a8,a9,rfl,xaD,al,a0,a1,a2,a3,a4,ah,at',ae⟩:=Ap.cellAt (Ap.old HBW.o HA.o) k hlt
    obtain⟨xbb,xbo,b7,b8,b9,rfl,xbD,bl,b0,b1,b2,b3,b4,bh,bt,be⟩:=Ap.cellAt (Ap.old HBW.o HB.o) k (by rw[HL.o];exact hlt);obtain⟨a51,a52,rfl⟩:=ah.shape;obtain⟨b51,b52,rfl⟩:=bh.shape;obtain⟨a61,a62,rfl⟩:=Ap.shape at';obtain⟨b61,b62,rfl⟩:=Ap.shape bt;obtain⟨a71,a72,rfl⟩:=Ap.shape ae;obtain⟨b71,b72,rfl⟩:=Ap.shape be;have HAH:=Za ah;have HBH:=Za bh;have HAT:=Za at';have HBT:=Za bt;have HAE:=Za ae;have HBE:=Za be;clear ah bh at' bt ae be xaD xbD;have IHX:=Za (IH.out _ (Dy hlt));have HKL:=Za hlt;generalize hxe:Db la k=xa at*;generalize hye:Db lb k=xb at*;have HXE:=Za hxe;have HYE:=Za hye;clear hxe hye;generalize hxa:Bu xa xb=q;have HXA:Hid (Bu (Db la k) (Db lb k)=q):=by show _=_;rw[HXE.o,HYE.o];exact hxa
    have HXB:=Za hxa;clear hxa;have hww:Below wr.heap.size wr ((wr.alloc (.cells #[.int .i64 xa.kind,.string (Aa xa.name),.slice a51 xa.args.length a52,.slice a61 xa.thn.length a62,.slice a71 xa.els.length a72] 56)).alloc (.cells #[.int .i64 xb.kind,.string (Aa xb.name),.slice b51 xb.args.length b52,.slice b61 xb.thn.length b62,.slice b71 xb.els.length b72] 56)):=(bA).alloc (by simp) _;have HAH2:=Za (HAH.o.old hww);have HBH2:=Za (HBH.o.old hww);have HAT2:=Za (HAT.o.old hww);have HBT2:=Za (HBT.o.old hww);have HAE2:=Za (HAE.o.old hww);have HBE2:=Za (HBE.o.old hww);have HWW:=Za (HBW.o.trans (hww.mono hsz));clear hww;go_wp2_with fail
    refine(IHX.out _ D _ _ _ _ _ _ _ HAH2.o HAT2.o HAE2.o HBH2.o HBT2.o HBE2.o).mono ?_;rw[HXB.o]
    cases q
    ·rintro r w2 ⟨rfl,hb2⟩
     have HB2:=Za (HWW.o.trans (hb2.mono (by simp;omega)));clear hb2 a0 a1 a2 a3 a4 b0 b1 b2 b3 b4;go_wp2_with fail
     go_ret
     exact⟨Af (Dl Bu St.nil la lb k HL.o.symm HKL.o HXA.o).symm,HB2.o⟩
    ·rintro r w2 ⟨rfl,hb2⟩
     have HB2:=Za (HWW.o.trans (hb2.mono (by simp;omega)));clear hb2 a0 a1 a2 a3 a4 b0 b1 b2 b3 b4;go_wp2_with fail
     go_roundw
     case rel=>exact⟨k+1,by omega,by go_num,fun i hi=>by rcases Zl.1 hi with h|rfl;exact HNO.o i h;exact HXA.o,HB2.o⟩
     case measure=>simp [intOf];omega
   ·go_wp2_with fail
    go_ret
    exact⟨Af (Dz Bu St.nil la lb HL.o.symm (fun i hi=>HNO.o i (by omega))).symm,HBW.o⟩
 ·have hne:((la.length:Int) !=(lb.length:Int))=true:=by rw[bne_iff_ne];omega
  have E:Hid (Bg Bu la lb=false):=Ft _ _ _ (by omega);clear ha hb ih hl;go_enter func48,ntmps48
  go_wp2_with fail
  go_ret
  exact⟨Af E.out.symm,Zc _ _⟩
theorem Sj(x:St)(iht:∀y,y∈x.thn→Lg y)(ihe:∀y,y∈x.els→Lg y):Lg x:=by
 intro y D sa st se sb ut ue w ha ht he hb ht' he';obtain⟨a1,a2,rfl⟩:=ha.shape;obtain⟨t1,t2,rfl⟩:=ht.shape;obtain⟨e1,e2,rfl⟩:=he.shape;obtain⟨b1,b2,rfl⟩:=hb.shape;obtain⟨u1,u2,rfl⟩:=ht'.shape;obtain⟨v1,v2,rfl⟩:=he'.shape;have EQT:=Za (Ml x.thn iht);have EQE:=Za (Ml x.els ihe);obtain⟨k,nm,us,tt,ee⟩:=x;obtain⟨k',nm',vs,tt',ee'⟩:=y;have HA:=Za ha;have HT:=Za ht;have HE:=Za he;have HA':=Za hb;have HT':=Za ht';have HE':=Za he';have E:Hid (Bu (.mk k nm us tt ee) (.mk k' nm' vs tt' ee')=(k==k' && nm==nm' && Cp us vs && Bg Bu tt tt' && Bg Bu ee ee')):=by show _=_;rw[Bu,Gk,Gk]
 clear ha ht he hb ht' he' iht ihe;show Calls _ _ #[.agg #[.int .i64 k,.string (Aa nm),.slice a1 us.length a2,.slice t1 tt.length t2,.slice e1 ee.length e2],.agg #[.int .i64 k',.string (Aa nm'),.slice b1 vs.length b2,.slice u1 tt'.length u2,.slice v1 ee'.length v2]] _ _
 rw[E.out];go_enter func49,ntmps49
 go_wp2_with fail
 ·have HBW:=Za (((Zc w.heap.size w).alloc (Zn _) (.cells #[.int .i64 k',.string (Aa nm'),.slice a1 us.length a2,.slice t1 tt.length t2,.slice e1 ee.length e2] 56)).alloc (by simp) (.cells #[.int .i64 k',.string (Aa nm'),.slice b1 vs.length b2,.slice u1 tt'.length u2,.slice v1 ee'.length v2] 56))
  refine(dV us vs D (.slice a1 us.length a2) (.slice b1 vs.length b2) _ ?h1 ?h2).mono ?_
  case h1=>exact Aj.old ((bA).alloc (by simp) _) HA.o
  case h2=>exact Aj.old ((bA).alloc (by simp) _) HA'.o
  rintro r w1 ⟨rfl,hb1⟩;have hz:w.heap.size+1<w1.heap.size:=by have:=hb1.size;simp at this;omega
  have g3:w1.cell? ⟨w.heap.size,3,none⟩=some (.slice t1 tt.length t2):=Ac hb1 (by simp [Zf]);have g4:w1.cell? ⟨w.heap.size,4,none⟩=some (.slice e1 ee.length e2):=Ac hb1 (by simp [Zf]);have k3:w1.cell? ⟨w.heap.size+1,3,none⟩=some (.slice u1 tt'.length u2):=Ac hb1 (by simp [Zf]);have k4:w1.cell? ⟨w.heap.size+1,4,none⟩=some (.slice v1 ee'.length v2):=Ac hb1 (by simp [Zf]);have hbw:Below w.heap.size w w1:=((bA).alloc (by simp) _).trans (hb1.mono (by simp;omega));have HBW1:=Za hbw;clear hb1 hbw HBW
  cases qa:Cp us vs
  ·have QA:=Za qa;clear qa
   go_wp2_with fail
   go_ret
   exact⟨Af (by simp [*,QA.out]),HBW1.o⟩
  have QA:=Za qa;clear qa;go_wp2_with fail
  refine(EQT.out tt' D (.slice t1 tt.length t2) (.slice u1 tt'.length u2) _ (HT.o.old HBW1.o) (HT'.o.old HBW1.o)).mono ?_;rintro r w2 ⟨rfl,hb2⟩;have l4:=Ac hb2 g4;have m4:=Ac hb2 k4;have HBW2:=Za (HBW1.o.trans (hb2.mono (by omega)));have hs2:=hb2.size;clear hb2 g3 g4 k3 k4;have ET:Bg Bu (St.mk k' nm' us tt ee).thn tt'=Bg Bu tt tt':=rfl
  first
   |rw[ET]
   |rw[show Bg Bu (St.mk k nm us tt ee).thn tt'=Bg Bu tt tt' from rfl]
  clear ET
  cases qt:Bg Bu tt tt'
  ·have QT:=Za qt;clear qt
   go_wp2_with fail
   go_ret
   exact⟨Af (by simp [*,QA.out,QT.out]),HBW2.o⟩
  have QT:=Za qt;clear qt;go_wp2_with fail
  refine(EQE.out ee' D (.slice e1 ee.length e2) (.slice v1 ee'.length v2) _ (HE.o.old HBW2.o) (HE'.o.old HBW2.o)).mono ?_;rintro r w3 ⟨rfl,hb3⟩;have HBW3:=Za (HBW2.o.trans (hb3.mono (by omega)));clear hb3 l4 m4;go_wp2_with fail
  go_ret
  exact⟨Af (by simp [*,QA.out,QT.out,St.els]),HBW3.o⟩
 all_goals
  go_ret
  refine⟨Af ?_,(bA).alloc (by simp) _⟩;simp [*]
theorem St.thn_lt {x y:St}(h:y∈x.thn):SizeOf.sizeOf y<SizeOf.sizeOf x:=by
 cases x with
 |mk k nm us t e=>have:=Zk (show y∈t from h);simp only[St.mk.sizeOf_spec];omega
theorem St.els_lt {x y:St}(h:y∈x.els):SizeOf.sizeOf y<SizeOf.sizeOf x:=by
 cases x with
 |mk k nm us t e=>have:=Zk (show y∈e from h);simp only[St.mk.sizeOf_spec];omega
theorem Ko:∀(n:Nat) (x:St),SizeOf.sizeOf x≤n→Lg x
 |0,x,h=>by cases x;simp at h
 |n+1,x,h=>Sj x (fun y hy=>Ko n y (by have:=St.thn_lt hy;omega)) (fun y hy=>Ko n y (by have:=St.els_lt hy;omega))
theorem fR(la lb:List St)(D:Nat→Prop)(va vb:Value)(w:World)(ha:Ap D w la va)(hb:Ap D w lb vb):
  Calls Zb 48 #[va,vb,.func (.func 49) #[] #[]] w fun e w'=>e=.returned (.bool (Fs la lb))∧Below w.heap.size w w':=by
 rw[Gk];exact Ml la (fun x _=>Ko _ x (Zn _)) lb D va vb w ha hb
theorem Below.drewN' {n k:Nat}{w w1:World}(h:Below n w w1):Below n w (w1.drewN k):=⟨h.os,h.tape,h.output,h.size,h.block⟩
theorem Qw(la lb:List Bs)(D:Nat→Prop)(va vb:Value)(w:World)(ha:Ay D w la va)(hb:Ay D w lb vb):
  Calls Zb 47 #[va,vb] w fun e w'=>e=.returned (.bool (Gn la lb))∧Below w.heap.size w w':=by
 rw[Ki];obtain⟨a1,a2,rfl⟩:=ha.shape;obtain⟨b1,b2,rfl⟩:=hb.shape;have l63:=ha.fits.lt;have m63:=hb.fits.lt
 by_cases hl:lb.length=la.length
 ·rw[hl]at hb ⊢
  have HA:=Za ha;have HB:=Za hb;have HL:=Za hl;clear ha hb hl m63;go_enter func47,ntmps47
  go_wp2_with fail
  go_loopw [5,13] (fun _ s13 wr=> ∃k:Nat,k≤la.length∧s13=.int .i64 k∧(∀i,i<k→(la.getD i []==lb.getD i [])=true)∧Below w.heap.size w wr) (fun _ s13 _=>la.length-(intOf s13).toNat)
  case atStart=>exact⟨0,Zd _,rfl,fun i hi=>by omega,Zc _ _⟩
  case round=>
   obtain⟨k,hk,rfl,hno,hb⟩:=hrel;have HNO:=Za hno;have HBW:=Za hb;have hsz:=hb.size;clear hno hb
   by_cases hlt:k<la.length
   ·obtain⟨ab,ao,rfl,aD,al,ac⟩:=Js (Zh HBW.o HA.o) k hlt
    obtain⟨bb,bo,rfl,bD,bl,bc⟩:=Js (Zh HBW.o HB.o) k (by rw[HL.o];exact hlt);have HKL:=Za hlt;clear aD bD;generalize hxe:la.getD k []=xa at*;generalize hye:lb.getD k []=xb at*;have HXE:=Za hxe;have HYE:=Za hye;clear hxe hye
    cases q:(xa==xb)
    ·have HQ:=Za q
     go_wp2_with fail
     go_quiet (fail)
     go_wp2_with fail
     all_goals
      go_ret
      exact⟨Af (Dl (fun x y=>x==y) [] la lb k HL.o.symm HKL.o (by rw[HXE.o,HYE.o];exact HQ.o)).symm,Below.drewN' HBW.o⟩
    ·have hq:xa=xb:=by simpa using q
     subst hq;clear q;go_wp2_with fail
     go_quiet (fail)
     go_wp2_with fail
     go_roundw
     case rel=>exact⟨k+1,by omega,by go_num,fun i hi=>by rcases Zl.1 hi with h|rfl;exact HNO.o i h;rw[HXE.o,HYE.o];simp,Below.drewN' HBW.o⟩
     case measure=>simp [intOf];omega
   ·go_wp2_with fail
    go_ret
    exact⟨Af (Dz (fun x y=>x==y) [] la lb HL.o.symm (fun i hi=>HNO.o i (by omega))).symm,HBW.o⟩
 ·have hne:((la.length:Int) !=(lb.length:Int))=true:=by rw[bne_iff_ne];omega
  have E:Hid (Bg (fun x y=>x==y) la lb=false):=Ft _ _ _ (by omega);clear ha hb hl;go_enter func47,ntmps47
  go_wp2_with fail
  go_ret
  exact⟨Af E.out.symm,Zc _ _⟩
theorem fD(la lb:List Ar)(D:Nat→Prop)(va vb:Value)(w:World)(ha:Bp D w la va)(hb:Bp D w lb vb):
  Calls Zb 44 #[va,vb] w fun e w'=>e=.returned (.bool (Gh la lb))∧Below w.heap.size w w':=by
 rw[Lk];obtain⟨a1,a2,rfl⟩:=ha.shape;obtain⟨b1,b2,rfl⟩:=hb.shape;have l63:=ha.fits.lt;have m63:=hb.fits.lt
 by_cases hl:lb.length=la.length
 ·rw[hl]at hb ⊢
  have HA:=Za ha;have HB:=Za hb;have HL:=Za hl;clear ha hb hl m63;go_enter func44,ntmps44
  go_wp2_with fail
  go_loopw [5,13] (fun _ s13 wr=> ∃k:Nat,k≤la.length∧s13=.int .i64 k∧(∀i,i<k→Ep (la.getD i Ar.nil) (lb.getD i Ar.nil)=true)∧Below w.heap.size w wr) (fun _ s13 _=>la.length-(intOf s13).toNat)
  case atStart=>exact⟨0,Zd _,rfl,fun i hi=>by omega,Zc _ _⟩
  case round=>
   obtain⟨k,hk,rfl,hno,hb⟩:=hrel;have HNO:=Za hno;have HBW:=Za hb;have hsz:=hb.size;clear hno hb
   by_cases hlt:k<la.length
   ·obtain⟨ab,ao,rfl,aD,al,a0,a1⟩:=Bp.cellAt (Bp.old HBW.o HA.o) k hlt
    obtain⟨bb,bo,rfl,bD,bl,b0,b1⟩:=Bp.cellAt (Bp.old HBW.o HB.o) k (by rw[HL.o];exact hlt);have HKL:=Za hlt;clear aD bD;generalize hxe:Dj la k=xa at*;generalize hye:Dj lb k=xb at*;have HXE:=Za hxe;have HYE:=Za hye;clear hxe hye;obtain⟨n1,s1⟩:=xa;obtain⟨n2,s2⟩:=xb;dsimp only at a0 a1 b0 b1
    cases q:(n1==n2)<;>cases q2:(s1==s2)
    case true.true=>
     have hq:n1=n2:=by simpa using q
     have hq2:s1=s2:=by simpa using q2
     subst hq hq2;clear q q2;go_wp2_with fail
     go_quiet (fail)
     go_wp2_with fail
     go_roundw
     case rel=>exact⟨k+1,by omega,by go_num,fun i hi=>by rcases Zl.1 hi with h|rfl;exact HNO.o i h;(show Ep (Dj la _) (Dj lb _)=true;rw[HXE.o,HYE.o];simp [Ep]),Below.drewN' HBW.o⟩
     case measure=>simp [intOf];omega
    all_goals
     have HQ:Hid (Ep (Dj la k) (Dj lb k)=false):=by show _=_;rw[HXE.o,HYE.o];simp [Ep,q,q2]
     go_wp2_with fail
     go_quiet (fail)
     go_wp2_with fail
     all_goals
      go_ret
      exact⟨Af (Dl Ep Ar.nil la lb k HL.o.symm HKL.o HQ.o).symm,Below.drewN' HBW.o⟩
   ·go_wp2_with fail
    go_ret
    exact⟨Af (Dz Ep Ar.nil la lb HL.o.symm (fun i hi=>HNO.o i (by omega))).symm,HBW.o⟩
 ·have hne:((la.length:Int) !=(lb.length:Int))=true:=by rw[bne_iff_ne];omega
  have E:Hid (Bg Ep la lb=false):=Ft _ _ _ (by omega);clear ha hb hl;go_enter func44,ntmps44
  go_wp2_with fail
  go_ret
  exact⟨Af E.out.symm,Zc _ _⟩
def Vu(x:Fu):Prop:= ∀(y:Fu) (D:Nat→Prop) (a t e a' t' e':Value) (w:World),Ay D w x.params a→Ay D w x.locals t→Ap D w x.body e→Ay D w y.params a'→Ay D w y.locals t'→Ap D w y.body e'→
 Calls Zb 46 #[fuV x a t e,fuV y a' t' e'] w fun e w'=>e=.returned (.bool (Eb x y))∧Below w.heap.size w w'
theorem bS(x:Fu):Vu x:=by
 intro y D sa st se sb ut ue w ha ht he hb ht' he';obtain⟨a1,a2,rfl⟩:=ha.shape;obtain⟨t1,t2,rfl⟩:=ht.shape;obtain⟨e1,e2,rfl⟩:=he.shape;obtain⟨b1,b2,rfl⟩:=hb.shape;obtain⟨u1,u2,rfl⟩:=ht'.shape;obtain⟨v1,v2,rfl⟩:=he'.shape;obtain⟨nm,us,tt,ee⟩:=x;obtain⟨nm',vs,tt',ee'⟩:=y;have HA:=Za ha;have HT:=Za ht;have HE:=Za he;have HA':=Za hb;have HT':=Za ht';have HE':=Za he';have E:Hid (Eb ⟨nm,us,tt,ee⟩ ⟨nm',vs,tt',ee'⟩=(nm==nm' && Gn us vs && Gn tt tt' && Fs ee ee')):=by show _=_;unfold Eb;rfl
 clear ha ht he hb ht' he';show Calls _ _ #[.agg #[.string (Aa nm),.slice a1 us.length a2,.slice t1 tt.length t2,.slice e1 ee.length e2],.agg #[.string (Aa nm'),.slice b1 vs.length b2,.slice u1 tt'.length u2,.slice v1 ee'.length v2]] _ _
 rw[E.out];go_enter func46,ntmps46
 go_wp2_with fail
 ·refine(Qw us vs D (.slice a1 us.length a2) (.slice b1 vs.length b2) _ ?h1 ?h2).mono ?_
  case h1=>exact Zh ((bA).alloc (by simp) _) HA.o
  case h2=>exact Zh ((bA).alloc (by simp) _) HA'.o
  rintro r w1 ⟨rfl,hb1⟩;have hz:w.heap.size+1<w1.heap.size:=by have:=hb1.size;simp at this;omega
  have g3:w1.cell? ⟨w.heap.size,2,none⟩=some (.slice t1 tt.length t2):=Ac hb1 (by simp [Zf]);have g4:w1.cell? ⟨w.heap.size,3,none⟩=some (.slice e1 ee.length e2):=Ac hb1 (by simp [Zf]);have k3:w1.cell? ⟨w.heap.size+1,2,none⟩=some (.slice u1 tt'.length u2):=Ac hb1 (by simp [Zf]);have k4:w1.cell? ⟨w.heap.size+1,3,none⟩=some (.slice v1 ee'.length v2):=Ac hb1 (by simp [Zf]);have hbw:Below w.heap.size w w1:=((bA).alloc (by simp) _).trans (hb1.mono (by simp;omega));have HBW1:=Za hbw;clear hb1 hbw
  cases qa:Gn us vs
  ·have QA:=Za qa;clear qa
   go_wp2_with fail
   go_ret
   exact⟨Af (by simp [*,QA.out]),HBW1.o⟩
  have QA:=Za qa;clear qa;go_wp2_with fail
  refine(Qw tt tt' D (.slice t1 tt.length t2) (.slice u1 tt'.length u2) _ (Zh HBW1.o HT.o) (Zh HBW1.o HT'.o)).mono ?_;rintro r w2 ⟨rfl,hb2⟩;have l4:=Ac hb2 g4;have m4:=Ac hb2 k4;have HBW2:=Za (HBW1.o.trans (hb2.mono (by omega)));have hs2:=hb2.size;clear hb2 g3 g4 k3 k4
  cases qt:Gn tt tt'
  ·have QT:=Za qt;clear qt
   go_wp2_with fail
   go_ret
   exact⟨Af (by simp [*,QA.out,QT.out]),HBW2.o⟩
  have QT:=Za qt;clear qt;go_wp2_with fail
  refine(fR ee ee' D (.slice e1 ee.length e2) (.slice v1 ee'.length v2) _ (HE.o.old HBW2.o) (HE'.o.old HBW2.o)).mono ?_;rintro r w3 ⟨rfl,hb3⟩;have HBW3:=Za (HBW2.o.trans (hb3.mono (by omega)));clear hb3 l4 m4;go_wp2_with fail
  go_ret
  exact⟨Af (by simp [*,QA.out,QT.out]),HBW3.o⟩
 all_goals
  go_ret
  refine⟨Af ?_,(bA).alloc (by simp) _⟩;simp [*]
theorem Yh(la:List Fu)(ih:∀x,x∈la→Vu x)(lb:List Fu)(D:Nat→Prop)(va vb:Value)(w:World)(ha:Bk D w la va)(hb:Bk D w lb vb):
  Calls Zb 45 #[va,vb,.func (.func 46) #[] #[]] w fun e w'=>e=.returned (.bool (Bg Eb la lb))∧Below w.heap.size w w':=by
 obtain⟨a1,a2,rfl⟩:=ha.shape;obtain⟨b1,b2,rfl⟩:=hb.shape;have l63:=ha.fits.lt;have m63:=hb.fits.lt
 by_cases hl:lb.length=la.length
 ·rw[hl]at hb ⊢
  have HA:=Za ha;have HB:=Za hb;have IH:=Za ih;have HL:=Za hl;clear ha hb ih hl m63;go_enter func45,ntmps45
  go_wp2_with fail
  go_loopw [7,8,9,17] (fun _ _ _ s17 wr=> ∃k:Nat,k≤la.length∧s17=.int .i64 k∧(∀i,i<k→Eb (la.getD i Fu.nil) (lb.getD i Fu.nil)=true)∧Below w.heap.size w wr) (fun _ _ _ s17 _=>la.length-(intOf s17).toNat)
  case atStart=>exact⟨0,Zd _,rfl,fun i hi=>by omega,Zc _ _⟩
  case round=>
   obtain⟨k,hk,rfl,hno,hb⟩:=hrel;have HNO:=Za hno;have HBW:=Za hb;have hsz:=hb.size;clear hno hb
   by_cases hlt:k<la.length
   ·obtain⟨xab,xao,a7,a8,a9,rfl,xaD,al,a0,a1,a2,a3,ap,av,ah⟩:=Bk.cellAt (Ze HBW.o HA.o) k hlt
    obtain⟨xbb,xbo,b7,b8,b9,rfl,xbD,bl,b0,b1,b2,b3,bp,bv,bh⟩:=Bk.cellAt (Ze HBW.o HB.o) k (by rw[HL.o];exact hlt);obtain⟨a51,a52,rfl⟩:=ap.shape;obtain⟨b51,b52,rfl⟩:=bp.shape;obtain⟨a61,a62,rfl⟩:=av.shape;obtain⟨b61,b62,rfl⟩:=bv.shape;obtain⟨a71,a72,rfl⟩:=ah.shape;obtain⟨b71,b72,rfl⟩:=bh.shape;have HAH:=Za ap;have HBH:=Za bp;have HAT:=Za av;have HBT:=Za bv;have HAE:=Za ah;have HBE:=Za bh;clear ap bp av bv ah bh xaD xbD;have IHX:=Za (IH.out _ (Ln hlt));have HKL:=Za hlt;generalize hxe:Bc la k=xa at*;generalize hye:Bc lb k=xb at*;have HXE:=Za hxe;have HYE:=Za hye;clear hxe hye;generalize hxa:Eb xa xb=q;have HXA:Hid (Eb (Bc la k) (Bc lb k)=q):=by show _=_;rw[HXE.o,HYE.o];exact hxa
    have HXB:=Za hxa;clear hxa;have hww:Below wr.heap.size wr ((wr.alloc (.cells #[.string (Aa xa.name),.slice a51 xa.params.length a52,.slice a61 xa.locals.length a62,.slice a71 xa.body.length a72] 47)).alloc (.cells #[.string (Aa xb.name),.slice b51 xb.params.length b52,.slice b61 xb.locals.length b62,.slice b71 xb.body.length b72] 47)):=(bA).alloc (by simp) _;have HAH2:=Za (Zh hww HAH.o);have HBH2:=Za (Zh hww HBH.o);have HAT2:=Za (Zh hww HAT.o);have HBT2:=Za (Zh hww HBT.o);have HAE2:=Za (HAE.o.old hww);have HBE2:=Za (HBE.o.old hww);have HWW:=Za (HBW.o.trans (hww.mono hsz));clear hww;go_wp2_with fail
    refine(IHX.out _ D _ _ _ _ _ _ _ HAH2.o HAT2.o HAE2.o HBH2.o HBT2.o HBE2.o).mono ?_;rw[HXB.o]
    cases q
    ·rintro r w2 ⟨rfl,hb2⟩
     have HB2:=Za (HWW.o.trans (hb2.mono (by simp;omega)));clear hb2 a0 a1 a2 a3 b0 b1 b2 b3;go_wp2_with fail
     go_ret
     exact⟨Af (Dl Eb Fu.nil la lb k HL.o.symm HKL.o HXA.o).symm,HB2.o⟩
    ·rintro r w2 ⟨rfl,hb2⟩
     have HB2:=Za (HWW.o.trans (hb2.mono (by simp;omega)));clear hb2 a0 a1 a2 a3 b0 b1 b2 b3;go_wp2_with fail
     go_roundw
     case rel=>exact⟨k+1,by omega,by go_num,fun i hi=>by rcases Zl.1 hi with h|rfl;exact HNO.o i h;exact HXA.o,HB2.o⟩
     case measure=>simp [intOf];omega
   ·go_wp2_with fail
    go_ret
    exact⟨Af (Dz Eb Fu.nil la lb HL.o.symm (fun i hi=>HNO.o i (by omega))).symm,HBW.o⟩
 ·have hne:((la.length:Int) !=(lb.length:Int))=true:=by rw[bne_iff_ne];omega
  have E:Hid (Bg Eb la lb=false):=Ft _ _ _ (by omega);clear ha hb ih hl;go_enter func45,ntmps45
  go_wp2_with fail
  go_ret
  exact⟨Af E.out.symm,Zc _ _⟩
theorem Ne(p q:Pr)(D:Nat→Prop)(sa sf ta tf:Value)(w:World)(ha:Bp D w p.arrays sa)(hf:Bk D w p.funcs sf)(ha':Bp D w q.arrays ta)(hf':Bk D w q.funcs tf):
  Calls Zb 15 #[.agg #[sa,sf],.agg #[ta,tf]] w fun r w'=>r=.returned (.bool (Fh p q))∧Below w.heap.size w w':=by
 obtain⟨a1,a2,rfl⟩:=ha.shape;obtain⟨f1,f2,rfl⟩:=hf.shape;obtain⟨b1,b2,rfl⟩:=ha'.shape;obtain⟨g1,g2,rfl⟩:=hf'.shape;have HA:=Za ha;have HF:=Za hf;have HA':=Za ha';have HF':=Za hf';have E:Hid (Fh p q=(Gh p.arrays q.arrays && Bg Eb p.funcs q.funcs)):=by show _=_;unfold Fh;rw[Ll]
 clear ha hf ha' hf';rw[E.out];go_enter func15,ntmps15
 go_wp2_with fail
 refine(fD p.arrays q.arrays D (.slice a1 p.arrays.length a2) (.slice b1 q.arrays.length b2) _ ?h1 ?h2).mono ?_
 case h1=>exact Bp.old ((bA).alloc (by simp) _) HA.o
 case h2=>exact Bp.old ((bA).alloc (by simp) _) HA'.o
 rintro r w1 ⟨rfl,hb1⟩;have hz:w.heap.size+1<w1.heap.size:=by have:=hb1.size;simp at this;omega
 have g3:w1.cell? ⟨w.heap.size,1,none⟩=some (.slice f1 p.funcs.length f2):=Ac hb1 (by simp [Zf]);have k3:w1.cell? ⟨w.heap.size+1,1,none⟩=some (.slice g1 q.funcs.length g2):=Ac hb1 (by simp [Zf]);have hbw:Below w.heap.size w w1:=((bA).alloc (by simp) _).trans (hb1.mono (by simp;omega));have HBW1:=Za hbw;clear hb1 hbw
 cases qa:Gh p.arrays q.arrays
 ·have QA:=Za qa;clear qa
  go_wp2_with fail
  go_ret
  exact⟨Af (by simp [QA.out]),HBW1.o⟩
 have QA:=Za qa;clear qa;go_wp2_with fail
 refine(Yh p.funcs (fun x _=>bS x) q.funcs D (.slice f1 p.funcs.length f2) (.slice g1 q.funcs.length g2) _ (Ze HBW1.o HF.o) (Ze HBW1.o HF'.o)).mono ?_;rintro r w2 ⟨rfl,hb2⟩;have HBW2:=Za (HBW1.o.trans (hb2.mono (by omega)));clear hb2 g3 k3;go_wp2_with fail
 go_ret
 exact⟨Af (by simp [QA.out]),HBW2.o⟩
def prS(p:Pr):ByteArray:=if Cd p=true then Aa (Dv p)else Aa []
def prC(p:Pr):Int:=if Cd p=true then 0 else 1
theorem aK {w:World}{p:Pr}{va vf:Value}(h:Qc w p va vf)(hg:3<w.heap.size)(ht:Da w):
  Calls Zb 9 #[.agg #[va,vf]] w fun r w'=>r=.returned (.tuple #[.string (prS p),.int .i64 (prC p)])∧Below w.heap.size w w':=by
 unfold prS prC
 by_cases hr:Cd p=true
 ·rw[if_pos hr,if_pos hr];exact fC p va vf w hg ht h.a h.f hr (h.t hr)
 ·rw[if_neg hr,if_neg hr];exact eB p _ va vf w h.a h.f (by simpa using hr)
theorem aY {w:World}{p:Pr}{va vf:Value}(h:Qc w p va vf):
  Calls Zb 10 #[.agg #[va,vf]] w fun r w'=>r=.returned (.tuple #[.string (prS p),.int .i64 (prC p)])∧Below w.heap.size w w':=by
 unfold prS prC
 by_cases hr:Cd p=true
 ·rw[if_pos hr,if_pos hr];exact Xd p hr (h.t hr) _ va vf w h.a h.f
 ·rw[if_neg hr,if_neg hr];exact aM p (by simpa using hr) _ va vf w h.a h.f
theorem Ts(p:Pr)(D:Nat→Prop)(sa sf:Value)(w:World)(ha:Bp D w p.arrays sa)(hf:Bk D w p.funcs sf):
  Calls Zb 15 #[.agg #[sa,sf],.agg #[sa,sf]] w fun r w'=>r=.returned (.bool true)∧Below w.heap.size w w':=
 (Ne p p D sa sf sa sf w ha hf ha hf).mono fun _ _ ⟨h,hb⟩=>⟨by rw[h,(Ks p p).2 rfl],hb⟩
structure Sm (w:World)(e:Ex)(v:Value):Prop where
 a:Aj (· <w.heap.size) w e.args v
 n:I64 e.n
 t:Be e=true→(Ae e).length≤140737488355328
theorem Sm.old {w w':World}{e:Ex}{v:Value}(h:Sm w e v)(hb:Below w.heap.size w w'):Sm w' e v:=
 ⟨(h.a.old hb).mono (fun b hl=>Nat.lt_of_lt_of_le hl hb.size),h.n,h.t⟩
def exS(e:Ex):ByteArray:=if Be e=true then Aa (Ae e)else Aa []
def exC(e:Ex):Int:=if Be e=true then 0 else 1
theorem Wr {w:World}{e:Ex}{v:Value}(h:Sm w e v)(hg:3<w.heap.size)(ht:Da w):
  Calls Zb 18 #[exV e v] w fun r w'=>r=.returned (.tuple #[.string (exS e),.int .i64 (exC e)])∧Below w.heap.size w w':=by
 unfold exS exC
 by_cases hr:Be e=true
 ·rw[if_pos hr,if_pos hr];exact Lf e v w hg ht h.a h.n hr (h.t hr)
 ·rw[if_neg hr,if_neg hr];exact Mg e _ v w h.a (by simpa using hr)
theorem Vp {w:World}{e:Ex}{v:Value}(h:Sm w e v):
  Calls Zb 19 #[exV e v] w fun r w'=>r=.returned (.tuple #[.string (exS e),.int .i64 (exC e)])∧Below w.heap.size w w':=by
 unfold exS exC
 by_cases hr:Be e=true
 ·rw[if_pos hr,if_pos hr];exact Ud e hr (h.t hr) h.n _ v w h.a
 ·rw[if_neg hr,if_neg hr];exact We e (by simpa using hr) _ v w h.a
theorem odd_at:∀j:Nat,j<10→∃nm:Bs,([.string ⟨#[]⟩,.string ⟨#[120]⟩,.string ⟨#[109,97,105,110]⟩,.string ⟨#[102]⟩,.string ⟨#[97]⟩,.string ⟨#[105,102]⟩,.string ⟨#[49,97]⟩,.string ⟨#[112]⟩,.string ⟨#[121]⟩,.string ⟨#[103]⟩]:List Value)[j]? =some (.string (Aa nm)):=by
 intro j hj;have:j=0∨j=1∨j=2∨j=3∨j=4∨j=5∨j=6∨j=7∨j=8∨j=9:=by omega
 rcases this with rfl|rfl|rfl|rfl|rfl|rfl|rfl|rfl|rfl|rfl
 ·exact⟨[],rfl⟩
 ·exact⟨[120],rfl⟩
 ·exact⟨[109,97,105,110],rfl⟩
 ·exact⟨[102],rfl⟩
 ·exact⟨[97],rfl⟩
 ·exact⟨[105,102],rfl⟩
 ·exact⟨[49,97],rfl⟩
 ·exact⟨[112],rfl⟩
 ·exact⟨[121],rfl⟩
 ·exact⟨[103],rfl⟩
def OddIs(w:World)(s:Nat)(raw:List Int)(r:Ending)(w':World):Prop:= ∃nm a',r=.returned (.string (Aa nm))∧As w' s raw a'∧SFr s w w'
theorem Lq(s:Nat)(raw:List Int)(a:Nat)(w:World)(hs:As w s raw a):
  Calls Zb 25 #[.pointer (some ⟨s,0,none⟩)] w (OddIs w s raw):=by
 have hsl:=hs.lt;have hO:=Al.new w [.string ⟨#[]⟩,.string ⟨#[120]⟩,.string ⟨#[109,97,105,110]⟩,.string ⟨#[102]⟩,.string ⟨#[97]⟩,.string ⟨#[105,102]⟩,.string ⟨#[49,97]⟩,.string ⟨#[112]⟩,.string ⟨#[121]⟩,.string ⟨#[103]⟩] 9;have hs1:=hs.alloc (.cells #[.string ⟨#[]⟩,.string ⟨#[120]⟩,.string ⟨#[109,97,105,110]⟩,.string ⟨#[102]⟩,.string ⟨#[97]⟩,.string ⟨#[105,102]⟩,.string ⟨#[49,97]⟩,.string ⟨#[112]⟩,.string ⟨#[121]⟩,.string ⟨#[103]⟩] 9);have hf1:SFr s w (w.alloc (.cells #[.string ⟨#[]⟩,.string ⟨#[120]⟩,.string ⟨#[109,97,105,110]⟩,.string ⟨#[102]⟩,.string ⟨#[97]⟩,.string ⟨#[105,102]⟩,.string ⟨#[49,97]⟩,.string ⟨#[112]⟩,.string ⟨#[121]⟩,.string ⟨#[103]⟩] 9)):=SFr.alloc _;have HN:=Za (Bn s raw a 10 _ hs1 (by decide) (by decide));have hr:=Ak raw a 10 (by decide);have HO:=Za hO;have HF:=Za hf1;have HNE:Hid (w.heap.size≠s):=by show _≠_;omega
 clear hO hs1 hf1 hs hsl;generalize Ad raw a 10=q at*;obtain⟨j,a'⟩:=q;go_enter func25,ntmps25
 go_wp2_with fail
 refine HN.o.mono ?_;rintro r w2 ⟨rfl,hs2,hf2⟩;have HO2:=Za (HO.o.sfr hf2 HNE.o);have HF2:=Za (HF.o.trans hf2);have HS2:=Za hs2;obtain⟨j,rfl⟩:∃n:Nat,j=(n:Int):=⟨j.toNat,by have:0≤j:=hr.1;omega⟩;have hj:j<10:=by have:(j:Int)<10:=hr.2;omega
 obtain⟨nm,hnm⟩:=odd_at j hj;have c0:=HO2.o.at j _ hnm;have hjI:(j:Int)<10:=by omega
 clear hs2 hf2 HO HF HN hnm hr HO2;go_wp2_with fail
 go_ret
 exact⟨nm,a',rfl,HS2.o,HF2.o⟩
inductive Pu:Ex→Prop
 |num (n:Int) (h:0≤n):Pu (.mk 1 0 n [] [])
 |var (nm:Bs) (h:An nm=true):Pu (.mk 2 0 0 nm [])
 |one (o:Int) (x:Ex) (h:o=17∨o=18∨o=19) (hx:Bb x=true):Pu (.mk 3 o 0 [] [x])
 |two (o:Int) (x y:Ex) (h:0<Au o) (hx:Bb x=true) (hy:Bb y=true):Pu (.mk 4 o 0 [] [x,y])
 |call (nm:Bs) (l:List Ex) (h:An nm=true) (hn:l.length≤6) (hl:∀x,x∈l→Bb x=true):Pu (.mk 5 0 0 nm l)
 |index (nm:Bs) (x:Ex) (h:An nm=true) (hx:Bb x=true):Pu (.mk 6 0 0 nm [x])
 |read:Pu (.mk 7 0 0 [] [])
theorem len2 {α:Type}{l:List α}(h:l.length=2):∃x y,l=[x,y]:=by
 match l,h with
 |[x,y],_=>exact⟨x,y,rfl⟩
theorem Td {e:Ex}(h:Bb e=true):Pu e:=by
 obtain⟨k,o,n,nm,l⟩:=e;rw[Hf,Zq]at h;obtain⟨h,ha0⟩:=h;have ha:∀x,x∈l→Bb x=true:=List.all_eq_true.1 ha0;clear ha0;unfold Bw at h;simp only[Zq,beq_iff_eq]at h;obtain⟨⟨⟨⟨h1,h2⟩,h3⟩,h4⟩,h5⟩:=h;simp only[Du,Ca,Gd,Ho,Ds,Ex.kind,Ex.op,Ex.n,Ex.name,Ex.args]at h1 h2 h3 h4 h5;have hk:k=1∨k=2∨k=3∨k=4∨k=5∨k=6∨k=7:=by
  by_cases c1:k=1
  ·omega
  by_cases c2:k=2
  ·omega
  by_cases c3:k=3
  ·omega
  by_cases c4:k=4
  ·omega
  by_cases c5:k=5
  ·omega
  by_cases c6:k=6
  ·omega
  simp only[c1,c2,c3,c4,c5,c6,if_false]at h1;have:=of_decide_eq_true h1;omega
 rcases hk with rfl|rfl|rfl|rfl|rfl|rfl|rfl
 ·simp only[Zo,if_true,if_false,or_self,reduceIte]at h1 h2 h3 h4 h5
  have hl:l=[]:=Zr.1 (by omega);subst hl;subst h3;subst h5;exact .num n (of_decide_eq_true h1)
 ·simp only[Zo,if_true,if_false,or_self,or_false,false_or,true_or,or_true,reduceIte]at h1 h2 h3 h4 h5
  have hl:l=[]:=Zr.1 (by omega);subst hl;subst h3;subst h4;exact .var nm h1
 ·simp only[Zo,if_true,if_false,or_self,or_false,false_or,true_or,or_true,reduceIte]at h1 h2 h3 h4 h5
  obtain⟨x,rfl⟩:=Zj.1 (show l.length=1 by omega);subst h5;subst h4;exact .one o x (of_decide_eq_true h1) (ha x Zg)
 ·simp only[Zo,if_true,if_false,or_self,or_false,false_or,true_or,or_true,reduceIte]at h1 h2 h3 h4 h5
  obtain⟨x,y,rfl⟩:=len2 (show l.length=2 by omega);subst h5;subst h4;exact .two o x y (of_decide_eq_true h1) (ha x Zg) (ha y (by simp))
 ·simp only[Zo,if_true,if_false,or_self,or_false,false_or,true_or,or_true,reduceIte,Zq]at h1 h2 h3 h4 h5
  subst h3;subst h4;exact .call nm l h1.1 (by have:=of_decide_eq_true h1.2;omega) ha
 ·simp only[Zo,if_true,if_false,or_self,or_false,false_or,true_or,or_true,reduceIte]at h1 h2 h3 h4 h5
  obtain⟨x,rfl⟩:=Zj.1 (show l.length=1 by omega);subst h3;subst h4;exact .index nm x h1 (ha x Zg)
 ·simp only[Zo,if_true,if_false,or_self,or_false,false_or,true_or,or_true,reduceIte]at h1 h2 h3 h4 h5
  have hl:l=[]:=Zr.1 (by omega);subst hl;subst h3;subst h4;subst h5;exact .read
def SOk(x:St):Prop:= ∃m,De m x=true
inductive Ir:St→Prop
 |set (nm:Bs) (x:Ex) (h:An nm=true) (hx:Bb x=true):Ir (.mk 1 nm [x] [] [])
 |store (nm:Bs) (x y:Ex) (h:An nm=true) (hx:Bb x=true) (hy:Bb y=true):Ir (.mk 2 nm [x,y] [] [])
 |iff (x:Ex) (t e:List St) (hx:Bb x=true) (ht:∀y,y∈t→SOk y) (he:∀y,y∈e→SOk y):Ir (.mk 3 [] [x] t e)
 |loop (x:Ex) (t:List St) (hx:Bb x=true) (ht:∀y,y∈t→SOk y):Ir (.mk 4 [] [x] t [])
 |brk:Ir (.mk 5 [] [] [] [])
 |cont:Ir (.mk 6 [] [] [] [])
 |ret (x:Ex) (hx:Bb x=true):Ir (.mk 7 [] [x] [] [])
 |prt (x:Ex) (hx:Bb x=true):Ir (.mk 8 [] [x] [] [])
 |trp (x:Ex) (hx:Bb x=true):Ir (.mk 9 [] [x] [] [])
 |call (nm:Bs) (l:List Ex) (h:An nm=true) (hn:l.length≤6) (hl:∀x,x∈l→Bb x=true):Ir (.mk 10 [] [.mk 5 0 0 nm l] [] [])
theorem Qz {e:Ex}(h:Be e=true):Bb e=true:=by unfold Be at h;exact((Zq _ _).mp h).2
theorem canonS {x:St}(h:SOk x):Ir x:=by
 obtain⟨k,nm,l,t,e⟩:=x;obtain⟨m,h⟩:=h
 cases m with
 |zero=>cases h
 |succ m=>
  simp only[De,Ge,In,St.kind,St.args,St.thn,St.els,St.name,Zq,Bool.not_eq_true',Bool.or_eq_false_iff,Bool.not_eq_false',List.all_eq_true]at h;obtain⟨⟨⟨⟨⟨⟨⟨⟨h1,_⟩,h3⟩,h4⟩,h5⟩,⟨⟨h6,h7⟩,h8⟩⟩,ha⟩,ht⟩,he⟩:=h;have ha:∀x,x∈l→Bb x=true:=fun x hx=>Qz (ha x hx)
  have ht:∀x,x∈t→SOk x:=fun x hx=>⟨m,ht x hx⟩
  have he:∀x,x∈e→SOk x:=fun x hx=>⟨m,he x hx⟩
  have hk:=of_decide_eq_true h1;have hk:k=1∨k=2∨k=3∨k=4∨k=5∨k=6∨k=7∨k=8∨k=9∨k=10:=by omega
  rcases hk with rfl|rfl|rfl|rfl|rfl|rfl|rfl|rfl|rfl|rfl
  all_goals
   simp [Ea,Gv,Gu,Dq]at h3 h4 h5 h6 h7
  ·obtain⟨x,rfl⟩:=Zj.1 (show l.length=1 by omega)
   subst h4;subst h5;exact .set nm x h6 (ha x Zg)
  ·obtain⟨x,y,rfl⟩:=len2 (show l.length=2 by omega)
   subst h4;subst h5;exact .store nm x y h6 (ha x Zg) (ha y (by simp))
  ·obtain⟨x,rfl⟩:=Zj.1 (show l.length=1 by omega)
   subst h7;exact .iff x t e (ha x Zg) ht he
  ·obtain⟨x,rfl⟩:=Zj.1 (show l.length=1 by omega)
   subst h7;subst h5;exact .loop x t (ha x Zg) ht
  ·obtain rfl:l=[]:=Zr.1 (by simpa using h3)
   subst h7;subst h4;subst h5;exact .brk
  ·obtain rfl:l=[]:=Zr.1 (by simpa using h3)
   subst h7;subst h4;subst h5;exact .cont
  ·obtain⟨x,rfl⟩:=Zj.1 (show l.length=1 by omega)
   subst h7;subst h4;subst h5;exact .ret x (ha x Zg)
  ·obtain⟨x,rfl⟩:=Zj.1 (show l.length=1 by omega)
   subst h7;subst h4;subst h5;exact .prt x (ha x Zg)
  ·obtain⟨x,rfl⟩:=Zj.1 (show l.length=1 by omega)
   subst h7;subst h4;subst h5;exact .trp x (ha x Zg)
  ·obtain⟨x,rfl⟩:=Zj.1 (show l.length=1 by omega)
   subst h7;subst h4;subst h5;have hx:=ha x Zg;have h8:x.kind=5:=by simpa using h8
   have hc:=Td hx
   cases hc with
   |call nm l h hn hl=>exact .call nm l h hn hl
   |_=>exact absurd h8 (by simp [Ex.kind])
structure FOk (f:Fu):Prop where
 name:An f.name=true
 params:∀x,x∈f.params→An x=true
 locals:∀x,x∈f.locals→An x=true
 body:∀x,x∈f.body→SOk x
theorem Pb {f:Fu}(h:Co f=true):FOk f:=by
 unfold Co at h;simp only[Zq,List.all_eq_true]at h;exact⟨h.1.1.1.1,h.1.1.1.2,h.1.1.2,fun x hx=>⟨40,h.2 x hx⟩⟩
end Go.Proofs.YtfhbinbjkpfedaaGreatDoor
