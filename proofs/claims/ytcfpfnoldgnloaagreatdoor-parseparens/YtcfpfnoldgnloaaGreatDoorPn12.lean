/-
  ParseParens: for every input the law returns true. Conditions: the raw numbers lie in memory; the library's tables, too.
-/
import Derived.Test.YtcfpfnoldgnloaaGreatDoorPn11
import Derived.Lib.Strings
import Derived.Lib.Slices
import Derived.Lib.Walk
import Derived.Lib.Builder
import Derived.Lib.AppendStr
import Derived.Lib.UnsafeStr
import Derived.Lib.MakeNoZero
import Derived.Laws.Externs
import Derived.Shelf.RegionOpenPlain
import Derived.Laws.IdiomCopy
import Derived.Laws.BitsLemmas
import Derived.Test.YtcfpfnoldgnloaaGreatDoorPn02
set_option linter.unusedVariables false
set_option linter.unusedSimpArgs false
namespace Go.Proofs.YtcfpfnoldgnloaaGreatDoor
open Go.RowKit
set_option maxHeartbeats 20000000
set_option maxRecDepth 100000
open Go.Lib renaming hid→Za,byteCells→Zf,cell_of_heap→Zh
open Go.Proofs.Tryz renaming prog→Zb,func32→Zi,ntmps32→Zj
open List renaming getElem_cons_zero→Zc,getElem_cons_succ→Zd,length_append→Zg,length_cons→Zm
open Nat renaming le_refl→Ze
open World renaming setCell→Zk
open Bool renaming and_eq_true→Zl
open Below renaming heap_setCell→Zn
theorem Fd(raw:List Int)(a:Nat)(n:Int)(h:a≤raw.length):a≤(Ae raw a n).2∧(Ae raw a n).2≤raw.length:=by
 refine⟨?_,dS raw a n h⟩;unfold Ae;split
 ·exact Ze _
 ·show a≤a+1;omega
def cB(N:Nat)(g:Nat→Ex ×Nat):Prop:= ∀a,a≤N→a≤(g a).2∧(g a).2≤N∧(Af (g a).1).length+64*a≤1+64*(g a).2
theorem Tf(l:List Bs)(x:Bs):(Bm (l++[x])).length≤(Bm l).length+x.length+2:=by
 cases l with
 |nil=>simp [Bm]
 |cons y l=>
  rw[List.cons_append,Bm,Bm,List.flatMap_append];simp only[Zg,List.flatMap_cons,List.flatMap_nil,Zm,List.length_nil,List.append_nil];omega
theorem Me {N:Nat}{g:Nat→Ex ×Nat}(hg:cB N g):∀c a,a≤N→a≤(Cr g c a).2∧(Cr g c a).2≤N∧(Bm ((Cr g c a).1.map Af)).length+64*a≤3*c+64*(Cr g c a).2
 |0,a,h=>⟨Ze _,h,by simp [Cr,Bm]⟩
 |c+1,a,h=>by
  obtain⟨h1,h2,h3⟩:=Me hg c a h;obtain⟨q1,q2,q3⟩:=hg (Cr g c a).2 h2;rw[Cr];dsimp only;refine⟨by omega,q2,?_⟩;rw[List.map_append];have:=Tf ((Cr g c a).1.map Af) (Af (g (Cr g c a).2).1);show(Bm ((Cr g c a).1.map Af++[Af (g (Cr g c a).2).1])).length+64*a≤_
  omega
theorem Rs {N c:Nat}{nm:Bs}{m:List Ex ×Nat}{a b:Nat}(hn:nm.length≤20)(hc:c≤6)(hab:a≤b)(h:b≤m.2∧m.2≤N∧(Bm (m.1.map Af)).length+64*b≤3*c+64*m.2):a≤m.2∧m.2≤N∧(Af (.mk 5 0 0 nm m.1)).length+64*a≤65+64*m.2:=by
 obtain⟨h1,h2,h3⟩:=h;refine⟨by omega,h2,?_⟩;rw[Pm];simp only[Zg,Zm,List.length_nil];omega
theorem aO {sc:Sc}(hs:sc.Ok)(raw:List Int){g:Nat→Ex ×Nat}(hg:cB raw.length g)(k:Int)(a:Nat)(ha:a≤raw.length):a≤(Cc sc raw g k a).2∧(Cc sc raw g k a).2≤raw.length∧(Af (Cc sc raw g k a).1).length+64*a≤65+64*(Cc sc raw g k a).2:=by
 unfold Cc;split
 ·have h:=Jb (Tn hs raw a)
  have h2:a≤(Fg sc.free sc.vars raw a).2∧(Fg sc.free sc.vars raw a).2≤raw.length:=by
   unfold Fg;split<;>exact Fd raw a _ ha
  dsimp only;rw[Qa];exact⟨h2.1,h2.2,by omega⟩
 split
 ·have h2:=Fd raw a 3 ha
  dsimp only;rw[Pg];exact⟨h2.1,h2.2,by simp;omega⟩
 split
 ·have hb:a≤(if k=3 then(Ae raw a 3).2 else a)∧(if k=3 then(Ae raw a 3).2 else a)≤raw.length:=by
   split
   ·exact Fd raw a 3 ha
   ·exact⟨Ze _,ha⟩
  have n1:=Fd raw _ 1000 hb.2;have n2:=Fd raw _ 8 n1.2;have h1:=Ax raw (if k=3 then(Ae raw a 3).2 else a) 1000 (by decide);have h2:=Jn _ (Ae raw (Ae raw (if k=3 then(Ae raw a 3).2 else a) 1000).2 8).1 h1;have:=ex1_len _ h2 0 [] [];dsimp only;exact⟨by omega,n2.2,by omega⟩
 split
 ·have n1:=Fd raw a 3 ha
  obtain⟨q1,q2,q3⟩:=hg (Ae raw a 3).2 n1.2;dsimp only;rw[Pk _ _ _ _ (by simp)];have h2:=Ux (17+(Ae raw a 3).1);have h3:=Qd (g (Ae raw a 3).2).1 9 (Af (g (Ae raw a 3).2).1);refine⟨by omega,q2,?_⟩;show(Al _++Dm (g (Ae raw a 3).2).1 9 (Af (g (Ae raw a 3).2).1)).length+64*a≤_
  rw[Zg];omega
 split
 ·have h1:=Jb (Qz hs raw a)
  have n1:a≤(Cl sc.free sc.arrays raw a).2∧(Cl sc.free sc.arrays raw a).2≤raw.length:=by
   unfold Cl;split
   ·have m1:=Fd raw a 312 ha
    have m2:=Fd raw _ 1000 m1.2;exact⟨Nat.le_trans m1.1 m2.1,m2.2⟩
   ·exact Fd raw a _ ha
  obtain⟨q1,q2,q3⟩:=hg (Cl sc.free sc.arrays raw a).2 n1.2;dsimp only;rw[Op _ _ _ _ (by simp)];refine⟨by omega,q2,?_⟩;show(_++[91]++Af (g (Cl sc.free sc.arrays raw a).2).1++[93]).length+64*a≤_
  simp only[Zg,Zm,List.length_nil];omega
 split
 ·unfold Ia
  split
  ·have h7:=Ax raw (Ae raw a 312).2 7 (by decide)
   have m1:=Fd raw a 312 ha;have m2:=Fd raw _ 7 m1.2;exact Rs (c:=(Ae raw (Ae raw a 312).2 7).1.toNat) (b:=(Ae raw (Ae raw a 312).2 7).2) (Jb (Iz _)) (by omega) (Nat.le_trans m1.1 m2.1) (Me hg _ _ m2.2)
  ·rename_i hn
   have hl:=Xf hn;have hr:=Ax raw a sc.funcs.length (by omega);have hf:Ap (Gc sc.funcs (Ae raw a sc.funcs.length).1.toNat).name=true∧(Gc sc.funcs (Ae raw a sc.funcs.length).1.toNat).params.length≤6:=hs.funcs _ (gmem (d:=Fu.nil) (i:=(Ae raw a sc.funcs.length).1.toNat) (by omega));have m1:=Fd raw a sc.funcs.length ha;dsimp only;generalize Gc sc.funcs (Ae raw a sc.funcs.length).1.toNat=f at hf ⊢;exact Rs (c:=f.params.length) (Jb hf.1) hf.2 m1.1 (Me hg _ _ m1.2)
 ·have n1:=Fd raw a 16 ha
  obtain⟨q1,q2,q3⟩:=hg (Ae raw a 16).2 n1.2;obtain⟨r1,r2,r3⟩:=hg (g (Ae raw a 16).2).2 q2;dsimp only;rw[Qe _ _ _ _ (by simp)];have h3:=Ux (1+(Ae raw a 16).1);have h4:=Qd (g (Ae raw a 16).2).1 (Aj (1+(Ae raw a 16).1)) (Af (g (Ae raw a 16).2).1);have h5:=Qd (g (g (Ae raw a 16).2).2).1 (Aj (1+(Ae raw a 16).1)+1) (Af (g (g (Ae raw a 16).2).2).1);refine⟨by omega,r2,?_⟩;show(Dm (g (Ae raw a 16).2).1 (Aj (1+(Ae raw a 16).1)) (Af (g (Ae raw a 16).2).1)++([32]++(Al _++[32]))++Dm (g (g (Ae raw a 16).2).2).1 (Aj (1+(Ae raw a 16).1)+1) (Af (g (g (Ae raw a 16).2).2).1)).length+64*a≤_
  simp only[Zg,Zm,List.length_nil];omega
theorem Rp {sc:Sc}(hs:sc.Ok)(raw:List Int)(d:Nat){g:Nat→Ex ×Nat}(hg:cB raw.length g):cB raw.length (Nc sc raw d g):=by
 intro a ha;unfold Nc
 by_cases h:raw.length≤a
 ·have e:∀n,Ae raw a n=(0,a):=fun n=>by unfold Ae;rw[if_pos h]
  have ek:gK raw d a=0:=by unfold gK;rw[e];split<;>rfl
  rw[ek,e];show a≤(Cc sc raw g 0 a).2∧(Cc sc raw g 0 a).2≤raw.length∧(Af (Cc sc raw g 0 a).1).length+64*a≤1+64*(Cc sc raw g 0 a).2
  have eg:Cc sc raw g 0 a=(.mk 1 0 0 [] [],a):=by
   unfold Cc;rw[if_neg (by simp),if_neg (by simp),if_pos (by decide),if_neg (by decide)];dsimp only;rw[e 1000];dsimp only;rw[e 8];rfl
  rw[eg];refine⟨Ze _,ha,?_⟩;rw[Lm];have:(Lib.itoa 0).length=1:=by rw[Lib.itoa,if_neg (by decide)];rw[Lib.decDigits,dif_pos (by decide)];rfl
  rw[this];exact Ze _
 ·have e:(Ae raw a 12).2=a+1:=by unfold Ae;rw[if_neg h]
  rw[e];obtain⟨h1,h2,h3⟩:=aO hs raw hg (gK raw d a) (a+1) (by omega);exact⟨by omega,h2,by omega⟩
theorem Rt {sc:Sc}(hs:sc.Ok)(raw:List Int):∀d,cB raw.length (Aw sc raw d)
 |0=>by
  rw[Aw];exact Rp hs raw 0 (fun a ha=>⟨Ze _,ha,by
   have:(Af (Ex.nil)).length=0:=by show(Af (.mk 0 0 0 [] [])).length=0;rw[Ey];decide
   show(Af Ex.nil).length+64*a≤1+64*a
   omega⟩)
 |d+1=>by
  rw[Aw];exact Rp hs raw (d+1) (Rt hs raw d)
theorem Ql(raw0:List Int):(Af (Ii raw0)).length≤6401:=by
 have hs:Sc.Ok ⟨[],[],[],true,false⟩:=⟨fun x hx=>(by cases hx),fun x hx=>(by cases hx),fun x hx=>(by cases hx)⟩;have h:=(Rt hs (raw0.take 100) 6 0 (Nat.zero_le _));have hl:(raw0.take 100).length≤100:=by rw[List.length_take];omega
 have e:Ii raw0=(Aw ⟨[],[],[],true,false⟩ (raw0.take 100) 6 0).1:=rfl;rw[e];obtain⟨h1,h2,h3⟩:=h;omega
def awP:List It:=[⟨[105,110,116],2,0,[32],[]⟩,⟨[109,97,105,110],1,0,[],[]⟩,⟨[40],4,0,[],[]⟩,⟨[41],4,0,[32],[]⟩,⟨[123],4,0,[32],[]⟩,⟨[112,114,105,110,116],2,0,[],[]⟩,⟨[40],4,0,[],[]⟩,⟨[49],3,1,[32],[]⟩,⟨[43],4,0,[32],[]⟩,⟨[50],3,2,[32],[]⟩,⟨[42],4,0,[32],[]⟩,⟨[51],3,3,[],[]⟩,⟨[41],4,0,[],[]⟩,⟨[59],4,0,[32],[]⟩,⟨[125],4,0,[],[]⟩]
def awQ:List It:=[⟨[105,110,116],2,0,[32],[]⟩,⟨[109,97,105,110],1,0,[],[]⟩,⟨[40],4,0,[],[]⟩,⟨[41],4,0,[32],[]⟩,⟨[123],4,0,[10],[]⟩]
def awX:List It:=[⟨[97],1,0,[32],[]⟩,⟨[45],4,0,[32],[]⟩,⟨[98],1,0,[32],[]⟩,⟨[45],4,0,[32],[]⟩,⟨[99],1,0,[],[]⟩]
theorem awP_ok:aJ [] awP=true:=by kernel_rfl
theorem awQ_ok:aJ [] awQ=true:=by kernel_rfl
theorem awX_ok:aJ [] awX=true:=by kernel_rfl
theorem aw_p(w:World)(hl:Fh w):
  Calls Zb 14 #[.string ⟨#[105,110,116,32,109,97,105,110,40,41,32,123,32,112,114,105,110,116,40,49,32,43,32,50,32,42,32,51,41,59,32,125]⟩] w fun e w'=>
   Below w.heap.size w w'∧∃aa an ac b off cap b2 o2 c2,e= .returned (.tuple #[.agg #[.slice aa an ac,.slice (some ⟨b,off,none⟩) 1 cap],.int .i64 0,.int .i64 0])∧w'.cell? ⟨b,off+3,none⟩=some (.slice (some ⟨b2,o2,none⟩) 1 c2)∧w'.cell? ⟨b2,o2,none⟩=some (.int .i64 8)∧1≤cap∧1≤c2:=by
 obtain⟨h1,h2⟩:=Oc [] awP awP_ok;refine(Rw [] [] Ky awP h1 h2 (by decide) (by decide) 100 (by decide) w hl).mono ?_;intro e w' hp;obtain⟨hb,v,he,av,fv,hv,hxa,hxf⟩:=hp;have e1:(Lh (Qu (Fj 100 ⟨[],[]⟩ (Cq (1+Bt (Ah [] [])) awP)))).2.1=0:=by kernel_rfl
 have e2:(Lh (Qu (Fj 100 ⟨[],[]⟩ (Cq (1+Bt (Ah [] [])) awP)))).2.2=0:=by kernel_rfl
 have e3:(Lh (Qu (Fj 100 ⟨[],[]⟩ (Cq (1+Bt (Ah [] [])) awP)))).1.funcs.length=1:=by kernel_rfl
 have e4:(Gc (Lh (Qu (Fj 100 ⟨[],[]⟩ (Cq (1+Bt (Ah [] [])) awP)))).1.funcs 0).body.length=1:=by kernel_rfl
 have e5:(Jq (Gc (Lh (Qu (Fj 100 ⟨[],[]⟩ (Cq (1+Bt (Ah [] [])) awP)))).1.funcs 0).body 0).kind=8:=by kernel_rfl
 generalize Lh (Qu (Fj 100 ⟨[],[]⟩ (Cq (1+Bt (Ah [] [])) awP)))=R at*;obtain⟨a,cap,b,off,pv,lv,bv,rfl,hc,_,hz,hall⟩:=hxf;rw[e3]at hc hz hall;obtain⟨⟨_,_,_,g3⟩,_,_,hst⟩:=hall 0 (by decide);obtain⟨a2,c2,hs2⟩:=hst.shape;rw[hs2]at hst g3;rcases hz with hz|⟨rfl,_⟩
 ·omega
 have hq:∃b2 o2,a2=some ⟨b2,o2,none⟩∧w'.cell? ⟨b2,o2,none⟩=some (.int .i64 8)∧1≤c2:=by
  rw[←e5]
  cases hst with
  |mk _ _ _ b2 o2 sa st se hcap hfit ha h0=>
   rcases ha with ha|⟨ha,_⟩
   ·omega
   ·exact⟨b2,o2,ha,by simpa using h0 0 (by omega),by omega⟩
 obtain⟨b2,o2,rfl,hk,hc2⟩:=hq;rw[e4]at g3;obtain⟨aa,an,ac,rfl⟩:∃a n c,av=Value.slice a n c:=by obtain⟨a,c,h⟩:=hxa.yshape;exact⟨a,_,c,h⟩
 refine⟨hb,aa,an,ac,b,off,cap,b2,o2,c2,?_,by simpa using g3,hk,hc,hc2⟩;rw[he,hv,e1,e2,e3]
theorem aw_q(w:World)(hl:Fh w):
  Calls Zb 14 #[.string ⟨#[105,110,116,32,109,97,105,110,40,41,32,123,10]⟩] w fun e w'=>
   Below w.heap.size w w'∧∃aa an ac fa fn fc,e= .returned (.tuple #[.agg #[.slice aa an ac,.slice fa fn fc],.int .i64 40,.int .i64 2]):=by
 obtain⟨h1,h2⟩:=Oc [] awQ awQ_ok;refine(Rw [] [] Ky awQ h1 h2 (by decide) (by decide) 100 (by decide) w hl).mono ?_;intro e w' hp;obtain⟨hb,v,he,av,fv,hv,hxa,hxf⟩:=hp;obtain⟨aa,an,ac,rfl⟩:∃a n c,av=Value.slice a n c:=by obtain⟨a,c,h⟩:=hxa.yshape;exact⟨a,_,c,h⟩
 obtain⟨fa,fn,fc,rfl⟩:∃a n c,fv=Value.slice a n c:=by obtain⟨a,c,h⟩:=hxf.yshape;exact⟨a,_,c,h⟩
 refine⟨hb,aa,an,ac,fa,fn,fc,?_⟩;rw[he,hv];rfl
theorem aw_x(w:World)(hl:Fh w):
  Calls Zb 13 #[.string ⟨#[97,32,45,32,98,32,45,32,99]⟩] w fun e w'=>
   Below w.heap.size w w'∧∃k o n s b off cap,e= .returned (.tuple #[.agg #[.int .i64 k,.int .i64 o,.int .i64 n,.string s,.slice (some ⟨b,off,none⟩) 2 cap],.int .i64 0,.int .i64 0])∧w'.cell? ⟨b,off+8,none⟩=some (.string ⟨#[99]⟩):=by
 obtain⟨h1,h2⟩:=Oc [] awX awX_ok;refine(Tw [] [] Ky awX h1 h2 (by decide) (by decide) 100 (by decide) w hl).mono ?_;intro e w' hp;obtain⟨hb,v,he,s,hv,hx,hn⟩:=hp;have e1:(Kw (Nu (Aq 100 1 (Cq (1+Bt (Ah [] [])) awX)))).2.1=0:=by kernel_rfl
 have e2:(Kw (Nu (Aq 100 1 (Cq (1+Bt (Ah [] [])) awX)))).2.2=0:=by kernel_rfl
 have e3:(Kw (Nu (Aq 100 1 (Cq (1+Bt (Ah [] [])) awX)))).1.args.length=2:=by kernel_rfl
 have e4:(Ci (Kw (Nu (Aq 100 1 (Cq (1+Bt (Ah [] [])) awX)))).1.args 1).name=[99]:=by kernel_rfl
 generalize Kw (Nu (Aq 100 1 (Cq (1+Bt (Ah [] [])) awX)))=R at*;obtain⟨a,cap,rfl⟩:=hx.shape;obtain⟨b,off,s2,rfl,_,_,_,_,h4,_⟩:=hx.cellAt 1 (by omega);rw[e4]at h4;refine⟨hb,R.1.kind,R.1.op,R.1.n,Aa R.1.name,b,off,cap,?_,h4⟩;rw[he,hv,e1,e2,e3]
theorem Wo(w:World)(hl:Fh w):
  Calls Zb 11 #[] w fun e w'=>e= .returned (.bool true)∧Below w.heap.size w w':=by
 have HL:=Za hl;clear hl;go_enter Tryz.func11,Tryz.ntmps11
 go_wp2_with fail
 refine(aw_p w HL.out).mono ?_;rintro e w1 ⟨hb1,aa,an,ac,b,off,cap,b2,o2,c2,rfl,h3,hk,hc,hc2⟩;have hal:Below w1.heap.size w1 (w1.alloc (.cells #[.slice aa an ac,.slice (some ⟨b,off,none⟩) 1 cap] 34)):=bA;have HO:=Za (Ac.new w1 [.slice aa an ac,.slice (some ⟨b,off,none⟩) 1 cap] 34);have HL1:=Za ((HL.out.old hb1).old hal);have HB1:=Za (hb1.trans (hal.mono hb1.size));have H3:=Za (Ab hal h3);have HK:=Za (Ab hal hk);clear hb1 h3 hk hal;go_upto_region 2 with(fail)
 generalize w1.alloc (.cells #[.slice aa an ac,.slice (some ⟨b,off,none⟩) 1 cap] 34)=w2 at*;obtain⟨pb,hpb⟩:∃pb,w1.heap.size=pb:=⟨_,rfl⟩;rw[hpb]at HO ⊢;clear hpb;go_wp2_with fail
 refine(aw_q w2 HL1.out).mono ?_;rintro e w3 ⟨hb3,a3,n3,d3,f3,m3,e3,rfl⟩;have hal:Below w3.heap.size w3 (w3.alloc (.cells #[.slice a3 n3 d3,.slice f3 m3 e3] 34)):=bA;have HO3:=Za ((HO.out.old hb3).old hal);have HL3:=Za ((HL1.out.old hb3).old hal);have HB3:=Za (HB1.out.trans ((hb3.trans (hal.mono hb3.size)).mono HB1.out.size));have H33:=Za (Ab hal (Ab hb3 H3.out));have HK3:=Za (Ab hal (Ab hb3 HK.out));clear hb3 hal HO HL1 HB1 H3 HK;go_upto_region 3 with(fail)
 generalize w3.alloc (.cells #[.slice a3 n3 d3,.slice f3 m3 e3] 34)=w4 at*;go_wp2_with fail
 refine(aw_x w4 HL3.out).mono ?_;rintro e w5 ⟨hb5,k,o,n,s,b5,off5,cap5,rfl,h5⟩;have hal:Below w5.heap.size w5 (w5.alloc (.cells #[.int .i64 k,.int .i64 o,.int .i64 n,.string s,.slice (some ⟨b5,off5,none⟩) 2 cap5] 27)):=bA;have HO5:=Za ((HO3.out.old hb5).old hal);have HX5:=Za (Ac.new w5 [.int .i64 k,.int .i64 o,.int .i64 n,.string s,.slice (some ⟨b5,off5,none⟩) 2 cap5] 27);have HB5:=Za (HB3.out.trans ((hb5.trans (hal.mono hb5.size)).mono HB3.out.size));have H35:=Za (Ab hal (Ab hb5 H33.out));have HK5:=Za (Ab hal (Ab hb5 HK3.out));have H85:=Za (Ab hal h5);clear hb5 hal HO3 HL3 HB3 H33 HK3 h5;go_upto_region 4 with(fail)
 generalize w5.alloc (.cells #[.int .i64 k,.int .i64 o,.int .i64 n,.string s,.slice (some ⟨b5,off5,none⟩) 2 cap5] 27)=w6 at*;obtain⟨xb,hxb⟩:∃xb,w5.heap.size=xb:=⟨_,rfl⟩;rw[hxb]at HX5 ⊢;clear hxb;have p1:=HO5.out.at 1 _ rfl;have q4:=HX5.out.at 4 _ rfl;have c3:=H35.out;have ck:=HK5.out;have c8:=H85.out;have hcI:(1:Int)≤(cap:Int):=by omega
 go_wp2_with fail
 go_ret
 exact⟨rfl,HB5.out⟩
def Od(c n:Int):Int:=if c<0 then(-(c+1)) % n else c % n
theorem aH(c n:Int)(hc:I64 c)(h0:0<n)(h1:n≤9223372036854775807)(w:World):
  Calls Zb 12 #[.int .i64 c,.int .i64 n] w fun e w'=>e= .returned (.int .i64 (Od c n))∧w'=w:=by
 obtain⟨l,u⟩:=hc;unfold Od
 by_cases hneg:c<0
 ·rw[if_pos hneg]
  have hn0:(n==0)=false:=by simp;omega
  go_enter Tryz.func12,Tryz.ntmps12
  go_wp2_with fail
  go_ret
  exact⟨Ek (by show -((c+1).tmod n)=_;rw[←Int.neg_tmod,Int.tmod_eq_emod_of_nonneg (by omega)]),rfl⟩
 ·rw[if_neg hneg]
  have hneg':0≤c:=by omega
  go_enter Tryz.func12,Tryz.ntmps12
  go_wp2_with fail
  go_ret
  exact⟨rfl,rfl⟩
theorem Vb(c n:Int)(h:0<n):∃k:Nat,Od c n=k∧(k:Int)<n:=by
 unfold Od;split
 ·exact⟨((-(c+1)) % n).toNat,by have:=Int.emod_nonneg (-(c+1)) (show n≠0 by omega);omega,by have:=Int.emod_nonneg (-(c+1)) (show n≠0 by omega);have:=Int.emod_lt_of_pos (-(c+1)) h;omega⟩
 ·exact⟨(c % n).toNat,by have:=Int.emod_nonneg c (show n≠0 by omega);omega,by have:=Int.emod_nonneg c (show n≠0 by omega);have:=Int.emod_lt_of_pos c h;omega⟩
def own(w:World)(b:Nat):Option Nat:=
 match w.heap[b]? with
 |some (.cells cs _ _)=>(cs.getD 1 undef).ownBlock
 |_=>none
def Cu(w:World)(b:Nat)(bs:Bs)(t:Int):Prop:=
 ∃p v,w.heap[b]? =some (.cells #[p,v,.int .i64 t] 81 (0,0))∧(p= .pointer none∨p= .pointer (some ⟨b,0,none⟩))∧w.ownsRow (b+1) 5 1 v bs.length (Zf bs)
structure PFr (b:Nat)(w w':World):Prop where
 os:w'.os=w.os
 tape:w'.tape=w.tape
 output:w'.output=w.output
 size:w.heap.size≤w'.heap.size
 block:∀k,k<w.heap.size→k≠b→own w b≠some k→w'.heap[k]? =w.heap[k]?
 own:own w' b=own w b∨∃k,w.heap.size≤k∧own w' b=some k
theorem PFr.refl(b:Nat)(w:World):PFr b w w:=⟨rfl,rfl,rfl,Ze _,fun _ _ _ _=>rfl,.inl rfl⟩
theorem PFr.trans {b:Nat}{u v w:World}(h:PFr b u v)(k:PFr b v w):PFr b u w where
 os:=k.os.trans h.os
 tape:=k.tape.trans h.tape
 output:=k.output.trans h.output
 size:=Nat.le_trans h.size k.size
 block i hi hb ho:=by
  refine(k.block i (Nat.lt_of_lt_of_le hi h.size) hb ?_).trans (h.block i hi hb ho);rcases h.own with e|⟨j,hj,e⟩
  ·rw[e];exact ho
  ·rw[e];intro c;cases c;omega
 own:=by
  rcases k.own with e|⟨j,hj,e⟩
  ·rcases h.own with e'|⟨j,hj,e'⟩
   ·exact .inl (e.trans e')
   ·exact .inr ⟨j,hj,e.trans e'⟩
  ·exact .inr ⟨j,Nat.le_trans h.size hj,e⟩
theorem cK {w w':World}{b:Nat}(h:w'.heap[b]? =w.heap[b]?):own w' b=own w b:=by simp [own,h]
theorem PFr.of_below {b:Nat}{w w':World}(h:Below w.heap.size w w')(hb:b<w.heap.size):PFr b w w':=
 ⟨h.os,h.tape,h.output,h.size,fun k hk _ _=>h.block k hk,.inl (cK (h.block b hb))⟩
theorem Cu.lt {w:World}{b:Nat}{bs:Bs}{t:Int}(h:Cu w b bs t):b<w.heap.size:=by
 obtain⟨p,v,hb,_⟩:=h;rcases Nat.lt_or_ge b w.heap.size with h'|h'
 ·exact h'
 ·simp [Array.getElem?_eq_none h']at hb
theorem Cu.own_gt {w:World}{b:Nat}{bs:Bs}{t:Int}(h:Cu w b bs t){k:Nat}(ho:own w b=some k):b<k∧k<w.heap.size:=by
 obtain⟨p,v,hb,_,hown⟩:=h;have:v.ownBlock=some k:=by simpa [own,hb]using ho
 have:=hown.lt k this;omega
theorem PFr.below {w w':World}{b:Nat}{bs:Bs}{t:Int}(h:PFr b w w')(hp:Cu w b bs t):Below b w w':=
 ⟨h.os,h.tape,h.output,h.size,fun k hk=>h.block k (by have:=hp.lt;omega) (by omega) (fun e=>by have:=hp.own_gt e;omega)⟩
theorem Cu.old {w w':World}{b:Nat}{bs:Bs}{t:Int}(hp:Cu w b bs t)(h:Below w.heap.size w w'):Cu w' b bs t:=by
 obtain⟨p,v,hb,hq,hown⟩:=hp;have hlt:b<w.heap.size:=Cu.lt ⟨p,v,hb,hq,hown⟩;refine⟨p,v,(h.block b hlt).trans hb,hq,hown.1,?_⟩;rcases hown.2 with e|⟨g,cap,cur,hv,hg,hh,r⟩
 ·exact .inl e
 ·refine .inr ⟨g,cap,cur,hv,hg,?_,r⟩
  have hl:g<w.heap.size:=by
   rcases Nat.lt_or_ge g w.heap.size with h'|h'
   ·exact h'
   ·simp [Array.getElem?_eq_none h']at hh
  exact(h.block g hl).trans hh
def Loc(w:World)(b X:Nat)(cs:List Value):Prop:=X≠b∧own w b≠some X∧X<w.heap.size∧Df w X 0 cs
theorem Loc.step {w w':World}{b X:Nat}{cs:List Value}(h:Loc w b X cs)(hf:PFr b w w'):Loc w' b X cs:=by
 obtain⟨h1,h2,h3,h4⟩:=h;refine⟨h1,?_,Nat.lt_of_lt_of_le h3 hf.size,fun i hi=> ?_⟩
 ·rcases hf.own with e|⟨j,hj,e⟩
  ·rw[e];exact h2
  ·rw[e];intro c;cases c;omega
 ·rw[World.cell?_of_block (w:=w) (hf.block X h3 h1 h2)];exact h4 i hi
theorem Loc.new {w:World}{b:Nat}{bs:Bs}{t:Int}(hp:Cu w b bs t)(cs:List Value)(T:TypeId):Loc (w.alloc (.cells cs.toArray T)) b w.heap.size cs:=by
 refine⟨by have:=hp.lt;omega,?_,by simp,fun i hi=>by simp⟩;rw[cK (Below.heap_alloc w _ b hp.lt)];intro e;have:=(hp.own_gt e).2;omega
theorem Loc.cell {w:World}{b X:Nat}{cs:List Value}(h:Loc w b X cs)(i:Nat)(hi:i<cs.length):w.cell? ⟨X,i,none⟩=some cs[i]:=by
 have:=h.2.2.2 i hi;simpa using this
theorem PFr.keeps {w w':World}{b:Nat}{bs:Bs}{t:Int}(h:PFr b w w')(hp:Cu w b bs t):Cp (· <b) w w':=
 fun k off x hk hx=>by rw[(h.below hp).cell (p:=⟨k,off,none⟩) hk];exact hx
theorem eL:(Tryz.prog.info? 5).map (fun i=>(i.zero,i.size,i.bytes))=some (some (.int .u8 0),1,1):=by kernel_rfl
theorem Nb:(Tryz.prog.info? 79).map (fun i=>i.size)=some 2:=by kernel_rfl
theorem Vo:liesAt Zb Tryz.prog.depth 81 (3 / Tryz.prog.cellsOf 81) 0 79 1=true:=by kernel_rfl
theorem Px(b:Nat)(w:World)(h0:w.cell? ⟨b,0,none⟩=some (.pointer (some ⟨b,0,none⟩))):
  Calls Zb 186 #[.pointer (some ⟨b,0,none⟩)] w fun e w'=>e= .returned (.tuple #[])∧w=w':=by
 obtain⟨j,hj,_⟩:=Option.map_eq_some_iff.1 Nb;go_enter Tryz.func186,Tryz.ntmps186
 go_wp2_with fail
 rw[Lib.run_neq_ptr_same w _ Tryz.underlying76 hj];go_wp2_with fail
 go_end0
 exact⟨rfl,rfl⟩
theorem Nx(b:Nat)(w:World)(h0:w.cell? ⟨b,0,none⟩=some (.pointer none))(hsh:w.shape? b=some (81,3))(hfz:w.frozen? ⟨b,0,none⟩=false):
  Calls Zb 186 #[.pointer (some ⟨b,0,none⟩)] w fun e w'=>e= .returned (.tuple #[])∧w'=w.setCell ⟨b,0,none⟩ (.pointer (some ⟨b,0,none⟩)):=by
 obtain⟨j,hj,hjs⟩:=Option.map_eq_some_iff.1 Nb;go_enter Tryz.func186,Tryz.ntmps186
 go_wp2_with fail
 rw[Lib.run_to_unsafe w ⟨b,0,none⟩ Tryz.underlying76 Tryz.underlying208 hj (by rw[hjs];decide) hsh (Nat.zero_lt_succ 2)];simp only[Result.andThen];rw[Oper.upon_value];go_wp2_with fail
 rw[run_callFunc_extern Tryz.func205 (by kernel_rfl) (by kernel_rfl) (by kernel_rfl) (e:=Extern.AbiNoEscape.same) (by kernel_rfl)];rw[Lib.run_noEscape];simp only[Result.andThen];rw[Oper.upon_value];go_wp2_with fail
 rw[Lib.run_from_unsafe w ⟨b,0,none⟩ Tryz.underlying208 Tryz.underlying76 hj hsh Vo];simp only[Result.andThen];rw[Oper.upon_value];go_wp2_with fail
 go_end0
 exact⟨rfl,rfl⟩
def Wh(w:World)(b:Nat)(bs:Bs)(t:Int)(txt:Bs)(r:Ending)(w':World):Prop:=r= .returned (.tuple #[])∧Cu w' b (bs++txt) t∧PFr b w w'
theorem Qp(b:Nat)(bs:Bs)(t:Int)(w:World)(h:Cu w b bs t):
  Calls Zb 186 #[.pointer (some ⟨b,0,none⟩)] w fun e w'=>e= .returned (.tuple #[])∧PFr b w w'∧
   ∃v,w'.heap[b]? =some (.cells #[.pointer (some ⟨b,0,none⟩),v,.int .i64 t] 81 (0,0))∧w'.ownsRow (b+1) 5 1 v bs.length (Zf bs):=by
 have hlt:=h.lt;obtain⟨p,v,hb,hq,hown⟩:=h;rcases hq with rfl|rfl
 ·refine(Nx b w (by rw[Zh hb];rfl) (by simp [World.shape?,hb]) (Lib.frozen_of_heap hb 0)).mono ?_
  rintro e w' ⟨rfl,rfl⟩;have hb':(w.setCell ⟨b,0,none⟩ (.pointer (some ⟨b,0,none⟩))).heap[b]? =some (.cells #[.pointer (some ⟨b,0,none⟩),v,.int .i64 t] 81 (0,0)):=by
   simp [Zk,Array.getElem?_modify,hb]
  refine⟨rfl,⟨rfl,rfl,rfl,by simp [Zk],fun k _ hk _=>Zn _ _ _ _ hk,.inl (by simp [own,hb,hb'])⟩,v,hb',?_⟩;refine hown.kept (row:=some b) ⟨rfl,rfl,rfl,by simp [Zk],fun k _ hk=>Zn _ _ _ _ (fun e=>hk (by simp [e]))⟩ (Or.inr ?_);intro e;have:=hown.lt b e;omega
 ·refine(Px b w (by rw[Zh hb];rfl)).mono ?_
  rintro e w' ⟨rfl,rfl⟩;exact⟨rfl,PFr.refl _ _,v,hb,hown⟩
theorem Xj(P:Program)(w:World)(base:Nat)(t u ty e:TypeId)(i:TypeInfo)(ht:P.underlying t=some (.slice e))(hu:P.underlying u=some .string)(hi:P.info? e=some i)(hz:i.zero=some (.int .u8 0))
  (hsize:i.size=1) (hby:i.bytes=1) (v:Value) (n:Nat) (xs:List Value) (hown:w.ownsRow base e 1 v n xs) (s:ByteArray)
  (h63:n+s.size≤maxLen) (hbytes:n+s.size≤140737488355328) (hbase:base≤w.heap.size):
  ∃v' w',(Builtin.append_ #[t,u] ty #[v,.string s]).run P w= .ok v' w'∧w'.ownsRow base e 1 v' (n+s.size) (xs++Lib.strCells s)∧w.grownBy w' v.ownBlock∧
   (v'.ownBlock=v.ownBlock∨∃k,w.heap.size≤k∧v'.ownBlock=some k):=by
 obtain⟨v',w',hr,h2,h3,h4⟩:=Lib.run_append_own_string (P:=P) w base t u ty e i ht hu hi hz hsize hby v n xs hown s h63 hbytes hbase;refine⟨v',w',hr,h2,h3,?_⟩;have h63':n+s.size≤9223372036854775807:=by simp only[maxLen]at h63;omega
 rcases hown.2 with⟨rfl,rfl⟩|⟨g,cap,cur,rfl,hbg,hg,hnc,hcm,hcs,htake⟩
 ·by_cases hm:s.size=0
  ·rw[h4.2 ⟨rfl,hm⟩];exact .inl rfl
  ·have hq:=run_append_nil_string (P:=P) w t u ty e i (.int .u8 0) ht hu hi hz s (by omega) (by omega) (by rw[hby];omega)
   rw[hr]at hq
   cases hq
   exact .inr ⟨w.heap.size,Ze _,rfl⟩
 ·by_cases hroom:n+s.size≤cap
  ·have hcs':cur.size=cap:=by simpa using hcs
   have hq:=Lib.run_append_room_string (P:=P) w t u ty e i ht hu hi hsize g n cap cur hg s hroom (by omega);rw[hr]at hq
   cases hq
   exact .inl rfl
  ·have hxl:xs.length=n:=by simpa using hown.1
   have holds:∀j u,xs[j]? =some u→w.cell? ((⟨g,0,none⟩:Addr).add j)=some u:=hown.cells (g:=g) rfl;have hq:=Lib.run_append_grow_string (P:=P) w t u ty e i (.int .u8 0) ht hu hi hz ⟨g,0,none⟩ n cap xs (by rw[hsize];simpa using hxl) holds s (by omega) (by omega) (by rw[hby];exact growslice_fits (by omega) (by omega));rw[hr]at hq
   cases hq
   exact .inr ⟨w.heap.size,Ze _,rfl⟩
theorem Lw {P:Program}{w:World}{ops:Array Oper}{rest:List Oper}{o:Oper}{a:Act}{Q:Exit→Act→World→Prop}(hgd:o.guard=none)(sl x:Operand)(t u:TypeId)
  (ho:o.op= .call {callee:= .builtin .append,args:= #[sl,x],argTypes:= #[t,u]})
  (base:Nat) (e:TypeId) (i:TypeInfo) (ht:P.underlying t=some (.slice e)) (hu:P.underlying u=some .string) (hi:P.info? e=some i) (hz:i.zero=some (.int .u8 0))
  (hsize:i.size=1) (hby:i.bytes=1)
  (v:Value) (n:Nat) (xs:List Value) (hs:a.eval sl=v) (hown:w.ownsRow base e 1 v n xs) (s:ByteArray) (hx:a.eval x= .string s)
  (h63:n+s.size≤maxLen) (hbytes:n+s.size≤140737488355328) (hbase:base≤w.heap.size)
  (h:∀v' w',w'.ownsRow base e 1 v' (n+s.size) (xs++Lib.strCells s)→w.grownBy w' v.ownBlock→(v'.ownBlock=v.ownBlock∨∃k,w.heap.size≤k∧v'.ownBlock=some k)→wpList P ops Q rest (a.put o.dst v') w'):wpList P ops Q (o::rest) a w:=by
 refine wpList_plain hgd fun K hK=> ?_
 obtain⟨v',w',hr,h2,h3,h4⟩:=Xj P w base t u o.type e i ht hu hi hz hsize hby v n xs hown s h63 hbytes hbase;unfold Oper.wp execOp;simp only[ho,resolve,invoke,builtin,Sem.run_bind,Sem.run_pure,Result.andThen_ok,List.map_toArray,List.map_cons,List.map_nil,hs,hx,hr];exact hK _ _ (h v' w' h2 h3 h4)
theorem Pf(s:Bs):Lib.strCells (Aa s)=Zf s:=by simp [Lib.strCells,Zf]
theorem Qt(a c:Bs):Zf a++Zf c=Zf (a++c):=by simp [Zf]
theorem Nv(s:Bs)(b:Nat)(bs:Bs)(t:Int)(w:World)(h:Cu w b bs t)(hlen:Fa (bs.length+s.length)):
  Calls Zb 129 #[.pointer (some ⟨b,0,none⟩),.string (Aa s)] w fun e w'=>e= .returned (.tuple #[.int .i64 s.length,.nilIface])∧Cu w' b (bs++s) t∧PFr b w w':=by
 obtain⟨i0,hi,hz0,hz1,hz2⟩:=info_parts eL;have hlt:=h.lt;have HL:Hid (bs.length+s.length≤140737488355328):=hlen;clear hlen;go_enter Tryz.func129,Tryz.ntmps129
 go_wp2_with fail
 refine(Qp b bs t _ h).mono ?_;rintro e w1 ⟨rfl,hf1,v,hbk,hown⟩;have HF1:=Za hf1;have hs1:=hf1.size;clear hf1 h;have c0:w1.cell? ⟨b,0,none⟩=some (.pointer (some ⟨b,0,none⟩)):=by rw[Zh hbk];rfl
 have c1:w1.cell? ⟨b,1,none⟩=some v:=by rw[Zh hbk];rfl
 go_wp2_with (at_builtin;refine Lw (P:=Zb) rfl _ _ 77 9 rfl (b+1) 5 i0 Tryz.underlying77 Tryz.underlying9 hi hz0 hz1 hz2 _ _ _ rfl hown (Aa s) rfl ?c3 ?c4 ?c5 ?_)
 case c3=>have:=HL.out;unfold maxLen;show bs.length+s.length≤_;omega
 case c4=>exact HL.out
 case c5=>omega
 intro v' w2 hown' hgrow hwhere;have hlt1:b<w1.heap.size:=by omega
 have hb2:w2.heap[b]? =some (.cells #[.pointer (some ⟨b,0,none⟩),v,.int .i64 t] 81 (0,0)):=by
  rw[hgrow.block b hlt1 (fun e=>by have:=hown.lt b e.symm;omega)];exact hbk
 have d0:w2.cell? ⟨b,0,none⟩=some (.pointer (some ⟨b,0,none⟩)):=by rw[Zh hb2];rfl
 have d1:w2.cell? ⟨b,1,none⟩=some v:=by rw[Zh hb2];rfl
 have f1:w2.frozen? ⟨b,1,none⟩=false:=Lib.frozen_of_heap hb2 1;obtain⟨ao,n',cap,rfl⟩:∃ao n' cap,v'= .slice ao n' cap:=by
  rcases hown'.2 with⟨hv,_⟩|⟨g,cap,cur,hv,_⟩
  ·exact⟨_,_,_,hv⟩
  ·exact⟨_,_,_,hv⟩
 have HBK:=Za hbk;have HB2:=Za hb2;have HOWN:=Za hown;have HOWN':=Za hown';have HG:=Za hgrow;have HW:=Za hwhere;clear hbk hb2 hown hown' hgrow hwhere;go_wp2_with fail
 go_ret2
 have hb3:(w2.setCell ⟨b,1,none⟩ (.slice ao n' cap)).heap[b]? =some (.cells #[.pointer (some ⟨b,0,none⟩),.slice ao n' cap,.int .i64 t] 81 (0,0)):=by
  simp [Zk,Array.getElem?_modify,HB2.out]
 have own1:own w1 b=v.ownBlock:=by simp [own,HBK.out]
 have own3:own (w2.setCell ⟨b,1,none⟩ (.slice ao n' cap)) b=(Value.slice ao n' cap).ownBlock:=by simp [own,hb3]
 refine⟨rfl,⟨_,_,hb3,.inr rfl,?_⟩,HF1.out.trans ⟨?_,?_,?_,?_,?_,?_⟩⟩
 ·have q:=HOWN'.out
  rw[Pf,Qt]at q;rw[show(bs++s).length=bs.length+(Aa s).size from by simp;rfl];refine q.kept (row:=some b) ⟨rfl,rfl,rfl,by simp [Zk],fun k _ hk=>Zn _ _ _ _ (fun e=>hk (by simp [e]))⟩ (Or.inr ?_);intro e;have:=q.lt b e;omega
 ·exact HG.out.os
 ·exact HG.out.tape
 ·exact HG.out.output
 ·have:=HG.out.size;simp [Zk];omega
 ·intro k hk hkb hko
  rw[Zn _ _ _ _ (by simpa using hkb)];exact HG.out.block k hk (fun e=>hko (by rw[own1];exact e.symm))
 ·rw[own3,own1];exact HW.out
theorem Cu.alloc {w:World}{b:Nat}{bs:Bs}{t:Int}(h:Cu w b bs t)(o:Obj):Cu (w.alloc o) b bs t:=h.old (bA)
theorem PFr.alloc {w:World}{b:Nat}{bs:Bs}{t:Int}(h:Cu w b bs t)(o:Obj):PFr b w (w.alloc o):=PFr.of_below (bA) h.lt
theorem Sl(ws:List Bs)(X cap b:Nat)(bs:Bs)(t:Int)(w:World)(hp:Cu w b bs t)(hl:Loc w b X (ws.map fun s=> .string (Aa s)))(hf:Fa (bs.length+ws.flatten.length))(hn:ws.length≤1000):
  Calls Zb 72 #[.pointer (some ⟨b,0,none⟩),.slice (some ⟨X,0,none⟩) ws.length cap] w (Wh w b bs t ws.flatten):=by
 have HP:=Za hp;have HL:=Za hl;have HF:=Za hf;clear hp hl hf;go_enter Tryz.func72,Tryz.ntmps72
 go_wp2_with fail
 go_loopw [5,8] (fun _ s8 wr=> ∃k:Nat,k≤ws.length∧s8= .int .i64 k∧Cu wr b (bs++(ws.take k).flatten) t∧PFr b w wr) (fun _ s8 _=>ws.length - (intOf s8).toNat)
 case atStart=>exact⟨0,Nat.zero_le _,rfl,by simpa using HP.out,PFr.refl _ _⟩
 case round=>
  obtain⟨k,hk,rfl,hp,hfr⟩:=hrel;have HPK:=Za hp;have HFR:=Za hfr;have hbl:=hp.lt;have HLK:=Za (HL.out.step hfr);clear hp hfr
  by_cases hlt:k<ws.length
  ·have c:=HLK.out.cell k (by simpa using hlt)
   have ec:(ws.map fun s=>Value.string (Aa s))[k]'(by simpa using hlt)= .string (Aa (ws.getD k [])):=by simp [List.getElem?_eq_getElem hlt]
   rw[ec]at c;have hsp:Hid ((ws.take (k+1)).flatten=(ws.take k).flatten++ws.getD k []):=by
    show _=_
    rw[List.take_succ_eq_append_getElem hlt];simp only[List.flatten_append,List.flatten_cons,List.flatten_nil,List.append_nil,List.getD_eq_getElem?_getD,List.getElem?_eq_getElem hlt,Option.getD_some]
   have hfit:Hid (Fa ((bs++(ws.take k).flatten).length+(ws.getD k []).length)):=by
    refine HF.out.mono ?_;have e:ws.flatten=(ws.take (k+1)).flatten++(ws.drop (k+1)).flatten:=by rw[←List.flatten_append,List.take_append_drop]
    rw[e,hsp.out];simp;omega
   clear ec;generalize ws.getD k []=s at c hsp hfit;go_wp2_with fail
   refine(Nv s b _ t _ HPK.out hfit.out).mono ?_;rintro r w3 ⟨rfl,hp3,hf3⟩;have HP3:=Za hp3;have HF3:=Za hf3;clear hp3 hf3;go_wp2_with fail
   go_roundw
   case rel=>exact⟨k+1,by omega,by go_num,by rw[hsp.out,←List.append_assoc];exact HP3.out,HFR.out.trans HF3.out⟩
   case measure=>simp [intOf];omega
  ·go_wp2_with fail
   go_end0
   exact⟨rfl,by have e:ws.take k=ws:=List.take_of_length_le (by omega);have q:=HPK.out;rwa[e]at q,HFR.out⟩
theorem Sy(s:Bs)(T:TypeId)(X b:Nat)(bs:Bs)(t:Int)(w:World)(hX:X=w.heap.size)(hp:Cu w b bs t)(hf:Fa (bs.length+s.length)):
  Calls Zb 72 #[.pointer (some ⟨b,0,none⟩),.slice (some ⟨X,0,none⟩) 1 1] (w.alloc (.cells #[.string (Aa s)] T)) (Wh w b bs t s):=by
 subst hX;refine(Sl [s] w.heap.size 1 b bs t _ (hp.alloc _) (Loc.new hp [.string (Aa s)] T) (by simpa using hf) (by simp)).mono ?_;rintro r w' ⟨rfl,h2,h3⟩;exact⟨rfl,by simpa using h2,(PFr.alloc hp _).trans h3⟩
theorem put2(s1 s2:Bs)(T:TypeId)(X b:Nat)(bs:Bs)(t:Int)(w:World)(hX:X=w.heap.size)(hp:Cu w b bs t)(hf:Fa (bs.length+(s1++s2).length)):
  Calls Zb 72 #[.pointer (some ⟨b,0,none⟩),.slice (some ⟨X,0,none⟩) 2 2] (w.alloc (.cells #[.string (Aa s1),.string (Aa s2)] T)) (Wh w b bs t (s1++s2)):=by
 subst hX;refine(Sl [s1,s2] w.heap.size 2 b bs t _ (hp.alloc _) (Loc.new hp [.string (Aa s1),.string (Aa s2)] T) (by simpa using hf) (by simp)).mono ?_;rintro r w' ⟨rfl,h2,h3⟩;exact⟨rfl,by simpa using h2,(PFr.alloc hp _).trans h3⟩
theorem put3(s1 s2 s3:Bs)(T:TypeId)(X b:Nat)(bs:Bs)(t:Int)(w:World)(hX:X=w.heap.size)(hp:Cu w b bs t)(hf:Fa (bs.length+(s1++(s2++s3)).length)):
  Calls Zb 72 #[.pointer (some ⟨b,0,none⟩),.slice (some ⟨X,0,none⟩) 3 3] (w.alloc (.cells #[.string (Aa s1),.string (Aa s2),.string (Aa s3)] T)) (Wh w b bs t (s1++(s2++s3))):=by
 subst hX;refine(Sl [s1,s2,s3] w.heap.size 3 b bs t _ (hp.alloc _) (Loc.new hp [.string (Aa s1),.string (Aa s2),.string (Aa s3)] T) (by simpa using hf) (by simp)).mono ?_;rintro r w' ⟨rfl,h2,h3⟩;exact⟨rfl,by simpa using h2,(PFr.alloc hp _).trans h3⟩
def Jg(w:World):Prop:=Lib.TabIs Zb w "internal/strconv.uint64pow10" .u64 Lib.pow10Tab
theorem Jg.keep {w w':World}(h:Jg w)(hb:w'.heap[3]? =w.heap[3]?):Jg w':=by
 have hg:Tryz.prog.globalNamed "internal/strconv.uint64pow10" =some 3:=by kernel_rfl
 unfold Jg Lib.TabIs World.var? at*;simp only[hg,Option.bind_eq_bind,Option.bind_some]at*;rw[hb];exact h
theorem cE(n:Int)(h:I64 n)(w:World)(ht:Jg w):
  Calls Zb 35 #[.int .i64 n] w fun e w'=>e= .returned (.string (Aa (Lib.itoa n)))∧Below w.heap.size w w':=by
 refine(Tryz.strconv_Itoa n h.1 h.2 w ht).mono ?_;rintro e w' ⟨rfl,k,os,rfl⟩;exact⟨rfl,rfl,rfl,rfl,by simp,fun i hi=>by simp [Sort.grow,World.drewN,Array.getElem?_append_left hi]⟩
def Dz(e:Ex):Prop:= ∀(b:Nat) (bs:Bs) (t:Int) (s:Value) (w:World),3<b→Jg w→Cu w b bs t→Ag (· <b) w e.args s→I64 e.n→Bv e=true→Fa (bs.length+(Af e).length)→
 Calls Zb 32 #[.pointer (some ⟨b,0,none⟩),exV e s] w (Wh w b bs t (Af e))
theorem Jg.fr {w w':World}{b:Nat}{bs:Bs}{t:Int}(h:Jg w)(hf:PFr b w w')(hp:Cu w b bs t)(hb:3<b):Jg w':=h.keep ((hf.below hp).block _ hb)
theorem Pn(e:Ex)(ih:Dz e)(level:Int)(b:Nat)(bs:Bs)(t:Int)(s:Value)(w:World)(hb:3<b)(ht:Jg w)(hp:Cu w b bs t)(hs:Ag (· <b) w e.args s)(hn:I64 e.n)(hw:Bv e=true)(hf:Fa (bs.length+(Cv e level).length)):
  Calls Zb 73 #[.pointer (some ⟨b,0,none⟩),exV e s,.int .i64 level] w (Wh w b bs t (Cv e level)):=by
 have IH:=Za ih;have HT:=Za ht;have HP:=Za hp;have HN:=Za hn;have HW:=Za hw;have HF:=Za hf;obtain⟨sa,sc,rfl⟩:=hs.shape;have HS:=Za hs;clear ih ht hs hn hw hf;have hlt:=hp.lt;have hp1:=Za (hp.alloc (.cells #[.int .i64 e.kind,.int .i64 e.op,.int .i64 e.n,.string (Aa e.name),.slice sa e.args.length sc] 27));have hf1:=Za (PFr.alloc hp (.cells #[.int .i64 e.kind,.int .i64 e.op,.int .i64 e.n,.string (Aa e.name),.slice sa e.args.length sc] 27));have hl1:=Za (Loc.new hp [.int .i64 e.kind,.int .i64 e.op,.int .i64 e.n,.string (Aa e.name),.slice sa e.args.length sc] 27);clear hp
 by_cases h4:e.kind=4
 ·have k4:(e.kind==4)=true:=by simpa using h4
  by_cases hl:Aj e.op<level
  ·have E:Hid (Cv e level=[40]++(Af e++[41])):=by show _=_;simp [Cv,Dm,h4,hl]
   rw[E.out]at HF ⊢;clear h4;go_enter Tryz.func73,Tryz.ntmps73
   go_wp2_with fail
   refine(Gn e.op _).mono ?_;rintro r w2 ⟨rfl,hb2⟩;have hf2:=PFr.of_below hb2 hp1.out.lt;have HP2:=Za (hp1.out.old hb2);have HF2:=Za (hf1.out.trans hf2);have HL2:=Za (hl1.out.step hf2);clear hb2 hf2 hp1 hf1 hl1;go_wp2_with fail
   refine(Sy [40] _ _ b bs t w2 rfl HP2.out (HF.out.mono (by simp))).mono ?_;rintro r w3 ⟨rfl,hp3,hf3⟩;have HP3:=Za hp3;have HF3:=Za (HF2.out.trans hf3);have HL3:=Za (HL2.out.step hf3);clear hp3 hf3 HP2 HF2 HL2;have c0:=HL3.out.cell 0 (by simp);have c1:=HL3.out.cell 1 (by simp);have c2:=HL3.out.cell 2 (by simp);have c3:=HL3.out.cell 3 (by simp);have c4:=HL3.out.cell 4 (by simp);simp only[Zc,Zd]at c0 c1 c2 c3 c4;go_wp2_with fail
   refine(IH.out b (bs++[40]) t _ w3 hb (HT.out.fr HF3.out HP.out hb) HP3.out (HS.out.keep (HF3.out.keeps HP.out)) HN.out HW.out (HF.out.mono (by simp;omega))).mono ?_;rintro r w4 ⟨rfl,hp4,hf4⟩;have HP4:=Za hp4;have HF4:=Za (HF3.out.trans hf4);clear hp4 hf4 c0 c1 c2 c3 c4;go_wp2_with fail
   refine(Sy [41] _ _ b _ t w4 rfl HP4.out (HF.out.mono (by simp;omega))).mono ?_;rintro r w5 ⟨rfl,hp5,hf5⟩;go_wp2_with fail
   go_end0
   exact⟨rfl,by simpa using hp5,HF4.out.trans hf5⟩
  ·have hl':level≤Aj e.op:=by omega
   have E:Hid (Cv e level=Af e):=by show _=_;simp [Cv,Dm,hl]
   rw[E.out]at HF ⊢;clear h4;go_enter Tryz.func73,Tryz.ntmps73
   go_wp2_with fail
   refine(Gn e.op _).mono ?_;rintro r w2 ⟨rfl,hb2⟩;have hf2:=PFr.of_below hb2 hp1.out.lt;have HP2:=Za (hp1.out.old hb2);have HF2:=Za (hf1.out.trans hf2);have HL2:=Za (hl1.out.step hf2);clear hb2 hf2 hp1 hf1 hl1;have c0:=HL2.out.cell 0 (by simp);have c1:=HL2.out.cell 1 (by simp);have c2:=HL2.out.cell 2 (by simp);have c3:=HL2.out.cell 3 (by simp);have c4:=HL2.out.cell 4 (by simp);simp only[Zc,Zd]at c0 c1 c2 c3 c4;go_wp2_with fail
   refine(IH.out b bs t _ w2 hb (HT.out.fr HF2.out HP.out hb) HP2.out (HS.out.keep (HF2.out.keeps HP.out)) HN.out HW.out HF.out).mono ?_;rintro r w4 ⟨rfl,hp4,hf4⟩;have HP4:=Za hp4;have HF4:=Za (HF2.out.trans hf4);clear hp4 hf4 c0 c1 c2 c3 c4;go_wp2_with fail
   go_end0
   exact⟨rfl,HP4.out,HF4.out⟩
 ·have k4:(e.kind==4)=false:=by simpa using h4
  have E:Hid (Cv e level=Af e):=by show _=_;simp [Cv,Dm,h4]
  rw[E.out]at HF ⊢;clear h4;go_enter Tryz.func73,Tryz.ntmps73
  go_wp2_with fail
  refine(IH.out b bs t _ _ hb (HT.out.fr hf1.out HP.out hb) hp1.out (HS.out.keep (hf1.out.keeps HP.out)) HN.out HW.out HF.out).mono ?_;rintro r w4 ⟨rfl,hp4,hf4⟩;have HP4:=Za hp4;have HF4:=Za (hf1.out.trans hf4);clear hp4 hf4;go_wp2_with fail
  go_end0
  exact⟨rfl,HP4.out,HF4.out⟩
theorem Yc(a c:List Bs):(Bm a).length≤(Bm (a++c)).length:=by
 cases a with
 |nil=>simp [Bm]
 |cons x l=>simp [Bm]
theorem Nw(ts:List Bs)(k:Nat):(Bm (ts.take k)).length≤(Bm ts).length:=by
 have:=Yc (ts.take k) (ts.drop k)
 rwa[List.take_append_drop]at this
theorem Qs(l:List Ex)(k:Nat)(h:k<l.length):(l.take (k+1)).map Af=(l.take k).map Af++[Af (Ci l k)]:=by
 rw[List.take_succ_eq_append_getElem h,List.map_append,List.map_cons,List.map_nil,Uv h]
theorem cQ(l:List Ex)(ih:∀x,x∈l→Dz x)(b:Nat)(bs:Bs)(t:Int)(s:Value)(w:World)(hb:3<b)(ht:Jg w)(hp:Cu w b bs t)(hs:Ag (· <b) w l s)(hw:∀x,x∈l→Bv x=true)(hf:Fa (bs.length+(Bm (l.map Af)).length)):
  Calls Zb 75 #[.pointer (some ⟨b,0,none⟩),s,.func (.func 32) #[.pointer (some ⟨b,0,none⟩)] #[]] w (Wh w b bs t (Bm (l.map Af))):=by
 have IH:=Za ih;have HT:=Za ht;have HP:=Za hp;have HW:=Za hw;have HF:=Za hf;obtain⟨sa,sc,rfl⟩:=hs.shape;have hl63:=hs.fits.lt;have HS:=Za hs;clear ih ht hs hw hf hp;go_enter Tryz.func75,Tryz.ntmps75
 go_wp2_with fail
 go_loopw [6,7,10] (fun _ _ s10 wr=> ∃k:Nat,k≤l.length∧s10= .int .i64 k∧Cu wr b (bs++Bm ((l.take k).map Af)) t∧PFr b w wr) (fun _ _ s10 _=>l.length - (intOf s10).toNat)
 case atStart=>exact⟨0,Nat.zero_le _,rfl,by simpa [Bm]using HP.out,PFr.refl _ _⟩
 case round=>
  obtain⟨k,hk,rfl,hpk,hfr⟩:=hrel;have HPK:=Za hpk;have HFR:=Za hfr;have hbl:=hpk.lt;clear hpk hfr
  by_cases hlt:k<l.length
  ·obtain⟨eb,off,es,rfl,hD,c0,c1,c2,c3,c4,hes,hn⟩:=(HS.out.keep (HFR.out.keeps HP.out)).cellAt k hlt
   obtain⟨ea,ec,rfl⟩:=hes.shape;have HES:=Za hes;have HN:=Za hn;have IHX:=Za (IH.out _ (Ed hlt));have HWX:=Za (HW.out _ (Ed hlt));have hmap:=Za (Qs l k hlt);have hle:=Za (Nw (l.map Af) (k+1));rw[←List.map_take,hmap.out,Lt]at hle;clear hes hn hD;generalize Ci l k=e at c0 c1 c2 c3 c4 HES HN IHX HWX hmap hle;have hp1:=Za (HPK.out.alloc (.cells #[.int .i64 e.kind,.int .i64 e.op,.int .i64 e.n,.string (Aa e.name),.slice ea e.args.length ec] 27));have hf1:=Za (HFR.out.trans (PFr.alloc HPK.out (.cells #[.int .i64 e.kind,.int .i64 e.op,.int .i64 e.n,.string (Aa e.name),.slice ea e.args.length ec] 27)));have hl1:=Za (Loc.new HPK.out [.int .i64 e.kind,.int .i64 e.op,.int .i64 e.n,.string (Aa e.name),.slice ea e.args.length ec] 27);have hebl:eb<wr.heap.size:=World.block_lt_of_cell? _ _ c0
   by_cases hk0:k=0
   ·have hk0':(k:Int)≤0:=by omega
    have hnil:(l.take k).map Af=[]:=by rw[hk0];simp
    rw[if_pos hnil]at hle;have HK0:=Za hk0;have HNIL:=Za hnil;have hle':Hid (Fa ((bs++Bm ((l.take k).map Af)).length+(Af e).length)):=HF.out.mono (by have:=hle.out;rw[HNIL.out];simp [Bm];exact this);have hnext:Hid (Bm ((l.take (k+1)).map Af)=Bm ((l.take k).map Af)++Af e):=by show _=_;rw[hmap.out,HNIL.out];simp [Bm]
    clear hk0 hnil;go_wp2_with fail
    refine(IHX.out b _ t _ _ hb (HT.out.fr hf1.out HP.out hb) hp1.out (HES.out.keep ((PFr.alloc HPK.out _).keeps HPK.out)) HN.out HWX.out hle'.out).mono ?_;rintro r w3 ⟨rfl,hp3,hf3⟩;have HP3:=Za hp3;have HF3:=Za (hf1.out.trans hf3);clear hp3 hf3 c0 c1 c2 c3 c4;go_wp2_with fail
    go_roundw
    case rel=>exact⟨k+1,by omega,by go_num,by have q:=HP3.out;rw[hnext.out];simpa using q,HF3.out⟩
    case measure=>simp [intOf];omega
   ·have hk1:(0:Int)<k:=by omega
    have hne:Hid ((l.take k).map Af≠[]):=by
     intro h;rw[List.map_eq_nil_iff,List.take_eq_nil_iff]at h;rcases h with h|h
     ·exact hk0 h
     ·rw[h]at hlt;simp at hlt
    have hle2:Hid (Fa ((bs++Bm ((l.take k).map Af)).length+([44,32]:Bs).length+(Af e).length)):=HF.out.mono (by have:=hle.out;rw[if_neg hne.out]at this;simp at this;simp;omega);have hnext:Hid (Bm ((l.take (k+1)).map Af)=Bm ((l.take k).map Af)++[44,32]++Af e):=by show _=_;rw[hmap.out,Lt,if_neg hne.out]
    clear hk0;go_wp2_with fail
    refine(Sy [44,32] _ _ b _ t _ (by simp) hp1.out (hle2.out.mono (by omega))).mono ?_;rintro r w2 ⟨rfl,hp2,hf2⟩;have HP2:=Za hp2;have HF2:=Za (hf1.out.trans hf2);have HL2:=Za (hl1.out.step hf2);have HES2:=Za (HES.out.keep (((PFr.alloc HPK.out _).trans hf2).keeps HPK.out));clear hp2 hf2 c0 c1 c2 c3 c4;have c0:=HL2.out.cell 0 (by simp);have c1:=HL2.out.cell 1 (by simp);have c2:=HL2.out.cell 2 (by simp);have c3:=HL2.out.cell 3 (by simp);have c4:=HL2.out.cell 4 (by simp);simp only[Zc,Zd]at c0 c1 c2 c3 c4;go_wp2_with fail
    refine(IHX.out b _ t _ _ hb (HT.out.fr HF2.out HP.out hb) HP2.out HES2.out HN.out HWX.out (hle2.out.mono (by simp;omega))).mono ?_;rintro r w3 ⟨rfl,hp3,hf3⟩;have HP3:=Za hp3;have HF3:=Za (HF2.out.trans hf3);clear hp3 hf3 c0 c1 c2 c3 c4;go_wp2_with fail
    go_roundw
    case rel=>exact⟨k+1,by omega,by go_num,by have q:=HP3.out;rw[hnext.out];simpa using q,HF3.out⟩
    case measure=>simp [intOf];omega
  ·go_wp2_with fail
   go_end0
   exact⟨rfl,by have e:l.take k=l:=List.take_of_length_le (by omega);have q:=HPK.out;rwa[e]at q,HFR.out⟩
theorem Bo {e:Ex}(h:Bv e=true):Bx e=true∧∀x,x∈e.args→Bv x=true:=by
 rw[Hc,Zl,List.all_eq_true]at h;exact h
theorem Qw(o:Int):0≤Aj o∧Aj o≤8:=by
 unfold Aj;repeat' split
 all_goals omega
theorem Lc {e:Ex}(h:Bx e=true):e.kind=1∨e.kind=2∨e.kind=3∨e.kind=4∨e.kind=5∨e.kind=6∨e.kind=7:=by
 have hk:Ee e=true:=by unfold Bx at h;simp only[Zl]at h;exact h.1.1.1.1
 unfold Ee at hk
 by_cases h1:e.kind=1; · simp [h1]
 by_cases h2:e.kind=2; · simp [h2]
 by_cases h3:e.kind=3; · simp [h3]
 by_cases h4:e.kind=4; · simp [h4]
 by_cases h5:e.kind=5; · simp [h5]
 by_cases h6:e.kind=6; · simp [h6]
 simp [h1,h2,h3,h4,h5,h6]at hk;simp [hk]
theorem expr_1(o n:Int)(nm:Bs)(args:List Ex)(ih:∀x,x∈args→Dz x):Dz (.mk 1 o n nm args):=by
 intro b bs t s w hb ht hp hs hn hw hf;have hs:Ag (· <b) w args s:=hs;have hn:I64 n:=hn;have hwh:=(Bo hw).1;have hwa:∀x,x∈args→Bv x=true:=(Bo hw).2;obtain⟨sa,sc,rfl⟩:=hs.shape;have E:Hid (Af (.mk 1 o n nm args)=Lib.itoa n):=by exact Lm o n nm args
 rw[E.out]at hf ⊢;show Calls _ _ #[.pointer (some ⟨b,0,none⟩),.agg #[.int .i64 1,.int .i64 o,.int .i64 n,.string (Aa nm),.slice sa args.length sc]] _ _
 have IH:=Za ih;have HT:=Za ht;have HP:=Za hp;have HN:=Za hn;have HF:=Za hf;have HS:=Za hs;have HWA:=Za hwa;have hp1:=Za (hp.alloc (.cells #[.int .i64 1,.int .i64 o,.int .i64 n,.string (Aa nm),.slice sa args.length sc] 27));have hf1:=Za (PFr.alloc hp (.cells #[.int .i64 1,.int .i64 o,.int .i64 n,.string (Aa nm),.slice sa args.length sc] 27));have hl1:=Za (Loc.new hp [.int .i64 1,.int .i64 o,.int .i64 n,.string (Aa nm),.slice sa args.length sc] 27);clear ih ht hp hs hw hf hn hwh hwa;go_enter Zi,Zj
 go_wp2_with fail
 refine(Cs o _).mono ?_;rintro r w2 ⟨rfl,hb2⟩;have hf2:=PFr.of_below hb2 hp1.out.lt;have HP2:=Za (hp1.out.old hb2);have HF2:=Za (hf1.out.trans hf2);have HL2:=Za (hl1.out.step hf2);clear hb2 hf2 hp1 hf1 hl1;have c0:=HL2.out.cell 0 (by simp);have c1:=HL2.out.cell 1 (by simp);have c2:=HL2.out.cell 2 (by simp);have c3:=HL2.out.cell 3 (by simp);have c4:=HL2.out.cell 4 (by simp);simp only[Zc,Zd]at c0 c1 c2 c3 c4;go_wp2_with fail
 refine(cE n HN.out w2 (HT.out.fr HF2.out HP.out hb)).mono ?_;rintro r w3 ⟨rfl,hb3⟩;have hf3:=PFr.of_below hb3 HP2.out.lt;have HP3:=Za (HP2.out.old hb3);have HF3:=Za (HF2.out.trans hf3);have HL3:=Za (HL2.out.step hf3);clear hb3 hf3;go_wp2_with fail
 refine(Sy (Lib.itoa n) _ _ b _ t w3 rfl HP3.out (HF.out.mono (by simp;try omega))).mono ?_;rintro r w4 ⟨rfl,hp4,hf4⟩;have HP4:=Za hp4;have HF4:=Za (HF3.out.trans hf4);have HL4:=Za (HL3.out.step hf4);clear hp4 hf4 c0 c1 c2 c3 c4;go_wp2_with fail
 go_end0
 exact⟨rfl,by simpa using HP4.out,HF4.out⟩
theorem expr_2(o n:Int)(nm:Bs)(args:List Ex)(ih:∀x,x∈args→Dz x):Dz (.mk 2 o n nm args):=by
 intro b bs t s w hb ht hp hs hn hw hf;have hs:Ag (· <b) w args s:=hs;have hn:I64 n:=hn;have hwh:=(Bo hw).1;have hwa:∀x,x∈args→Bv x=true:=(Bo hw).2;obtain⟨sa,sc,rfl⟩:=hs.shape;have E:Hid (Af (.mk 2 o n nm args)=nm):=by exact Qa o n nm args
 rw[E.out]at hf ⊢;show Calls _ _ #[.pointer (some ⟨b,0,none⟩),.agg #[.int .i64 2,.int .i64 o,.int .i64 n,.string (Aa nm),.slice sa args.length sc]] _ _
 have IH:=Za ih;have HT:=Za ht;have HP:=Za hp;have HN:=Za hn;have HF:=Za hf;have HS:=Za hs;have HWA:=Za hwa;have hp1:=Za (hp.alloc (.cells #[.int .i64 2,.int .i64 o,.int .i64 n,.string (Aa nm),.slice sa args.length sc] 27));have hf1:=Za (PFr.alloc hp (.cells #[.int .i64 2,.int .i64 o,.int .i64 n,.string (Aa nm),.slice sa args.length sc] 27));have hl1:=Za (Loc.new hp [.int .i64 2,.int .i64 o,.int .i64 n,.string (Aa nm),.slice sa args.length sc] 27);clear ih ht hp hs hw hf hn hwh hwa;go_enter Zi,Zj
 go_wp2_with fail
 refine(Cs o _).mono ?_;rintro r w2 ⟨rfl,hb2⟩;have hf2:=PFr.of_below hb2 hp1.out.lt;have HP2:=Za (hp1.out.old hb2);have HF2:=Za (hf1.out.trans hf2);have HL2:=Za (hl1.out.step hf2);clear hb2 hf2 hp1 hf1 hl1;have c0:=HL2.out.cell 0 (by simp);have c1:=HL2.out.cell 1 (by simp);have c2:=HL2.out.cell 2 (by simp);have c3:=HL2.out.cell 3 (by simp);have c4:=HL2.out.cell 4 (by simp);simp only[Zc,Zd]at c0 c1 c2 c3 c4;go_wp2_with fail
 refine(Sy nm _ _ b _ t w2 rfl HP2.out (HF.out.mono (by simp;try omega))).mono ?_;rintro r w3 ⟨rfl,hp3,hf3⟩;have HP3:=Za hp3;have HF3:=Za (HF2.out.trans hf3);have HL3:=Za (HL2.out.step hf3);clear hp3 hf3 c0 c1 c2 c3 c4;go_wp2_with fail
 go_end0
 exact⟨rfl,by simpa using HP3.out,HF3.out⟩
theorem expr_7(o n:Int)(nm:Bs)(args:List Ex)(ih:∀x,x∈args→Dz x):Dz (.mk 7 o n nm args):=by
 intro b bs t s w hb ht hp hs hn hw hf;have hs:Ag (· <b) w args s:=hs;have hn:I64 n:=hn;have hwh:=(Bo hw).1;have hwa:∀x,x∈args→Bv x=true:=(Bo hw).2;obtain⟨sa,sc,rfl⟩:=hs.shape;have E:Hid (Af (.mk 7 o n nm args)=[114,101,97,100,40,41]):=by exact Pg o n nm args
 rw[E.out]at hf ⊢;show Calls _ _ #[.pointer (some ⟨b,0,none⟩),.agg #[.int .i64 7,.int .i64 o,.int .i64 n,.string (Aa nm),.slice sa args.length sc]] _ _
 have IH:=Za ih;have HT:=Za ht;have HP:=Za hp;have HN:=Za hn;have HF:=Za hf;have HS:=Za hs;have HWA:=Za hwa;have hp1:=Za (hp.alloc (.cells #[.int .i64 7,.int .i64 o,.int .i64 n,.string (Aa nm),.slice sa args.length sc] 27));have hf1:=Za (PFr.alloc hp (.cells #[.int .i64 7,.int .i64 o,.int .i64 n,.string (Aa nm),.slice sa args.length sc] 27));have hl1:=Za (Loc.new hp [.int .i64 7,.int .i64 o,.int .i64 n,.string (Aa nm),.slice sa args.length sc] 27);clear ih ht hp hs hw hf hn hwh hwa;go_enter Zi,Zj
 go_wp2_with fail
 refine(Cs o _).mono ?_;rintro r w2 ⟨rfl,hb2⟩;have hf2:=PFr.of_below hb2 hp1.out.lt;have HP2:=Za (hp1.out.old hb2);have HF2:=Za (hf1.out.trans hf2);have HL2:=Za (hl1.out.step hf2);clear hb2 hf2 hp1 hf1 hl1;have c0:=HL2.out.cell 0 (by simp);have c1:=HL2.out.cell 1 (by simp);have c2:=HL2.out.cell 2 (by simp);have c3:=HL2.out.cell 3 (by simp);have c4:=HL2.out.cell 4 (by simp);simp only[Zc,Zd]at c0 c1 c2 c3 c4;go_wp2_with fail
 refine(Sy [114,101,97,100,40,41] _ _ b _ t w2 rfl HP2.out (HF.out.mono (by simp;try omega))).mono ?_;rintro r w3 ⟨rfl,hp3,hf3⟩;have HP3:=Za hp3;have HF3:=Za (HF2.out.trans hf3);have HL3:=Za (HL2.out.step hf3);clear hp3 hf3 c0 c1 c2 c3 c4;go_wp2_with fail
 go_end0
 exact⟨rfl,by simpa using HP3.out,HF3.out⟩
theorem expr_3(o n:Int)(nm:Bs)(args:List Ex)(ih:∀x,x∈args→Dz x):Dz (.mk 3 o n nm args):=by
 intro b bs t s w hb ht hp hs hn hw hf;have hs:Ag (· <b) w args s:=hs;have hn:I64 n:=hn;have hwh:=(Bo hw).1;have hwa:∀x,x∈args→Bv x=true:=(Bo hw).2;obtain⟨sa,sc,rfl⟩:=hs.shape;have hlen:args.length=1:=by have q:=hwh;simp [Bx,Ce,Ex.kind,Ex.args]at q;omega
 have hl0:0<args.length:=by omega
 obtain⟨eb,off,_,rfl,_⟩:=hs.cellAt 0 (by omega);clear hlen;have E:Hid (Af (.mk 3 o n nm args)=Al o++Cv (Ci args 0) 9):=by exact Pk o n nm args hl0
 rw[E.out]at hf ⊢;show Calls _ _ #[.pointer (some ⟨b,0,none⟩),.agg #[.int .i64 3,.int .i64 o,.int .i64 n,.string (Aa nm),.slice (some ⟨eb,off,none⟩) args.length sc]] _ _
 have IH:=Za ih;have HT:=Za ht;have HP:=Za hp;have HN:=Za hn;have HF:=Za hf;have HS:=Za hs;have HWA:=Za hwa;have hp1:=Za (hp.alloc (.cells #[.int .i64 3,.int .i64 o,.int .i64 n,.string (Aa nm),.slice (some ⟨eb,off,none⟩) args.length sc] 27));have hf1:=Za (PFr.alloc hp (.cells #[.int .i64 3,.int .i64 o,.int .i64 n,.string (Aa nm),.slice (some ⟨eb,off,none⟩) args.length sc] 27));have hl1:=Za (Loc.new hp [.int .i64 3,.int .i64 o,.int .i64 n,.string (Aa nm),.slice (some ⟨eb,off,none⟩) args.length sc] 27);clear ih ht hp hs hw hf hn hwh hwa;go_enter Zi,Zj
 go_wp2_with fail
 refine(Cs o _).mono ?_;rintro r w2 ⟨rfl,hb2⟩;have hf2:=PFr.of_below hb2 hp1.out.lt;have HP2:=Za (hp1.out.old hb2);have HF2:=Za (hf1.out.trans hf2);have HL2:=Za (hl1.out.step hf2);clear hb2 hf2 hp1 hf1 hl1;have c0:=HL2.out.cell 0 (by simp);have c1:=HL2.out.cell 1 (by simp);have c2:=HL2.out.cell 2 (by simp);have c3:=HL2.out.cell 3 (by simp);have c4:=HL2.out.cell 4 (by simp);simp only[Zc,Zd]at c0 c1 c2 c3 c4;go_wp2_with fail
 refine(Sy (Al o) _ _ b _ t w2 rfl HP2.out (HF.out.mono (by simp;try omega))).mono ?_;rintro r w3 ⟨rfl,hp3,hf3⟩;have HP3:=Za hp3;have HF3:=Za (HF2.out.trans hf3);have HL3:=Za (HL2.out.step hf3);clear hp3 hf3 c0 c1 c2 c3 c4;have c0:=HL3.out.cell 0 (by simp);have c1:=HL3.out.cell 1 (by simp);have c2:=HL3.out.cell 2 (by simp);have c3:=HL3.out.cell 3 (by simp);have c4:=HL3.out.cell 4 (by simp);simp only[Zc,Zd]at c0 c1 c2 c3 c4;obtain⟨eb',off',esa,heb,hDa,y0,y1,y2,y3,y4,hesa,hna⟩:=(HS.out.keep (HF3.out.keeps HP.out)).cellAt 0 (by omega);obtain⟨eaa,eca,rfl⟩:=hesa.shape;obtain⟨rfl,rfl⟩:eb=eb'∧off=off':=by cases heb;exact⟨rfl,rfl⟩
 have HESa:=Za hesa;have HNa:=Za hna;have IHXa:=Za (IH.out _ (Ed (i:=0) (by omega)));have HWXa:=Za (HWA.out _ (Ed (i:=0) (by omega)));clear heb hesa hna hDa;generalize hxa:Ci args 0=xa at y0 y1 y2 y3 y4 HESa HNa IHXa HWXa;have HXa:=Za hxa;clear hxa;have za0:w3.cell? ⟨eb,off,none⟩=some (.int .i64 xa.kind):=by simpa using y0
 have za1:w3.cell? ⟨eb,off+1,none⟩=some (.int .i64 xa.op):=by simpa using y1
 have za2:w3.cell? ⟨eb,off+2,none⟩=some (.int .i64 xa.n):=by simpa using y2
 have za3:w3.cell? ⟨eb,off+3,none⟩=some (.string (Aa xa.name)):=by simpa using y3
 have za4:w3.cell? ⟨eb,off+4,none⟩=some (.slice eaa xa.args.length eca):=by simpa using y4
 clear y0 y1 y2 y3 y4;go_wp2_with fail
 refine(Pn xa IHXa.out 9 b _ t _ w3 hb (HT.out.fr HF3.out HP.out hb) HP3.out HESa.out HNa.out HWXa.out (by have q:=HF.out;rw[HXa.out]at q;exact q.mono (by simp;try omega))).mono ?_;rintro r w4 ⟨rfl,hp4,hf4⟩;have HP4:=Za hp4;have HF4:=Za (HF3.out.trans hf4);have HL4:=Za (HL3.out.step hf4);clear hp4 hf4 c0 c1 c2 c3 c4 za0 za1 za2 za3 za4;go_wp2_with fail
 go_end0
 exact⟨rfl,by rw[HXa.out];simpa using HP4.out,HF4.out⟩
theorem expr_4(o n:Int)(nm:Bs)(args:List Ex)(ih:∀x,x∈args→Dz x):Dz (.mk 4 o n nm args):=by
 intro b bs t s w hb ht hp hs hn hw hf;have hs:Ag (· <b) w args s:=hs;have hn:I64 n:=hn;have hwh:=(Bo hw).1;have hwa:∀x,x∈args→Bv x=true:=(Bo hw).2;obtain⟨sa,sc,rfl⟩:=hs.shape;have hlen:args.length=2:=by have q:=hwh;simp [Bx,Ce,Ex.kind,Ex.args]at q;omega
 have hl0:0<args.length:=by omega
 have hl1':1<args.length:=by omega
 obtain⟨eb,off,_,rfl,_⟩:=hs.cellAt 0 (by omega);clear hlen;have E:Hid (Af (.mk 4 o n nm args)=Cv (Ci args 0) (Aj o)++([32]++(Al o++[32]))++Cv (Ci args 1) (Aj o+1)):=by exact Qe o n nm args hl1'
 rw[E.out]at hf ⊢;show Calls _ _ #[.pointer (some ⟨b,0,none⟩),.agg #[.int .i64 4,.int .i64 o,.int .i64 n,.string (Aa nm),.slice (some ⟨eb,off,none⟩) args.length sc]] _ _
 have IH:=Za ih;have HT:=Za ht;have HP:=Za hp;have HN:=Za hn;have HF:=Za hf;have HS:=Za hs;have HWA:=Za hwa;have hp1:=Za (hp.alloc (.cells #[.int .i64 4,.int .i64 o,.int .i64 n,.string (Aa nm),.slice (some ⟨eb,off,none⟩) args.length sc] 27));have hf1:=Za (PFr.alloc hp (.cells #[.int .i64 4,.int .i64 o,.int .i64 n,.string (Aa nm),.slice (some ⟨eb,off,none⟩) args.length sc] 27));have hl1:=Za (Loc.new hp [.int .i64 4,.int .i64 o,.int .i64 n,.string (Aa nm),.slice (some ⟨eb,off,none⟩) args.length sc] 27);clear ih ht hp hs hw hf hn hwh hwa;go_enter Zi,Zj
 go_wp2_with fail
 refine(Cs o _).mono ?_;rintro r w2 ⟨rfl,hb2⟩;have hf2:=PFr.of_below hb2 hp1.out.lt;have HP2:=Za (hp1.out.old hb2);have HF2:=Za (hf1.out.trans hf2);have HL2:=Za (hl1.out.step hf2);clear hb2 hf2 hp1 hf1 hl1;have c0:=HL2.out.cell 0 (by simp);have c1:=HL2.out.cell 1 (by simp);have c2:=HL2.out.cell 2 (by simp);have c3:=HL2.out.cell 3 (by simp);have c4:=HL2.out.cell 4 (by simp);simp only[Zc,Zd]at c0 c1 c2 c3 c4;have lb:=Qw o;go_wp2_with fail
 refine(Gn o _).mono ?_;rintro r w3 ⟨rfl,hb3⟩;have hf3:=PFr.of_below hb3 HP2.out.lt;have HP3:=Za (HP2.out.old hb3);have HF3:=Za (HF2.out.trans hf3);have HL3:=Za (HL2.out.step hf3);clear hb3 hf3 c0 c1 c2 c3 c4;have c0:=HL3.out.cell 0 (by simp);have c1:=HL3.out.cell 1 (by simp);have c2:=HL3.out.cell 2 (by simp);have c3:=HL3.out.cell 3 (by simp);have c4:=HL3.out.cell 4 (by simp);simp only[Zc,Zd]at c0 c1 c2 c3 c4;obtain⟨eb',off',esa,heb,hDa,y0,y1,y2,y3,y4,hesa,hna⟩:=(HS.out.keep (HF3.out.keeps HP.out)).cellAt 0 (by omega);obtain⟨eaa,eca,rfl⟩:=hesa.shape;obtain⟨rfl,rfl⟩:eb=eb'∧off=off':=by cases heb;exact⟨rfl,rfl⟩
 have HESa:=Za hesa;have HNa:=Za hna;have IHXa:=Za (IH.out _ (Ed (i:=0) (by omega)));have HWXa:=Za (HWA.out _ (Ed (i:=0) (by omega)));clear heb hesa hna hDa;generalize hxa:Ci args 0=xa at y0 y1 y2 y3 y4 HESa HNa IHXa HWXa;have HXa:=Za hxa;clear hxa;have za0:w3.cell? ⟨eb,off,none⟩=some (.int .i64 xa.kind):=by simpa using y0
 have za1:w3.cell? ⟨eb,off+1,none⟩=some (.int .i64 xa.op):=by simpa using y1
 have za2:w3.cell? ⟨eb,off+2,none⟩=some (.int .i64 xa.n):=by simpa using y2
 have za3:w3.cell? ⟨eb,off+3,none⟩=some (.string (Aa xa.name)):=by simpa using y3
 have za4:w3.cell? ⟨eb,off+4,none⟩=some (.slice eaa xa.args.length eca):=by simpa using y4
 clear y0 y1 y2 y3 y4;go_wp2_with fail
 refine(Pn xa IHXa.out (Aj o) b _ t _ w3 hb (HT.out.fr HF3.out HP.out hb) HP3.out HESa.out HNa.out HWXa.out (by have q:=HF.out;rw[HXa.out]at q;exact q.mono (by simp;try omega))).mono ?_;rintro r w4 ⟨rfl,hp4,hf4⟩;have HP4:=Za hp4;have HF4:=Za (HF3.out.trans hf4);have HL4:=Za (HL3.out.step hf4);clear hp4 hf4 c0 c1 c2 c3 c4 za0 za1 za2 za3 za4;go_wp2_with fail
 refine(put3 [32] (Al o) [32] _ _ b _ t w4 rfl HP4.out (by have q:=HF.out;rw[HXa.out]at q;exact q.mono (by simp;try omega))).mono ?_;rintro r w5 ⟨rfl,hp5,hf5⟩;have HP5:=Za hp5;have HF5:=Za (HF4.out.trans hf5);have HL5:=Za (HL4.out.step hf5);clear hp5 hf5;have c0:=HL5.out.cell 0 (by simp);have c1:=HL5.out.cell 1 (by simp);have c2:=HL5.out.cell 2 (by simp);have c3:=HL5.out.cell 3 (by simp);have c4:=HL5.out.cell 4 (by simp);simp only[Zc,Zd]at c0 c1 c2 c3 c4;obtain⟨eb',off',esc,heb,hDc,y0,y1,y2,y3,y4,hesc,hnc⟩:=(HS.out.keep (HF5.out.keeps HP.out)).cellAt 1 (by omega);obtain⟨eac,ecc,rfl⟩:=hesc.shape;obtain⟨rfl,rfl⟩:eb=eb'∧off=off':=by cases heb;exact⟨rfl,rfl⟩
 have HESc:=Za hesc;have HNc:=Za hnc;have IHXc:=Za (IH.out _ (Ed (i:=1) (by omega)));have HWXc:=Za (HWA.out _ (Ed (i:=1) (by omega)));clear heb hesc hnc hDc;generalize hxc:Ci args 1=xc at y0 y1 y2 y3 y4 HESc HNc IHXc HWXc;have HXc:=Za hxc;clear hxc;have zc0:w5.cell? ⟨eb,off+5,none⟩=some (.int .i64 xc.kind):=by simpa using y0
 have zc1:w5.cell? ⟨eb,off+5+1,none⟩=some (.int .i64 xc.op):=by simpa using y1
 have zc2:w5.cell? ⟨eb,off+5+2,none⟩=some (.int .i64 xc.n):=by simpa using y2
 have zc3:w5.cell? ⟨eb,off+5+3,none⟩=some (.string (Aa xc.name)):=by simpa using y3
 have zc4:w5.cell? ⟨eb,off+5+4,none⟩=some (.slice eac xc.args.length ecc):=by simpa using y4
 clear y0 y1 y2 y3 y4;go_wp2_with fail
 refine(Pn xc IHXc.out (Aj o+1) b _ t _ w5 hb (HT.out.fr HF5.out HP.out hb) HP5.out HESc.out HNc.out HWXc.out (by have q:=HF.out;rw[HXa.out,HXc.out]at q;exact q.mono (by simp;try omega))).mono ?_;rintro r w6 ⟨rfl,hp6,hf6⟩;have HP6:=Za hp6;have HF6:=Za (HF5.out.trans hf6);have HL6:=Za (HL5.out.step hf6);clear hp6 hf6 c0 c1 c2 c3 c4 zc0 zc1 zc2 zc3 zc4;go_wp2_with fail
 go_end0
 exact⟨rfl,by rw[HXa.out,HXc.out];simpa using HP6.out,HF6.out⟩
theorem expr_5(o n:Int)(nm:Bs)(args:List Ex)(ih:∀x,x∈args→Dz x):Dz (.mk 5 o n nm args):=by
 intro b bs t s w hb ht hp hs hn hw hf;have hs:Ag (· <b) w args s:=hs;have hn:I64 n:=hn;have hwh:=(Bo hw).1;have hwa:∀x,x∈args→Bv x=true:=(Bo hw).2;obtain⟨sa,sc,rfl⟩:=hs.shape;have E:Hid (Af (.mk 5 o n nm args)=nm++[40]++Bm (args.map Af)++[41]):=by exact Pm o n nm args
 rw[E.out]at hf ⊢;show Calls _ _ #[.pointer (some ⟨b,0,none⟩),.agg #[.int .i64 5,.int .i64 o,.int .i64 n,.string (Aa nm),.slice sa args.length sc]] _ _
 have IH:=Za ih;have HT:=Za ht;have HP:=Za hp;have HN:=Za hn;have HF:=Za hf;have HS:=Za hs;have HWA:=Za hwa;have hp1:=Za (hp.alloc (.cells #[.int .i64 5,.int .i64 o,.int .i64 n,.string (Aa nm),.slice sa args.length sc] 27));have hf1:=Za (PFr.alloc hp (.cells #[.int .i64 5,.int .i64 o,.int .i64 n,.string (Aa nm),.slice sa args.length sc] 27));have hl1:=Za (Loc.new hp [.int .i64 5,.int .i64 o,.int .i64 n,.string (Aa nm),.slice sa args.length sc] 27);clear ih ht hp hs hw hf hn hwh hwa;go_enter Zi,Zj
 go_wp2_with fail
 refine(Cs o _).mono ?_;rintro r w2 ⟨rfl,hb2⟩;have hf2:=PFr.of_below hb2 hp1.out.lt;have HP2:=Za (hp1.out.old hb2);have HF2:=Za (hf1.out.trans hf2);have HL2:=Za (hl1.out.step hf2);clear hb2 hf2 hp1 hf1 hl1;have c0:=HL2.out.cell 0 (by simp);have c1:=HL2.out.cell 1 (by simp);have c2:=HL2.out.cell 2 (by simp);have c3:=HL2.out.cell 3 (by simp);have c4:=HL2.out.cell 4 (by simp);simp only[Zc,Zd]at c0 c1 c2 c3 c4;go_wp2_with fail
 refine(put2 nm [40] _ _ b _ t w2 rfl HP2.out (HF.out.mono (by simp;try omega))).mono ?_;rintro r w3 ⟨rfl,hp3,hf3⟩;have HP3:=Za hp3;have HF3:=Za (HF2.out.trans hf3);have HL3:=Za (HL2.out.step hf3);clear hp3 hf3 c0 c1 c2 c3 c4;have c0:=HL3.out.cell 0 (by simp);have c1:=HL3.out.cell 1 (by simp);have c2:=HL3.out.cell 2 (by simp);have c3:=HL3.out.cell 3 (by simp);have c4:=HL3.out.cell 4 (by simp);simp only[Zc,Zd]at c0 c1 c2 c3 c4;go_wp2_with fail
 refine(cQ args IH.out b _ t _ w3 hb (HT.out.fr HF3.out HP.out hb) HP3.out (HS.out.keep (HF3.out.keeps HP.out)) HWA.out (HF.out.mono (by simp;try omega))).mono ?_;rintro r w4 ⟨rfl,hp4,hf4⟩;have HP4:=Za hp4;have HF4:=Za (HF3.out.trans hf4);have HL4:=Za (HL3.out.step hf4);clear hp4 hf4 c0 c1 c2 c3 c4;go_wp2_with fail
 refine(Sy [41] _ _ b _ t w4 rfl HP4.out (HF.out.mono (by simp;try omega))).mono ?_;rintro r w5 ⟨rfl,hp5,hf5⟩;have HP5:=Za hp5;have HF5:=Za (HF4.out.trans hf5);have HL5:=Za (HL4.out.step hf5);clear hp5 hf5;go_wp2_with fail
 go_end0
 exact⟨rfl,by simpa using HP5.out,HF5.out⟩
theorem expr_6(o n:Int)(nm:Bs)(args:List Ex)(ih:∀x,x∈args→Dz x):Dz (.mk 6 o n nm args):=by
 intro b bs t s w hb ht hp hs hn hw hf;have hs:Ag (· <b) w args s:=hs;have hn:I64 n:=hn;have hwh:=(Bo hw).1;have hwa:∀x,x∈args→Bv x=true:=(Bo hw).2;obtain⟨sa,sc,rfl⟩:=hs.shape;have hlen:args.length=1:=by have q:=hwh;simp [Bx,Ce,Ex.kind,Ex.args]at q;omega
 have hl0:0<args.length:=by omega
 obtain⟨eb,off,_,rfl,_⟩:=hs.cellAt 0 (by omega);clear hlen;have E:Hid (Af (.mk 6 o n nm args)=nm++[91]++Af (Ci args 0)++[93]):=by exact Op o n nm args hl0
 rw[E.out]at hf ⊢;show Calls _ _ #[.pointer (some ⟨b,0,none⟩),.agg #[.int .i64 6,.int .i64 o,.int .i64 n,.string (Aa nm),.slice (some ⟨eb,off,none⟩) args.length sc]] _ _
 have IH:=Za ih;have HT:=Za ht;have HP:=Za hp;have HN:=Za hn;have HF:=Za hf;have HS:=Za hs;have HWA:=Za hwa;have hp1:=Za (hp.alloc (.cells #[.int .i64 6,.int .i64 o,.int .i64 n,.string (Aa nm),.slice (some ⟨eb,off,none⟩) args.length sc] 27));have hf1:=Za (PFr.alloc hp (.cells #[.int .i64 6,.int .i64 o,.int .i64 n,.string (Aa nm),.slice (some ⟨eb,off,none⟩) args.length sc] 27));have hl1:=Za (Loc.new hp [.int .i64 6,.int .i64 o,.int .i64 n,.string (Aa nm),.slice (some ⟨eb,off,none⟩) args.length sc] 27);clear ih ht hp hs hw hf hn hwh hwa;go_enter Zi,Zj
 go_wp2_with fail
 refine(Cs o _).mono ?_;rintro r w2 ⟨rfl,hb2⟩;have hf2:=PFr.of_below hb2 hp1.out.lt;have HP2:=Za (hp1.out.old hb2);have HF2:=Za (hf1.out.trans hf2);have HL2:=Za (hl1.out.step hf2);clear hb2 hf2 hp1 hf1 hl1;have c0:=HL2.out.cell 0 (by simp);have c1:=HL2.out.cell 1 (by simp);have c2:=HL2.out.cell 2 (by simp);have c3:=HL2.out.cell 3 (by simp);have c4:=HL2.out.cell 4 (by simp);simp only[Zc,Zd]at c0 c1 c2 c3 c4;go_wp2_with fail
 refine(put2 nm [91] _ _ b _ t w2 rfl HP2.out (HF.out.mono (by simp;try omega))).mono ?_;rintro r w3 ⟨rfl,hp3,hf3⟩;have HP3:=Za hp3;have HF3:=Za (HF2.out.trans hf3);have HL3:=Za (HL2.out.step hf3);clear hp3 hf3 c0 c1 c2 c3 c4;have c0:=HL3.out.cell 0 (by simp);have c1:=HL3.out.cell 1 (by simp);have c2:=HL3.out.cell 2 (by simp);have c3:=HL3.out.cell 3 (by simp);have c4:=HL3.out.cell 4 (by simp);simp only[Zc,Zd]at c0 c1 c2 c3 c4;obtain⟨eb',off',esa,heb,hDa,y0,y1,y2,y3,y4,hesa,hna⟩:=(HS.out.keep (HF3.out.keeps HP.out)).cellAt 0 (by omega);obtain⟨eaa,eca,rfl⟩:=hesa.shape;obtain⟨rfl,rfl⟩:eb=eb'∧off=off':=by cases heb;exact⟨rfl,rfl⟩
 have HESa:=Za hesa;have HNa:=Za hna;have IHXa:=Za (IH.out _ (Ed (i:=0) (by omega)));have HWXa:=Za (HWA.out _ (Ed (i:=0) (by omega)));clear heb hesa hna hDa;generalize hxa:Ci args 0=xa at y0 y1 y2 y3 y4 HESa HNa IHXa HWXa;have HXa:=Za hxa;clear hxa;have za0:w3.cell? ⟨eb,off,none⟩=some (.int .i64 xa.kind):=by simpa using y0
 have za1:w3.cell? ⟨eb,off+1,none⟩=some (.int .i64 xa.op):=by simpa using y1
 have za2:w3.cell? ⟨eb,off+2,none⟩=some (.int .i64 xa.n):=by simpa using y2
 have za3:w3.cell? ⟨eb,off+3,none⟩=some (.string (Aa xa.name)):=by simpa using y3
 have za4:w3.cell? ⟨eb,off+4,none⟩=some (.slice eaa xa.args.length eca):=by simpa using y4
 clear y0 y1 y2 y3 y4;go_wp2_with fail
 refine(IHXa.out b _ t _ w3 hb (HT.out.fr HF3.out HP.out hb) HP3.out HESa.out HNa.out HWXa.out (by have q:=HF.out;rw[HXa.out]at q;exact q.mono (by simp;try omega))).mono ?_;rintro r w4 ⟨rfl,hp4,hf4⟩;have HP4:=Za hp4;have HF4:=Za (HF3.out.trans hf4);have HL4:=Za (HL3.out.step hf4);clear hp4 hf4 c0 c1 c2 c3 c4 za0 za1 za2 za3 za4;go_wp2_with fail
 refine(Sy [93] _ _ b _ t w4 rfl HP4.out (by have q:=HF.out;rw[HXa.out]at q;exact q.mono (by simp;try omega))).mono ?_;rintro r w5 ⟨rfl,hp5,hf5⟩;have HP5:=Za hp5;have HF5:=Za (HF4.out.trans hf5);have HL5:=Za (HL4.out.step hf5);clear hp5 hf5;go_wp2_with fail
 go_end0
 exact⟨rfl,by rw[HXa.out];simpa using HP5.out,HF5.out⟩
theorem bC(e:Ex)(ih:∀x,x∈e.args→Dz x):Dz e:=by
 intro b bs t s w hb ht hp hs hn hw hf;have hk:=Lc (Bo hw).1;obtain⟨k,o,n,nm,args⟩:=e;simp only[Ex.kind]at hk;rcases hk with rfl|rfl|rfl|rfl|rfl|rfl|rfl
 ·exact expr_1 o n nm args ih b bs t s w hb ht hp hs hn hw hf
 ·exact expr_2 o n nm args ih b bs t s w hb ht hp hs hn hw hf
 ·exact expr_3 o n nm args ih b bs t s w hb ht hp hs hn hw hf
 ·exact expr_4 o n nm args ih b bs t s w hb ht hp hs hn hw hf
 ·exact expr_5 o n nm args ih b bs t s w hb ht hp hs hn hw hf
 ·exact expr_6 o n nm args ih b bs t s w hb ht hp hs hn hw hf
 ·exact expr_7 o n nm args ih b bs t s w hb ht hp hs hn hw hf
theorem Uf:∀(n:Nat) (e:Ex),SizeOf.sizeOf e≤n→Dz e
 |0,e,h=>by cases e;simp at h
 |n+1,e,h=>bC e fun x hx=>Uf n x (by have:=Ex.size_lt hx;omega)
theorem Zw:Tryz.prog.cellsOf 5=1:=by kernel_rfl
theorem Wj(b:Nat)(bs:Bs)(t:Int)(w:World)(hp:Cu w b bs t)(h0:bs≠[]):
  Calls Zb 33 #[.pointer (some ⟨b,0,none⟩)] w fun e w'=>e= .returned (.string (Aa bs))∧Below b w w':=by
 obtain⟨p,v,hbk,hq,hown⟩:=hp;have hl0:bs.length≠0:=by simpa using h0
 obtain⟨g,cap,cur,rfl,hbg,hg,hnc,hcm,hcs,htake⟩:∃g cap cur,v= .slice (some ⟨g,0,none⟩) bs.length cap∧b+1≤g∧w.heap[g]? =some (.cells cur 5 (0,0))∧bs.length≤cap∧cap≤maxLen∧cur.size=cap*1∧cur.toList.take (bs.length*1)=Zf bs:=by
  rcases hown.2 with⟨_,hz⟩|⟨g,cap,cur,hv,r⟩
  ·exact absurd hz hl0
  ·exact⟨g,cap,cur,hv,r⟩
 have c1:w.drew.cell? ⟨b,1,none⟩=some (.slice (some ⟨g,0,none⟩) bs.length cap):=by
  have:w.drew.heap[b]? =some (.cells #[p,.slice (some ⟨g,0,none⟩) bs.length cap,.int .i64 t] 81 (0,0)):=hbk;rw[Zh this];rfl
 have hSD:(Builtin.unsafeSliceData_ #[77] 125 #[.slice (some ⟨g,0,none⟩) bs.length cap]).run Zb w.drew= .ok (.pointer (some ⟨g,0,none⟩)) w.drew:=
  Lib.run_unsafeSliceData_row _ _ _ _ _ _ (by omega)
 have hUS:(Builtin.unsafeString_ #[125,3] 9 #[.pointer (some ⟨g,0,none⟩),.int .i64 bs.length]).run Zb w.drew= .ok (.string (Aa bs)) (w.drew.freeze ⟨g,0,none⟩ bs.length):=by
  refine Lib.run_unsafeString_row w.drew 125 3 9 5 Tryz.underlying125 Zw g cur.size (by have hg':w.drew.heap[g]? =some (.cells cur 5 (0,0)):=hg;simp [World.shape?,hg']) bs h0 (by omega) (by unfold maxLen at hcm;omega) ?_;intro j x hx;have:=hown.cells (g:=g) rfl j (.int .u8 x.toNat) (by simp [Zf,hx]);exact this
 have HG:Hid (b≤g):=by show _≤_;omega
 clear hbk hown hg hcs htake hcm hnc h0 hl0 hbg hq;have mixed:Tryz.prog.follows .mixedOrders=true:=by kernel_rfl
 go_enter Tryz.func33,Tryz.ntmps33
 go_wp2
 go_region_o
 all_goals(go_wp2;go_ret;exact⟨rfl,Lib.below_freeze (Below.drew (Below.refl b w)) (p:=⟨g,0,none⟩) HG.out _⟩)
theorem Cu.new(w:World):Cu (w.alloc (.cells #[.pointer none,.slice none 0 0,.int .i64 0] 81)) w.heap.size [] 0:=by
 refine⟨.pointer none,.slice none 0 0,Array.getElem?_push_size,.inl rfl,rfl,.inl ⟨rfl,rfl⟩⟩
theorem itoa_ne(n:Int):Lib.itoa n≠[]:=by
 unfold Lib.itoa;split
 ·simp
 ·intro h
  have h1:=Lib.decDigits_length n.toNat;rw[h]at h1;have:=Lib.nDigits_pos n.toNat;simp at h1;omega
theorem bP {e:Ex}(h:Bv e=true):Af e≠[]:=by
 have hk:=Lc (Bo h).1;have hw:=(Bo h).1;obtain⟨k,o,n,nm,args⟩:=e;simp only[Ex.kind]at hk;rcases hk with rfl|rfl|rfl|rfl|rfl|rfl|rfl
 ·rw[Lm];exact itoa_ne n
 ·rw[Qa];intro h;subst h;simp [Bx,Ee,Ex.kind,Ex.name,Ap]at hw
 ·have hl:0<args.length:=by simp [Bx,Ce,Ex.kind,Ex.args]at hw;omega
  rw[Pk o n nm args hl];have h0:Ee (.mk 3 o n nm args)=true:=by unfold Bx at hw;simp only[Zl]at hw;exact hw.1.1.1.1
  have h1:decide (o=17∨o=18∨o=19)=true:=h0;have h2:o=17∨o=18∨o=19:=of_decide_eq_true h1;rcases h2 with rfl|rfl|rfl<;>simp [Al]
 ·have hl:1<args.length:=by simp [Bx,Ce,Ex.kind,Ex.args]at hw;omega
  rw[Qe o n nm args hl];simp
 ·rw[Pm];simp
 ·have hl:0<args.length:=by simp [Bx,Ce,Ex.kind,Ex.args]at hw;omega
  rw[Op o n nm args hl];simp
 ·rw[Pg];simp
theorem Po(e:Ex)(s:Value)(w:World)(hb:3<w.heap.size)(ht:Jg w)(hs:Ag (· <w.heap.size) w e.args s)(hn:I64 e.n)(hr:Cm e=true)(hf:Fa (Af e).length):
  Calls Zb 16 #[exV e s] w fun r w'=>r= .returned (.tuple #[.string (Aa (Af e)),.int .i64 0])∧Below w.heap.size w w':=by
 obtain⟨sa,sc,rfl⟩:=hs.shape;have hw:Bv e=true:=by unfold Cm at hr;exact((Zl _ _).mp hr).2
 have hb1:Below w.heap.size w (w.alloc (.cells #[.int .i64 e.kind,.int .i64 e.op,.int .i64 e.n,.string (Aa e.name),.slice sa e.args.length sc] 27)):=bA;have HB1:=Za hb1;have HT:=Za ht;have HS:=Za hs;have HN:=Za hn;have HR:=Za hr;have HF:=Za hf;have HW:=Za hw;have HG:=Za hb;clear hb1 ht hs hn hr hf hw hb;go_enter Tryz.func16,Tryz.ntmps16
 go_wp2_with fail
 refine(Ht e (· <w.heap.size) _ _ (HS.out.old HB1.out)).mono ?_;rintro r w1 ⟨rfl,hb1⟩;rw[HR.out];have hz:w.heap.size<w1.heap.size:=by have:=hb1.size;simp at this;omega
 have HB2:=Za (HB1.out.trans (hb1.mono (by simp)));have c0:w1.cell? ⟨w.heap.size,0,none⟩=some (.int .i64 e.kind):=Ab hb1 (by simp);have c1:w1.cell? ⟨w.heap.size,1,none⟩=some (.int .i64 e.op):=Ab hb1 (by simp);have c2:w1.cell? ⟨w.heap.size,2,none⟩=some (.int .i64 e.n):=Ab hb1 (by simp);have c3:w1.cell? ⟨w.heap.size,3,none⟩=some (.string (Aa e.name)):=Ab hb1 (by simp);have c4:w1.cell? ⟨w.heap.size,4,none⟩=some (.slice sa e.args.length sc):=Ab hb1 (by simp);clear hb1;go_wp2_with fail
 have HB3:Hid (Below w.heap.size w (w1.alloc (.cells #[.pointer none,.slice none 0 0,.int .i64 0] 81))):=HB2.out.alloc (by omega) _;have HK:Hid (Ag (· <w1.heap.size) (w1.alloc (.cells #[.pointer none,.slice none 0 0,.int .i64 0] 81)) e.args (.slice sa e.args.length sc)):=(HS.out.old HB3.out).mono (fun b h=>Nat.lt_trans h hz);refine(Uf _ e (Ze _) w1.heap.size [] 0 _ _ (Nat.lt_trans HG.out hz) (HT.out.keep (HB3.out.block _ HG.out)) (Cu.new w1) HK.out HN.out HW.out (by simpa using HF.out)).mono ?_;rintro r w2 ⟨rfl,hp2,hf2⟩;have HP2:=Za hp2;have HB4:=Za (HB3.out.trans ((hf2.below (Cu.new w1)).mono (Nat.le_of_lt hz)));clear hp2 hf2 c0 c1 c2 c3 c4;go_wp2_with fail
 refine(Wj _ _ _ _ HP2.out (by simpa using bP HW.out)).mono ?_;rintro r w3 ⟨rfl,hb3⟩;have HB5:=Za (HB4.out.trans (hb3.mono (Nat.le_of_lt hz)));clear hb3;go_wp2_with fail
 go_ret2
 exact⟨by simp,HB5.out⟩
def Nz(la:List Ex):Prop:= ∀(lb:List Ex) (D:Nat→Prop) (va vb:Value) (w:World),Ag D w la va→Ag D w lb vb→
 Calls Zb 17 #[va,vb] w fun e w'=>e= .returned (.bool (De la lb))∧∃n,w'=w.drewN n
theorem Ag.drewN {D:Nat→Prop}{w:World}{l:List Ex}{v:Value}(h:Ag D w l v)(n:Nat):Ag D (w.drewN n) l v:=Ag.keep (w:=w) (w':=w.drewN n) (fun _ _ _ _ hx=>hx) h
theorem Tl(x y:Ex):Ef x y=(x.kind==y.kind && x.op==y.op && x.n==y.n && x.name==y.name && De x.args y.args):=by
 cases x;cases y;rw[Ef];rfl
theorem bM(x y:Ex):(Ef x y=false∧(x.kind !=y.kind)=true)∨(Ef x y=false∧(x.kind !=y.kind)=false∧(x.op !=y.op)=true)∨(Ef x y=false∧(x.kind !=y.kind)=false∧(x.op !=y.op)=false∧(x.n !=y.n)=true)
  ∨(Ef x y=false∧(x.kind !=y.kind)=false∧(x.op !=y.op)=false∧(x.n !=y.n)=false∧(x.name==y.name)=false)
  ∨(Ef x y=false∧(x.kind !=y.kind)=false∧(x.op !=y.op)=false∧(x.n !=y.n)=false∧(x.name==y.name)=true∧De x.args y.args=false)
  ∨(Ef x y=true∧(x.kind !=y.kind)=false∧(x.op !=y.op)=false∧(x.n !=y.n)=false∧(x.name==y.name)=true∧De x.args y.args=true):=by
 rw[Tl];simp only[bne]
 cases x.kind==y.kind<;>cases x.op==y.op<;>cases x.n==y.n<;>cases x.name==y.name<;>cases De x.args y.args<;>simp
theorem eE(la:List Ex)(ih:∀x,x∈la→Nz x.args):Nz la:=by
 intro lb D va vb w ha hb;obtain⟨a1,a2,rfl⟩:=ha.shape;obtain⟨b1,b2,rfl⟩:=hb.shape;have l63:=ha.fits.lt;have m63:=hb.fits.lt;rw[Nr]
 by_cases hl:lb.length=la.length
 ·rw[hl]at hb ⊢
  have HA:=Za ha;have HB:=Za hb;have IH:=Za ih;have HL:=Za hl;clear ha hb ih hl m63;go_enter Tryz.func17,Tryz.ntmps17
  go_wp2_with fail
  go_loopw [5] (fun s5 wr=> ∃k:Nat,k≤la.length∧s5= .int .i64 k∧(∀i,i<k→Ef (la.getD i Ex.nil) (lb.getD i Ex.nil)=true)∧∃n,wr=w.drewN n) (fun s5 _=>la.length - (intOf s5).toNat)
  case atStart=>exact⟨0,Nat.zero_le _,rfl,fun i hi=>by omega,0,rfl⟩
  case round=>
   obtain⟨k,hk,rfl,hno,hn⟩:=hrel;have HNO:=Za hno;have HN:=Za hn;have HAW:Hid (Ag D wr la (.slice a1 la.length a2)):=by obtain⟨n,rfl⟩:=hn;exact HA.out.drewN n
   have HBW:Hid (Ag D wr lb (.slice b1 la.length b2)):=by obtain⟨n,rfl⟩:=hn;exact HB.out.drewN n
   clear hno hn
   by_cases hlt:k<la.length
   ·obtain⟨xab,xao,xas,rfl,xaD,a0,a1,a2,a3,a4,ah,an⟩:=Ag.cellAt HAW.out k hlt
    obtain⟨xbb,xbo,xbs,rfl,xbD,b0,b1,b2,b3,b4,bh,bn⟩:=Ag.cellAt HBW.out k (by rw[HL.out];exact hlt);obtain⟨a5,a6,rfl⟩:=ah.shape;obtain⟨b5,b6,rfl⟩:=bh.shape;have HAH:=Za ah;have HBH:=Za bh;clear ah bh an bn xaD xbD HAW HBW;have IHX:=Za (IH.out _ (Ed hlt));have HKL:=Za hlt;have hc:=bM (Ci la k) (Ci lb k);generalize hxe:Ci la k=xa at*;generalize hye:Ci lb k=xb at*;have HXE:=Za hxe;have HYE:=Za hye;clear hxe hye;have HC:=Za hc;clear hc;have i0:(0:Int)≤(k:Int):=by omega
    have i1:(k:Int)<(la.length:Int):=by omega
    have HCALL:Hid (∀m,Calls Zb 17 #[.slice a5 xa.args.length a6,.slice b5 xb.args.length b6] (wr.drewN m) fun e w'=>e= .returned (.bool (De xa.args xb.args))∧∃n,w'=(wr.drewN m).drewN n):=fun m=>IHX.out _ D _ _ _ (HAH.out.drewN m) (HBH.out.drewN m)
    generalize De xa.args xb.args=qq at*;go_wp2_with fail
    go_quiet ((go_at_call 17;exact Calls.quiet_of (HCALL.out _)))
    have HC2:=Za HC.out;rcases HC2.out with⟨e,h1⟩|⟨e,h1,h2⟩|⟨e,h1,h2,h3⟩|⟨e,h1,h2,h3,h4⟩|⟨e,h1,h2,h3,h4,rfl⟩|⟨e,h1,h2,h3,h4,rfl⟩
    all_goals
     have HE:Hid (Ef (Ci la k) (Ci lb k)=Ef xa xb):=by show _=_;rw[HXE.out,HYE.out]
     have HE2:=Za e;clear HC HC2 e;go_wp2_with fail
     go_quiet (fail)
     go_wp2_with fail
    iterate 5
     ·go_ret
      obtain⟨n0,hn0⟩:=HN.out;exact⟨Be (Ln Ef Ex.nil la lb k HL.out.symm HKL.out (HE.out.trans HE2.out)).symm,_,by rw[hn0,World.drewN_drewN,World.drewN_drewN]⟩
    ·go_roundw
     case rel=>exact⟨k+1,by omega,by go_num,fun i hi=>by rcases Nat.lt_succ_iff_lt_or_eq.1 hi with h|rfl;exact HNO.out i h;exact HE.out.trans HE2.out,by obtain⟨n0,hn0⟩:=HN.out;exact⟨_,by rw[hn0,World.drewN_drewN]⟩⟩
     case measure=>simp [intOf];omega
   ·go_wp2_with fail
    go_ret
    exact⟨Be (Nq Ef Ex.nil la lb HL.out.symm (fun i hi=>HNO.out i (by omega))).symm,HN.out⟩
 ·have hne:((la.length:Int) !=(lb.length:Int))=true:=by rw[bne_iff_ne];omega
  have E:Hid (Gi Ef la lb=false):=Ow _ _ _ (by omega);clear ha hb ih hl;go_enter Tryz.func17,Tryz.ntmps17
  go_wp2_with fail
  go_ret
  exact⟨Be E.out.symm,0,rfl⟩
theorem Yl:∀(n:Nat) (l:List Ex),SizeOf.sizeOf l≤n→Nz l
 |0,l,h=>by cases l<;>simp at h
 |n+1,l,h=>eE l fun x hx=>Yl n x.args (by
  have h1:=List.sizeOf_lt_of_mem hx
  cases x with
  |mk k o m nm args=>show SizeOf.sizeOf args≤n;simp at h1;omega)
theorem ref_any(l:List Ex):Nz l:=Yl _ l (Ze _)
theorem Vq(raw0:List Int)(rv:Value)(n:Int)(hn:I64 n)(w:World)(hr:Fy (· <w.heap.size) w raw0 rv)(hl:Fh w):
  Calls Zb 4 #[rv,.int .i64 n] w fun e w'=>e= .returned (.bool true)∧Below w.heap.size w w':=by
 have HL:=Za hl;have HN:=Za hn;have HRA:=Za hr;clear hl hn hr;go_enter Tryz.func4,Tryz.ntmps4
 go_wp2_with fail
 refine(Wo w HL.out).mono ?_;rintro e w1 ⟨rfl,hb1⟩;have HB1:=Za hb1;have HR1:=Za (Fy.old hb1 HRA.out);have HL1:=Za (HL.out.old hb1);clear hb1 HRA;go_wp2_with fail
 refine(bX raw0 rv w1 HR1.out).mono ?_;rintro e w2 ⟨v,rfl,hb2,hx,hn2⟩;have hr:=Oq raw0;have hlen:=Ql raw0;clear HR1;generalize Ii raw0=X at*;obtain⟨sa,sc,rfl⟩:=hx.shape;have hwx:=eI X (by unfold Cm at hr;exact((Zl _ _).mp hr).2);have h64:N64 X:=by
  have ha:=hx.n64;obtain⟨k,o,n,nm,args⟩:=X;exact .mk k o n nm args hn2 ha
 have hal:Below w2.heap.size w2 (w2.alloc (.cells #[.int .i64 X.kind,.int .i64 X.op,.int .i64 X.n,.string (Aa X.name),.slice sa X.args.length sc] 27)):=bA;have HO:=Za (Ac.new w2 [.int .i64 X.kind,.int .i64 X.op,.int .i64 X.n,.string (Aa X.name),.slice sa X.args.length sc] 27);have HB3:=Za (HB1.out.trans ((hb2.trans (hal.mono hb2.size)).mono HB1.out.size));have HL3:=Za ((HL1.out.old hb2).old hal);have HX3:=Za ((hx.strong.keep (Ba hal)).mono (D':=(· <w2.heap.size)) (fun b hb=>hb.2));have HR:=Za hr;have HWX:=Za hwx;have H64:=Za h64;have HN2:=Za hn2;have HLN:=Za hlen;clear hb2 hal hx hn2 hr hwx h64 hlen;go_upto_region 3 with(fail)
 generalize hV:w2.alloc (.cells #[.int .i64 X.kind,.int .i64 X.op,.int .i64 X.n,.string (Aa X.name),.slice sa X.args.length sc] 27)=V at*;have hVz:V.heap.size=w2.heap.size+1:=by rw[←hV];simp
 clear hV HB1 HL1;have HXV:Hid (Ag (· <V.heap.size) V X.args (.slice sa X.args.length sc)):=HX3.out.mono (fun b hb=>by omega);generalize w2.heap.size=xb at*;clear hVz HX3;have x0:=HO.out.at 0 _ rfl;have x1:=HO.out.at 1 _ rfl;have x2:=HO.out.at 2 _ rfl;have x3:=HO.out.at 3 _ rfl;have x4:=HO.out.at 4 _ rfl;have hfit:Fa (Af X).length:=by have:=HLN.out;show _≤_;omega
 have HF:=Za hfit;clear hfit;go_wp2_with fail
 refine(Po X _ V HL3.out.lt HL3.out.pow HXV.out HN2.out HR.out HF.out).mono ?_;rintro e w4 ⟨rfl,hb4⟩;have HB4:=Za (HB3.out.trans (hb4.mono HB3.out.size));have HL4:=Za (HL3.out.old hb4);have HO4:=Za (HO.out.old hb4);have HX4:=Za ((HXV.out.old hb4).mono (D':=fun _=>True) (fun _ _=>trivial));clear hb4 HB3 HL3 HO HXV HF x0 x1 x2 x3 x4;go_wp2_with fail
 refine(aH n 51 HN.out (by decide) (by decide) w4).mono ?_;rintro e w5 ⟨he,rfl⟩;obtain⟨k,hk,hk51⟩:=Vb n 51 (by decide);rw[hk]at he;subst he;clear hk HN;go_wp2_with fail
 go_loopw [10,11] (fun s10 s11 wr=> ∃i:Nat,i≤k∧s11= .int .i64 i∧s10= .string (Aa (Fx (Af X) i))∧w5=wr) (fun _ s11 _=>k - (intOf s11).toNat)
 case atStart=>exact⟨0,Nat.zero_le _,rfl,rfl,rfl⟩
 case round=>
  obtain⟨i,hi,rfl,rfl,rfl⟩:=hrel;have hl1:=Tz (Af X) i;have hz:=bB (Fx (Af X) i);have hln:=HLN.out
  by_cases hlt:i<k
  ·have hS:Hid (Aa [40]++Aa (Fx (Af X) i)++Aa [41]=Aa (Fx (Af X) (i+1))):=by show _=_;rw[Iy,Iy];rfl
   generalize Aa (Fx (Af X) i)=S at*;have n1:¬(1+S.size>9223372036854775807):=by omega
   have n2:¬(9223372036854775807<1+S.size):=by omega
   have z1:(Aa [40]++S).size=1+S.size:=by rw[ByteArray.size_append];rfl
   have n3:¬(1+S.size+1>9223372036854775807):=by omega
   have n4:¬(9223372036854775807<1+S.size+1):=by omega
   have hltI:(i:Int)<(k:Int):=by omega
   clear hl1 hz hln;go_wp2_with fail
   exact⟨⟨i+1,hlt,rfl,congrArg Value.string hS.out,by first|rfl|trivial⟩,by simp [intOf];omega⟩
  ·have he:i=k:=by omega
   subst he;have HPG:=Za (pn_good HR.out HWX.out H64.out i (by omega) w5 HL4.out);have HPB:Hid (∀w',Fh w'→Calls Zb 13 #[.string (Aa (Fx (Af X) i++[41]))] w' (BadE w')):=Za fun w' hl=>(Xq HWX.out H64.out i (by rw[Zg,hl1];simp;omega) w' hl).mono fun _ _ h=>dY h
   have HPA:Hid (∀w',Fh w'→Calls Zb 13 #[.string (Aa ([40]++Fx (Af X) i))] w' (BadE w')):=Za fun w' hl=>(aI HWX.out H64.out i (by rw[Zg,hl1];simp;omega) w' hl).mono fun _ _ h=>dY h
   have hS1:Hid (Aa (Fx (Af X) i)++Aa [41]=Aa (Fx (Af X) i++[41])):=Iy _ _;have hS2:Hid (Aa [40]++Aa (Fx (Af X) i)=Aa ([40]++Fx (Af X) i)):=Iy _ _;generalize Aa (Fx (Af X) i++[41])=S1 at*;generalize Aa ([40]++Fx (Af X) i)=S2 at*;generalize Aa (Fx (Af X) i)=S at*;have n1:¬(1+S.size>9223372036854775807):=by omega
   have n2:¬(9223372036854775807<1+S.size):=by omega
   have n3:¬(S.size+1>9223372036854775807):=by omega
   have n4:¬(9223372036854775807<S.size+1):=by omega
   clear hl1 hz hln hlt hi HLN;go_wp2_with fail
   refine HPG.out.mono ?_;rintro e w6 ⟨hb6,ya,yc,rfl,hy6⟩;have hal:Below w6.heap.size w6 (w6.alloc (.cells #[.int .i64 X.kind,.int .i64 X.op,.int .i64 X.n,.string (Aa X.name),.slice ya X.args.length yc] 27)):=bA;have hbb:=hb6.trans (hal.mono hb6.size);have HB6:=Za (HB4.out.trans (hbb.mono HB4.out.size));have HL6:=Za (HL4.out.old hbb);have HO6:=Za (HO4.out.old hbb);have HX6:=Za (HX4.out.old hbb);have HOY:=Za (Ac.new w6 [.int .i64 X.kind,.int .i64 X.op,.int .i64 X.n,.string (Aa X.name),.slice ya X.args.length yc] 27);have HY6:=Za ((hy6.old hal).mono (D':=fun _=>True) (fun _ _=>trivial));clear hb6 hal hbb hy6 HPG;go_upto_region 11 with(fail)
   generalize w6.alloc (.cells #[.int .i64 X.kind,.int .i64 X.op,.int .i64 X.n,.string (Aa X.name),.slice ya X.args.length yc] 27)=w7 at*;generalize w6.heap.size=yb at*;clear HB4 HL4 HO4 HX4;go_wp2_with fail
   have hS1':Hid ((S++ {data:= #[41]})=S1):=hS1;rw[hS1'.out];clear hS1 hS1';refine(HPB.out w7 HL6.out).mono ?_;rintro e w8 ⟨hb8,m8,q1,q2,q3,q4,q5,q6,q7,rfl⟩;have hal:Below w8.heap.size w8 (w8.alloc (.cells #[.int .i64 q1,.int .i64 q2,.int .i64 q3,.string q4,.slice q5 q6 q7] 27)):=bA;have hbb:=hb8.trans (hal.mono hb8.size);have HB8:=Za (HB6.out.trans (hbb.mono HB6.out.size));have HL8:=Za (HL6.out.old hbb);have HO8:=Za (HO6.out.old hbb);have HX8:=Za (HX6.out.old hbb);have HOY8:=Za (HOY.out.old hbb);have HY8:=Za (HY6.out.old hbb);clear hb8 hal hbb;go_upto_region 12 with(fail)
   generalize w8.alloc (.cells #[.int .i64 q1,.int .i64 q2,.int .i64 q3,.string q4,.slice q5 q6 q7] 27)=w9 at*;clear HB6 HL6 HO6 HX6 HOY HY6 HPB;generalize w8.heap.size=zb at*;go_wp2_with fail
   have hS2':Hid (({data:= #[40]}++S)=S2):=hS2;rw[hS2'.out];clear hS2 hS2';refine(HPA.out w9 HL8.out).mono ?_;rintro e w10 ⟨hb10,m10,u1,u2,u3,u4,u5,u6,u7,rfl⟩;have hal:Below w10.heap.size w10 (w10.alloc (.cells #[.int .i64 u1,.int .i64 u2,.int .i64 u3,.string u4,.slice u5 u6 u7] 27)):=bA;have hbb:=hb10.trans (hal.mono hb10.size);have HB10:=Za (HB8.out.trans (hbb.mono HB8.out.size));have HOX:=Za (HO8.out.old hbb);have HX:=Za (HX8.out.old hbb);have HOY:=Za (HOY8.out.old hbb);have HY:=Za (HY8.out.old hbb);clear hb10 hal hbb;go_upto_region 13 with(fail)
   generalize w10.alloc (.cells #[.int .i64 u1,.int .i64 u2,.int .i64 u3,.string u4,.slice u5 u6 u7] 27)=Y at*;clear HB8 HL8 HO8 HX8 HOY8 HY8 HPA n1 n2 n3 n4;generalize w10.heap.size=tb at*;have x0:=HOX.out.at 0 _ rfl;have x1:=HOX.out.at 1 _ rfl;have x2:=HOX.out.at 2 _ rfl;have x3:=HOX.out.at 3 _ rfl;have x4:=HOX.out.at 4 _ rfl;have y0:=HOY.out.at 0 _ rfl;have y1:=HOY.out.at 1 _ rfl;have y2:=HOY.out.at 2 _ rfl;have y3:=HOY.out.at 3 _ rfl;have y4:=HOY.out.at 4 _ rfl;have ul:=HOX.out.lt;have xl:=HOY.out.lt;have hm1:=Df.new Y (As X (.slice sa X.args.length sc)) 27;have hbm:Below Y.heap.size Y (Y.alloc (.cells (As X (.slice sa X.args.length sc)).toArray 27)):=bA;have hm2:=Df.new (Y.alloc (.cells (As X (.slice sa X.args.length sc)).toArray 27)) (As X (.slice ya X.args.length yc)) 27;have hbn:Below Y.heap.size Y ((Y.alloc (.cells (As X (.slice sa X.args.length sc)).toArray 27)).alloc (.cells (As X (.slice ya X.args.length yc)).toArray 27)):=(bA).alloc (by simp) _;have hbo:=(Below.refl (Y.alloc (.cells (As X (.slice sa X.args.length sc)).toArray 27)).heap.size (Y.alloc (.cells (As X (.slice sa X.args.length sc)).toArray 27))).alloc (Ze _) (.cells (As X (.slice ya X.args.length yc)).toArray 27);rw[show(Y.alloc (.cells (As X (.slice sa X.args.length sc)).toArray 27)).heap.size=Y.heap.size+1 by simp]at hm2;have HD1:=Za (Ag.one (D:=fun _=>True) X _ trivial (hm1.below hbo) ((HX.out.old hbn).mono (fun _ _=>trivial)) HN2.out)
   have HE1:=Za (Ag.one (D:=fun _=>True) X _ trivial hm2 ((HY.out.old hbn).mono (fun _ _=>trivial)) HN2.out);have HBN:=Za (HB10.out.trans (hbn.mono HB10.out.size));clear hm1 hm2 hbm hbn hbo HX HY HB10 HOX HOY;go_wp2_with fail
   refine(ref_any [X] [X] (fun _=>True) _ _ _ HD1.out HE1.out).mono ?_;rw[(Jj [X] [X]).2 rfl];rintro e w11 ⟨rfl,m,rfl⟩;have HBX:=Za (cC HBN.out m);generalize World.drewN _ m=Z at*;clear HD1 HE1 x0 x1 x2 x3 x4 y0 y1 y2 y3 y4 ul xl;go_wp2_with fail
   go_ret
   exact⟨rfl,HBX.out⟩
end Go.Proofs.YtcfpfnoldgnloaaGreatDoor
