/-
  ParseBlanks: for every input the law returns true, and its arguments read afterwards as before: the row, the card. Condition: the tables that the row lists are laid as the program's text lays them.
-/
import Derived.Test.YtcfpfnoldgnloaaGreatDoorPb20
import Derived.Test.YtcfpfnoldgnloaaGreatDoorPb11
import Derived.Test.YtcfpfnoldgnloaaGreatDoorPb09
import Derived.BigRegion
import Derived.Test.YtcfpfnoldgnloaaGreatDoorCards
import Derived.Test.YtcfpfnoldgnloaaGreatDoorTie
set_option linter.unusedVariables false
set_option linter.unusedSimpArgs false
namespace Go.Proofs.YtcfpfnoldgnloaaGreatDoor
open Go.RowKit Go.Proofs.Tryz
set_option maxHeartbeats 20000000
set_option maxRecDepth 100000
open Go.Lib renaming hid→Za
open Go.Proofs.Tryz renaming prog→Zb
open Bw renaming old→Zc
open Below renaming refl→Zd
open World renaming cell?_alloc_lt→Ze
open Ba renaming old→Zf
open Nat renaming zero_le→Zg,lt_succ_iff_lt_or_eq→Zh
open List renaming length_append→Zi,getElem?_eq_getElem→Zj
theorem Ax.n64 {D:Nat→Prop}{w:World}{l:List St}{v:Value}(h:Ax D w l v):∀x,x∈l→Xt x:=by
 induction h with
 |mk l a cap b off sa st se hcap hfit ha h0 h1 h2 h3 h4 ea et ee ih1 ih2=>
  intro x hx;obtain⟨i,hi,rfl⟩:=List.getElem_of_mem hx;have e:Ht l i=l[i]:=by simp [Ht,Zj hi]
  have k1:=(ea i hi).n64;have k2:=ih1 i hi;have k3:=ih2 i hi;rw[e]at k1 k2 k3;generalize l[i]=y at k1 k2 k3;obtain⟨k,nm,args,thn,els⟩:=y;exact .mk k nm args thn els k1 k2 k3
theorem Bw.n64 {D:Nat→Prop}{w:World}{l:List Fu}{v:Value}(h:Bw D w l v):∀g,g∈l→∀x,x∈g.body→Xt x:=by
 obtain⟨a,cap,b,off,pv,lv,bv,hv,h1,h2,h3,h4⟩:=h;intro g hg;obtain⟨i,hi,rfl⟩:=List.getElem_of_mem hg;have e:Dn l i=l[i]:=by simp [Dn,Zj hi]
 have:=(h4 i hi).2.2.2.n64;rw[e]at this;exact this
def awP:List It:=[⟨[105,110,116],2,0,[32],[]⟩,⟨[109,97,105,110],1,0,[],[]⟩,⟨[40],4,0,[],[]⟩,⟨[41],4,0,[32],[]⟩,⟨[123],4,0,[32],[]⟩,⟨[112,114,105,110,116],2,0,[],[]⟩,⟨[40],4,0,[],[]⟩,⟨[49],3,1,[32],[]⟩,⟨[43],4,0,[32],[]⟩,⟨[50],3,2,[32],[]⟩,⟨[42],4,0,[32],[]⟩,⟨[51],3,3,[],[]⟩,⟨[41],4,0,[],[]⟩,⟨[59],4,0,[32],[]⟩,⟨[125],4,0,[],[]⟩]
def awQ:List It:=[⟨[105,110,116],2,0,[32],[]⟩,⟨[109,97,105,110],1,0,[],[]⟩,⟨[40],4,0,[],[]⟩,⟨[41],4,0,[32],[]⟩,⟨[123],4,0,[10],[]⟩]
def awX:List It:=[⟨[97],1,0,[32],[]⟩,⟨[45],4,0,[32],[]⟩,⟨[98],1,0,[32],[]⟩,⟨[45],4,0,[32],[]⟩,⟨[99],1,0,[],[]⟩]
theorem awP_ok:pY [] awP=true:=by kernel_rfl
theorem awQ_ok:pY [] awQ=true:=by kernel_rfl
theorem awX_ok:pY [] awX=true:=by kernel_rfl
theorem aw_p(w:World)(hl:Jj w):
  Calls Zb 14 #[.string ⟨#[105,110,116,32,109,97,105,110,40,41,32,123,32,112,114,105,110,116,40,49,32,43,32,50,32,42,32,51,41,59,32,125]⟩] w fun e w'=>
   Below w.heap.size w w'∧∃aa an ac b off cap b2 o2 c2,e=.returned (.tuple #[.agg #[.slice aa an ac,.slice (some ⟨b,off,none⟩) 1 cap],.int .i64 0,.int .i64 0])∧w'.cell? ⟨b,off+3,none⟩=some (.slice (some ⟨b2,o2,none⟩) 1 c2)∧w'.cell? ⟨b2,o2,none⟩=some (.int .i64 8)∧1≤cap∧1≤c2:=by
 obtain⟨h1,h2⟩:=Vu [] awP awP_ok;refine(Qa [] [] My awP h1 h2 (by decide) (by decide) 100 (by decide) w hl).mono ?_;intro e w' hp;obtain⟨hb,v,he,av,fv,hv,hxa,hxf⟩:=hp;have e1:(Qd (Tv (Fm 100 ⟨[],[]⟩ (Dw (1+Co (Ao [] [])) awP)))).2.1=0:=by kernel_rfl
 have e2:(Qd (Tv (Fm 100 ⟨[],[]⟩ (Dw (1+Co (Ao [] [])) awP)))).2.2=0:=by kernel_rfl
 have e3:(Qd (Tv (Fm 100 ⟨[],[]⟩ (Dw (1+Co (Ao [] [])) awP)))).1.funcs.length=1:=by kernel_rfl
 have e4:(Dn (Qd (Tv (Fm 100 ⟨[],[]⟩ (Dw (1+Co (Ao [] [])) awP)))).1.funcs 0).body.length=1:=by kernel_rfl
 have e5:(Ht (Dn (Qd (Tv (Fm 100 ⟨[],[]⟩ (Dw (1+Co (Ao [] [])) awP)))).1.funcs 0).body 0).kind=8:=by kernel_rfl
 generalize Qd (Tv (Fm 100 ⟨[],[]⟩ (Dw (1+Co (Ao [] [])) awP)))=R at*;obtain⟨a,cap,b,off,pv,lv,bv,rfl,hc,_,hz,hall⟩:=hxf;rw[e3]at hc hz hall;obtain⟨⟨_,_,_,g3⟩,_,_,hst⟩:=hall 0 (by decide);obtain⟨a2,c2,hs2⟩:=hst.shape;rw[hs2]at hst g3;rcases hz with hz|⟨rfl,_⟩
 ·omega
 have hq:∃b2 o2,a2=some ⟨b2,o2,none⟩∧w'.cell? ⟨b2,o2,none⟩=some (.int .i64 8)∧1≤c2:=by
  rw[←e5]
  cases hst with
  |mk _ _ _ b2 o2 sa st se hcap hfit ha h0=>
   rcases ha with ha|⟨ha,_⟩
   ·omega
   ·exact⟨b2,o2,ha,by simpa using h0 0 (by omega),by omega⟩
 obtain⟨b2,o2,rfl,hk,hc2⟩:=hq;rw[e4]at g3;obtain⟨aa,an,ac,rfl⟩:∃a n c,av=Value.slice a n c:=by obtain⟨a,c,h⟩:=hxa.yshape;exact⟨a,_,c,h⟩
 refine⟨hb,aa,an,ac,b,off,cap,b2,o2,c2,?_,by simpa using g3,hk,hc,hc2⟩;rw[he,hv,e1,e2,e3]
theorem aw_q(w:World)(hl:Jj w):
  Calls Zb 14 #[.string ⟨#[105,110,116,32,109,97,105,110,40,41,32,123,10]⟩] w fun e w'=>
   Below w.heap.size w w'∧∃aa an ac fa fn fc,e=.returned (.tuple #[.agg #[.slice aa an ac,.slice fa fn fc],.int .i64 40,.int .i64 2]):=by
 obtain⟨h1,h2⟩:=Vu [] awQ awQ_ok;refine(Qa [] [] My awQ h1 h2 (by decide) (by decide) 100 (by decide) w hl).mono ?_;intro e w' hp;obtain⟨hb,v,he,av,fv,hv,hxa,hxf⟩:=hp;obtain⟨aa,an,ac,rfl⟩:∃a n c,av=Value.slice a n c:=by obtain⟨a,c,h⟩:=hxa.yshape;exact⟨a,_,c,h⟩
 obtain⟨fa,fn,fc,rfl⟩:∃a n c,fv=Value.slice a n c:=by obtain⟨a,c,h⟩:=hxf.yshape;exact⟨a,_,c,h⟩
 refine⟨hb,aa,an,ac,fa,fn,fc,?_⟩;rw[he,hv];rfl
theorem aw_x(w:World)(hl:Jj w):
  Calls Zb 13 #[.string ⟨#[97,32,45,32,98,32,45,32,99]⟩] w fun e w'=>
   Below w.heap.size w w'∧∃k o n s b off cap,e=.returned (.tuple #[.agg #[.int .i64 k,.int .i64 o,.int .i64 n,.string s,.slice (some ⟨b,off,none⟩) 2 cap],.int .i64 0,.int .i64 0])∧w'.cell? ⟨b,off+8,none⟩=some (.string ⟨#[99]⟩):=by
 obtain⟨h1,h2⟩:=Vu [] awX awX_ok;refine(sA [] [] My awX h1 h2 (by decide) (by decide) 100 (by decide) w hl).mono ?_;intro e w' hp;obtain⟨hb,v,he,s,hv,hx,hn⟩:=hp;have e1:(Tf (eE (Bf 100 1 (Dw (1+Co (Ao [] [])) awX)))).2.1=0:=by kernel_rfl
 have e2:(Tf (eE (Bf 100 1 (Dw (1+Co (Ao [] [])) awX)))).2.2=0:=by kernel_rfl
 have e3:(Tf (eE (Bf 100 1 (Dw (1+Co (Ao [] [])) awX)))).1.args.length=2:=by kernel_rfl
 have e4:(Bx (Tf (eE (Bf 100 1 (Dw (1+Co (Ao [] [])) awX)))).1.args 1).name=[99]:=by kernel_rfl
 generalize Tf (eE (Bf 100 1 (Dw (1+Co (Ao [] [])) awX)))=R at*;obtain⟨a,cap,rfl⟩:=hx.shape;obtain⟨b,off,s2,rfl,_,_,_,_,h4,_⟩:=hx.cellAt 1 (by omega);rw[e4]at h4;refine⟨hb,R.1.kind,R.1.op,R.1.n,Aa R.1.name,b,off,cap,?_,h4⟩;rw[he,hv,e1,e2,e3]
theorem mD(w:World)(hl:Jj w):
  Calls Zb 11 #[] w fun e w'=>e=.returned (.bool true)∧Below w.heap.size w w':=by
 have HL:=Za hl;clear hl;go_enter func11,ntmps11
 go_wp2_with fail
 refine(aw_p w HL.o).mono ?_;rintro e w1 ⟨hb1,aa,an,ac,b,off,cap,b2,o2,c2,rfl,h3,hk,hc,hc2⟩;have hal:Below w1.heap.size w1 (w1.alloc (.cells #[.slice aa an ac,.slice (some ⟨b,off,none⟩) 1 cap] 34)):=bA;have HO:=Za (Ae.new w1 [.slice aa an ac,.slice (some ⟨b,off,none⟩) 1 cap] 34);have HL1:=Za ((HL.o.old hb1).old hal);have HB1:=Za (hb1.trans (hal.mono hb1.size));have H3:=Za (Ad hal h3);have HK:=Za (Ad hal hk);clear hb1 h3 hk hal;go_upto_region 2 with(fail)
 generalize w1.alloc (.cells #[.slice aa an ac,.slice (some ⟨b,off,none⟩) 1 cap] 34)=w2 at*;obtain⟨pb,hpb⟩:∃pb,w1.heap.size=pb:=⟨_,rfl⟩;rw[hpb]at HO ⊢;clear hpb;go_wp2_with fail
 refine(aw_q w2 HL1.o).mono ?_;rintro e w3 ⟨hb3,a3,n3,d3,f3,m3,e3,rfl⟩;have hal:Below w3.heap.size w3 (w3.alloc (.cells #[.slice a3 n3 d3,.slice f3 m3 e3] 34)):=bA;have HO3:=Za ((HO.o.old hb3).old hal);have HL3:=Za ((HL1.o.old hb3).old hal);have HB3:=Za (HB1.o.trans ((hb3.trans (hal.mono hb3.size)).mono HB1.o.size));have H33:=Za (Ad hal (Ad hb3 H3.o));have HK3:=Za (Ad hal (Ad hb3 HK.o));clear hb3 hal HO HL1 HB1 H3 HK;go_upto_region 3 with(fail)
 generalize w3.alloc (.cells #[.slice a3 n3 d3,.slice f3 m3 e3] 34)=w4 at*;go_wp2_with fail
 refine(aw_x w4 HL3.o).mono ?_;rintro e w5 ⟨hb5,k,o,n,s,b5,off5,cap5,rfl,h5⟩;have hal:Below w5.heap.size w5 (w5.alloc (.cells #[.int .i64 k,.int .i64 o,.int .i64 n,.string s,.slice (some ⟨b5,off5,none⟩) 2 cap5] 27)):=bA;have HO5:=Za ((HO3.o.old hb5).old hal);have HX5:=Za (Ae.new w5 [.int .i64 k,.int .i64 o,.int .i64 n,.string s,.slice (some ⟨b5,off5,none⟩) 2 cap5] 27);have HB5:=Za (HB3.o.trans ((hb5.trans (hal.mono hb5.size)).mono HB3.o.size));have H35:=Za (Ad hal (Ad hb5 H33.o));have HK5:=Za (Ad hal (Ad hb5 HK3.o));have H85:=Za (Ad hal h5);clear hb5 hal HO3 HL3 HB3 H33 HK3 h5;go_upto_region 4 with(fail)
 generalize w5.alloc (.cells #[.int .i64 k,.int .i64 o,.int .i64 n,.string s,.slice (some ⟨b5,off5,none⟩) 2 cap5] 27)=w6 at*;obtain⟨xb,hxb⟩:∃xb,w5.heap.size=xb:=⟨_,rfl⟩;rw[hxb]at HX5 ⊢;clear hxb;have p1:=HO5.o.at 1 _ rfl;have q4:=HX5.o.at 4 _ rfl;have c3:=H35.o;have ck:=HK5.o;have c8:=H85.o;have hcI:(1:Int)≤(cap:Int):=by omega
 go_wp2_with fail
 go_ret
 exact⟨rfl,HB5.o⟩
def Rt(c n:Int):Int:=if c<0 then(-(c+1)) % n else c % n
theorem rK(c n:Int)(hc:I64 c)(h0:0<n)(h1:n≤9223372036854775807)(w:World):
  Calls Zb 12 #[.int .i64 c,.int .i64 n] w fun e w'=>e=.returned (.int .i64 (Rt c n))∧w'=w:=by
 obtain⟨l,u⟩:=hc;unfold Rt
 by_cases hneg:c<0
 ·rw[if_pos hneg]
  have hn0:(n==0)=false:=by simp;omega
  go_enter func12,ntmps12
  go_wp2_with fail
  go_ret
  exact⟨Iv (by show -((c+1).tmod n)=_;rw[←Int.neg_tmod,Int.tmod_eq_emod_of_nonneg (by omega)]),rfl⟩
 ·rw[if_neg hneg]
  have hneg':0≤c:=by omega
  go_enter func12,ntmps12
  go_wp2_with fail
  go_ret
  exact⟨rfl,rfl⟩
theorem iD(c n:Int)(h:0<n):∃k:Nat,Rt c n=k∧(k:Int)<n:=by
 unfold Rt;split
 ·exact⟨((-(c+1)) % n).toNat,by have:=Int.emod_nonneg (-(c+1)) (show n≠0 by omega);omega,by have:=Int.emod_nonneg (-(c+1)) (show n≠0 by omega);have:=Int.emod_lt_of_pos (-(c+1)) h;omega⟩
 ·exact⟨(c % n).toNat,by have:=Int.emod_nonneg c (show n≠0 by omega);omega,by have:=Int.emod_nonneg c (show n≠0 by omega);have:=Int.emod_lt_of_pos c h;omega⟩
def Pe(a:Ex):Prop:= ∀(b:Ex) (D:Nat→Prop) (sa sb:Value) (w:World),Ag D w a.args sa→Ag D w b.args sb→
 Calls Zb 117 #[exV a sa,exV b sb] w fun e w'=>e=.returned (.bool (Iy a b))∧Below w.heap.size w w'
theorem Yi(la:List Ex)(ih:∀x,x∈la→Pe x)(lb:List Ex)(D:Nat→Prop)(va vb:Value)(w:World)(ha:Ag D w la va)(hb:Ag D w lb vb):
  Calls Zb 116 #[va,vb,.func (.func 117) #[] #[]] w fun e w'=>e=.returned (.bool (Cf Iy la lb))∧Below w.heap.size w w':=by
 obtain⟨a1,a2,rfl⟩:=ha.shape;obtain⟨b1,b2,rfl⟩:=hb.shape;have l63:=ha.fits.lt;have m63:=hb.fits.lt
 by_cases hl:lb.length=la.length
 ·rw[hl]at hb ⊢
  have HA:=Za ha;have HB:=Za hb;have IH:=Za ih;have HL:=Za hl;clear ha hb ih hl m63;go_enter func116,ntmps116
  go_wp2_with fail
  go_loopw [7,8,9,17] (fun _ _ _ s17 wr=> ∃k:Nat,k≤la.length∧s17=.int .i64 k∧(∀i,i<k→Iy (la.getD i Ex.nil) (lb.getD i Ex.nil)=true)∧Below w.heap.size w wr) (fun _ _ _ s17 _=>la.length-(intOf s17).toNat)
  case atStart=>exact⟨0,Zg _,rfl,fun i hi=>by omega,Zd _ _⟩
  case round=>
   obtain⟨k,hk,rfl,hno,hb⟩:=hrel;have HNO:=Za hno;have HBW:=Za hb;have hsz:=hb.size;clear hno hb
   by_cases hlt:k<la.length
   ·obtain⟨xab,xao,xas,rfl,xaD,a0,a1,a2,a3,a4,ah,an⟩:=Ag.cellAt (Ag.old HBW.o HA.o) k hlt
    obtain⟨xbb,xbo,xbs,rfl,xbD,b0,b1,b2,b3,b4,bh,bn⟩:=Ag.cellAt (Ag.old HBW.o HB.o) k (by rw[HL.o];exact hlt);obtain⟨a5,a6,rfl⟩:=ah.shape;obtain⟨b5,b6,rfl⟩:=bh.shape;have al:=World.block_lt_of_cell? _ _ a0;have bl:=World.block_lt_of_cell? _ _ b0;have HAH:=Za ah;have HBH:=Za bh;clear ah bh an bn xaD xbD;have IHX:=Za (IH.out _ (Cz hlt));have HKL:=Za hlt;generalize hxe:Bx la k=xa at*;generalize hye:Bx lb k=xb at*;have HXE:=Za hxe;have HYE:=Za hye;clear hxe hye;generalize hxa:Iy xa xb=q;have HXA:Hid (Iy (Bx la k) (Bx lb k)=q):=by show _=_;rw[HXE.o,HYE.o];exact hxa
    have HXB:=Za hxa;clear hxa;have hww:Below wr.heap.size wr ((wr.alloc (.cells #[.int .i64 xa.kind,.int .i64 xa.op,.int .i64 xa.n,.string (Aa xa.name),.slice a5 xa.args.length a6] 27)).alloc (.cells #[.int .i64 xb.kind,.int .i64 xb.op,.int .i64 xb.n,.string (Aa xb.name),.slice b5 xb.args.length b6] 27)):=(bA).alloc (by simp) _;have HAH2:=Za (HAH.o.old hww);have HBH2:=Za (HBH.o.old hww);have HWW:=Za (HBW.o.trans (hww.mono hsz));clear hww;go_wp2_with fail
    refine(IHX.out _ D _ _ _ HAH2.o HBH2.o).mono ?_;rw[HXB.o]
    cases q
    ·rintro r w2 ⟨rfl,hb2⟩
     have HB2:=Za (HWW.o.trans (hb2.mono (by simp;omega)));clear hb2 a0 a1 a2 a3 a4 b0 b1 b2 b3 b4;go_wp2_with fail
     go_ret
     exact⟨Au (Im Iy Ex.nil la lb k HL.o.symm HKL.o HXA.o).symm,HB2.o⟩
    ·rintro r w2 ⟨rfl,hb2⟩
     have HB2:=Za (HWW.o.trans (hb2.mono (by simp;omega)));clear hb2 a0 a1 a2 a3 a4 b0 b1 b2 b3 b4;go_wp2_with fail
     go_roundw
     case rel=>exact⟨k+1,by omega,by go_num,fun i hi=>by rcases Zh.1 hi with h|rfl;exact HNO.o i h;exact HXA.o,HB2.o⟩
     case measure=>simp [intOf];omega
   ·go_wp2_with fail
    go_ret
    exact⟨Au (Jg Iy Ex.nil la lb HL.o.symm (fun i hi=>HNO.o i (by omega))).symm,HBW.o⟩
 ·have hne:((la.length:Int) !=(lb.length:Int))=true:=by rw[bne_iff_ne];omega
  have E:Hid (Cf Iy la lb=false):=Kn _ _ _ (by omega);clear ha hb ih hl;go_enter func116,ntmps116
  go_wp2_with fail
  go_ret
  exact⟨Au E.out.symm,Zd _ _⟩
theorem aB(a:Ex)(ih:∀x,x∈a.args→Pe x):Pe a:=by
 intro b D sa sb w ha hb;obtain⟨a1,a2,rfl⟩:=ha.shape;obtain⟨b1,b2,rfl⟩:=hb.shape;have EQ:=Za (Yi a.args ih);obtain⟨k,o,n,nm,us⟩:=a;obtain⟨k',o',n',nm',bs⟩:=b;have HA:=Za ha;have HB:=Za hb;have E:Hid (Iy (.mk k o n nm us) (.mk k' o' n' nm' bs)=(k==k' && o==o' && n==n' && nm==nm' && Cf Iy us bs)):=by show _=_;rw[Iy,Og]
 clear ha hb ih;show Calls _ _ #[.agg #[.int .i64 k,.int .i64 o,.int .i64 n,.string (Aa nm),.slice a1 us.length a2],.agg #[.int .i64 k',.int .i64 o',.int .i64 n',.string (Aa nm'),.slice b1 bs.length b2]] _ _
 rw[E.out];go_enter func117,ntmps117
 go_wp2_with fail
 ·refine(EQ.out bs D (.slice a1 us.length a2) (.slice b1 bs.length b2) _ ?h1 ?h2).mono ?_
  case h1=>exact Ag.old ((bA).alloc (by simp) _) HA.o
  case h2=>exact Ag.old ((bA).alloc (by simp) _) HB.o
  rintro r w1 ⟨rfl,hb⟩;go_wp2_with fail
  go_ret
  exact⟨Au (by simp [*,Ex.args,St.args,St.thn,St.els]),((bA).alloc (by simp) _).trans (hb.mono (by simp;omega))⟩
 all_goals
  go_ret
  refine⟨Au ?_,(bA).alloc (by simp) _⟩;simp [*]
theorem Rh:∀(n:Nat) (e:Ex),SizeOf.sizeOf e≤n→Pe e
 |0,e,h=>by cases e;simp at h
 |n+1,e,h=>aB e fun x hx=>Rh n x (by have:=Ex.size_lt hx;omega)
theorem dC(e:Ex):Pe e:=Rh _ e (Nat.le_refl _)
theorem oJ(la lb:List Ex)(D:Nat→Prop)(va vb:Value)(w:World)(ha:Ag D w la va)(hb:Ag D w lb vb):
  Calls Zb 116 #[va,vb,.func (.func 117) #[] #[]] w fun e w'=>e=.returned (.bool (Gx la lb))∧Below w.heap.size w w':=by
 rw[Og];exact Yi la (fun x _=>dC x) lb D va vb w ha hb
def Pa(x:St):Prop:= ∀(y:St) (D:Nat→Prop) (a t e a' t' e':Value) (w:World),Ag D w x.args a→Ax D w x.thn t→Ax D w x.els e→Ag D w y.args a'→Ax D w y.thn t'→Ax D w y.els e'→
 Calls Zb 56 #[stV x a t e,stV y a' t' e'] w fun e w'=>e=.returned (.bool (Fy x y))∧Below w.heap.size w w'
theorem Re(la:List St)(ih:∀x,x∈la→Pa x)(lb:List St)(D:Nat→Prop)(va vb:Value)(w:World)(ha:Ax D w la va)(hb:Ax D w lb vb):
  Calls Zb 55 #[va,vb,.func (.func 56) #[] #[]] w fun e w'=>e=.returned (.bool (Cf Fy la lb))∧Below w.heap.size w w':=by
 obtain⟨a1,a2,rfl⟩:=ha.shape;obtain⟨b1,b2,rfl⟩:=hb.shape;have l63:=ha.fits.lt;have m63:=hb.fits.lt
 by_cases hl:lb.length=la.length
 ·rw[hl]at hb ⊢
  have HA:=Za ha;have HB:=Za hb;have IH:=Za ih;have HL:=Za hl;clear ha hb ih hl m63;go_enter func55,ntmps55
  go_wp2_with fail
  go_loopw [7,8,9,17] (fun _ _ _ s17 wr=> ∃k:Nat,k≤la.length∧s17=.int .i64 k∧(∀i,i<k→Fy (la.getD i St.nil) (lb.getD i St.nil)=true)∧Below w.heap.size w wr) (fun _ _ _ s17 _=>la.length-(intOf s17).toNat)
  case atStart=>exact⟨0,Zg _,rfl,fun i hi=>by omega,Zd _ _⟩
  case round=>
   obtain⟨k,hk,rfl,hno,hb⟩:=hrel;have HNO:=Za hno;have HBW:=Za hb;have hsz:=hb.size;clear hno hb
   by_cases hlt:k<la.length
   ·obtain⟨xab,xao,a7,a8,a9,rfl,xaD,al,a0,a1,a2,a3,a4,ah,at',ae⟩:=Ax.cellAt (Ax.old HBW.o HA.o) k hlt
    obtain⟨xbb,xbo,b7,b8,b9,rfl,xbD,bl,b0,b1,b2,b3,b4,bh,bt,be⟩:=Ax.cellAt (Ax.old HBW.o HB.o) k (by rw[HL.o];exact hlt);obtain⟨a51,a52,rfl⟩:=ah.shape;obtain⟨b51,b52,rfl⟩:=bh.shape;obtain⟨a61,a62,rfl⟩:=Ax.shape at';obtain⟨b61,b62,rfl⟩:=Ax.shape bt;obtain⟨a71,a72,rfl⟩:=Ax.shape ae;obtain⟨b71,b72,rfl⟩:=Ax.shape be;have HAH:=Za ah;have HBH:=Za bh;have HAT:=Za at';have HBT:=Za bt;have HAE:=Za ae;have HBE:=Za be;clear ah bh at' bt ae be xaD xbD;have IHX:=Za (IH.out _ (Xu hlt));have HKL:=Za hlt;generalize hxe:Ht la k=xa at*;generalize hye:Ht lb k=xb at*;have HXE:=Za hxe;have HYE:=Za hye;clear hxe hye;generalize hxa:Fy xa xb=q;have HXA:Hid (Fy (Ht la k) (Ht lb k)=q):=by show _=_;rw[HXE.o,HYE.o];exact hxa
    have HXB:=Za hxa;clear hxa;have hww:Below wr.heap.size wr ((wr.alloc (.cells #[.int .i64 xa.kind,.string (Aa xa.name),.slice a51 xa.args.length a52,.slice a61 xa.thn.length a62,.slice a71 xa.els.length a72] 60)).alloc (.cells #[.int .i64 xb.kind,.string (Aa xb.name),.slice b51 xb.args.length b52,.slice b61 xb.thn.length b62,.slice b71 xb.els.length b72] 60)):=(bA).alloc (by simp) _;have HAH2:=Za (HAH.o.old hww);have HBH2:=Za (HBH.o.old hww);have HAT2:=Za (HAT.o.old hww);have HBT2:=Za (HBT.o.old hww);have HAE2:=Za (HAE.o.old hww);have HBE2:=Za (HBE.o.old hww);have HWW:=Za (HBW.o.trans (hww.mono hsz));clear hww;go_wp2_with fail
    refine(IHX.out _ D _ _ _ _ _ _ _ HAH2.o HAT2.o HAE2.o HBH2.o HBT2.o HBE2.o).mono ?_;rw[HXB.o]
    cases q
    ·rintro r w2 ⟨rfl,hb2⟩
     have HB2:=Za (HWW.o.trans (hb2.mono (by simp;omega)));clear hb2 a0 a1 a2 a3 a4 b0 b1 b2 b3 b4;go_wp2_with fail
     go_ret
     exact⟨Au (Im Fy St.nil la lb k HL.o.symm HKL.o HXA.o).symm,HB2.o⟩
    ·rintro r w2 ⟨rfl,hb2⟩
     have HB2:=Za (HWW.o.trans (hb2.mono (by simp;omega)));clear hb2 a0 a1 a2 a3 a4 b0 b1 b2 b3 b4;go_wp2_with fail
     go_roundw
     case rel=>exact⟨k+1,by omega,by go_num,fun i hi=>by rcases Zh.1 hi with h|rfl;exact HNO.o i h;exact HXA.o,HB2.o⟩
     case measure=>simp [intOf];omega
   ·go_wp2_with fail
    go_ret
    exact⟨Au (Jg Fy St.nil la lb HL.o.symm (fun i hi=>HNO.o i (by omega))).symm,HBW.o⟩
 ·have hne:((la.length:Int) !=(lb.length:Int))=true:=by rw[bne_iff_ne];omega
  have E:Hid (Cf Fy la lb=false):=Kn _ _ _ (by omega);clear ha hb ih hl;go_enter func55,ntmps55
  go_wp2_with fail
  go_ret
  exact⟨Au E.out.symm,Zd _ _⟩
theorem Yx(x:St)(iht:∀y,y∈x.thn→Pa y)(ihe:∀y,y∈x.els→Pa y):Pa x:=by
 intro y D sa st se sb ut ue w ha ht he hb ht' he';obtain⟨a1,a2,rfl⟩:=ha.shape;obtain⟨t1,t2,rfl⟩:=ht.shape;obtain⟨e1,e2,rfl⟩:=he.shape;obtain⟨b1,b2,rfl⟩:=hb.shape;obtain⟨u1,u2,rfl⟩:=ht'.shape;obtain⟨v1,v2,rfl⟩:=he'.shape;have EQT:=Za (Re x.thn iht);have EQE:=Za (Re x.els ihe);obtain⟨k,nm,us,tt,ee⟩:=x;obtain⟨k',nm',vs,tt',ee'⟩:=y;have HA:=Za ha;have HT:=Za ht;have HE:=Za he;have HA':=Za hb;have HT':=Za ht';have HE':=Za he';have E:Hid (Fy (.mk k nm us tt ee) (.mk k' nm' vs tt' ee')=(k==k' && nm==nm' && Gx us vs && Cf Fy tt tt' && Cf Fy ee ee')):=by show _=_;rw[Fy,Md,Md]
 clear ha ht he hb ht' he' iht ihe;show Calls _ _ #[.agg #[.int .i64 k,.string (Aa nm),.slice a1 us.length a2,.slice t1 tt.length t2,.slice e1 ee.length e2],.agg #[.int .i64 k',.string (Aa nm'),.slice b1 vs.length b2,.slice u1 tt'.length u2,.slice v1 ee'.length v2]] _ _
 rw[E.out];go_enter func56,ntmps56
 go_wp2_with fail
 ·have HBW:=Za (((Zd w.heap.size w).alloc (Nat.le_refl _) (.cells #[.int .i64 k',.string (Aa nm'),.slice a1 us.length a2,.slice t1 tt.length t2,.slice e1 ee.length e2] 60)).alloc (by simp) (.cells #[.int .i64 k',.string (Aa nm'),.slice b1 vs.length b2,.slice u1 tt'.length u2,.slice v1 ee'.length v2] 60))
  refine(oJ us vs D (.slice a1 us.length a2) (.slice b1 vs.length b2) _ ?h1 ?h2).mono ?_
  case h1=>exact Ag.old ((bA).alloc (by simp) _) HA.o
  case h2=>exact Ag.old ((bA).alloc (by simp) _) HA'.o
  rintro r w1 ⟨rfl,hb1⟩;have hz:w.heap.size+1<w1.heap.size:=by have:=hb1.size;simp at this;omega
  have g3:w1.cell? ⟨w.heap.size,3,none⟩=some (.slice t1 tt.length t2):=Ad hb1 (by simp [Ze]);have g4:w1.cell? ⟨w.heap.size,4,none⟩=some (.slice e1 ee.length e2):=Ad hb1 (by simp [Ze]);have k3:w1.cell? ⟨w.heap.size+1,3,none⟩=some (.slice u1 tt'.length u2):=Ad hb1 (by simp [Ze]);have k4:w1.cell? ⟨w.heap.size+1,4,none⟩=some (.slice v1 ee'.length v2):=Ad hb1 (by simp [Ze]);have hbw:Below w.heap.size w w1:=((bA).alloc (by simp) _).trans (hb1.mono (by simp;omega));have HBW1:=Za hbw;clear hb1 hbw HBW
  cases qa:Gx us vs
  ·have QA:=Za qa;clear qa
   go_wp2_with fail
   go_ret
   exact⟨Au (by simp [*,QA.out]),HBW1.o⟩
  have QA:=Za qa;clear qa;go_wp2_with fail
  refine(EQT.out tt' D (.slice t1 tt.length t2) (.slice u1 tt'.length u2) _ (HT.o.old HBW1.o) (HT'.o.old HBW1.o)).mono ?_;rintro r w2 ⟨rfl,hb2⟩;have l4:=Ad hb2 g4;have m4:=Ad hb2 k4;have HBW2:=Za (HBW1.o.trans (hb2.mono (by omega)));have hs2:=hb2.size;clear hb2 g3 g4 k3 k4;have ET:Cf Fy (St.mk k' nm' us tt ee).thn tt'=Cf Fy tt tt':=rfl
  first
   |rw[ET]
   |rw[show Cf Fy (St.mk k nm us tt ee).thn tt'=Cf Fy tt tt' from rfl]
  clear ET
  cases qt:Cf Fy tt tt'
  ·have QT:=Za qt;clear qt
   go_wp2_with fail
   go_ret
   exact⟨Au (by simp [*,QA.out,QT.out]),HBW2.o⟩
  have QT:=Za qt;clear qt;go_wp2_with fail
  refine(EQE.out ee' D (.slice e1 ee.length e2) (.slice v1 ee'.length v2) _ (HE.o.old HBW2.o) (HE'.o.old HBW2.o)).mono ?_;rintro r w3 ⟨rfl,hb3⟩;have HBW3:=Za (HBW2.o.trans (hb3.mono (by omega)));clear hb3 l4 m4;go_wp2_with fail
  go_ret
  exact⟨Au (by simp [*,QA.out,QT.out,St.els]),HBW3.o⟩
 all_goals
  go_ret
  refine⟨Au ?_,(bA).alloc (by simp) _⟩;simp [*]
theorem St.thn_lt {x y:St}(h:y∈x.thn):SizeOf.sizeOf y<SizeOf.sizeOf x:=by
 cases x with
 |mk k nm us t e=>have:=List.sizeOf_lt_of_mem (show y∈t from h);simp only[St.mk.sizeOf_spec];omega
theorem St.els_lt {x y:St}(h:y∈x.els):SizeOf.sizeOf y<SizeOf.sizeOf x:=by
 cases x with
 |mk k nm us t e=>have:=List.sizeOf_lt_of_mem (show y∈e from h);simp only[St.mk.sizeOf_spec];omega
theorem Nu:∀(n:Nat) (x:St),SizeOf.sizeOf x≤n→Pa x
 |0,x,h=>by cases x;simp at h
 |n+1,x,h=>Yx x (fun y hy=>Nu n y (by have:=St.thn_lt hy;omega)) (fun y hy=>Nu n y (by have:=St.els_lt hy;omega))
theorem qJ(la lb:List St)(D:Nat→Prop)(va vb:Value)(w:World)(ha:Ax D w la va)(hb:Ax D w lb vb):
  Calls Zb 55 #[va,vb,.func (.func 56) #[] #[]] w fun e w'=>e=.returned (.bool (Gz la lb))∧Below w.heap.size w w':=by
 rw[Md];exact Re la (fun x _=>Nu _ x (Nat.le_refl _)) lb D va vb w ha hb
theorem Below.drewN' {n k:Nat}{w w1:World}(h:Below n w w1):Below n w (w1.drewN k):=⟨h.os,h.tape,h.output,h.size,h.block⟩
theorem Wl(la lb:List Bs)(D:Nat→Prop)(va vb:Value)(w:World)(ha:Ba D w la va)(hb:Ba D w lb vb):
  Calls Zb 54 #[va,vb] w fun e w'=>e=.returned (.bool (If la lb))∧Below w.heap.size w w':=by
 rw[Yk];obtain⟨a1,a2,rfl⟩:=ha.shape;obtain⟨b1,b2,rfl⟩:=hb.shape;have l63:=ha.fits.lt;have m63:=hb.fits.lt
 by_cases hl:lb.length=la.length
 ·rw[hl]at hb ⊢
  have HA:=Za ha;have HB:=Za hb;have HL:=Za hl;clear ha hb hl m63;go_enter func54,ntmps54
  go_wp2_with fail
  go_loopw [5,13] (fun _ s13 wr=> ∃k:Nat,k≤la.length∧s13=.int .i64 k∧(∀i,i<k→(la.getD i []==lb.getD i [])=true)∧Below w.heap.size w wr) (fun _ s13 _=>la.length-(intOf s13).toNat)
  case atStart=>exact⟨0,Zg _,rfl,fun i hi=>by omega,Zd _ _⟩
  case round=>
   obtain⟨k,hk,rfl,hno,hb⟩:=hrel;have HNO:=Za hno;have HBW:=Za hb;have hsz:=hb.size;clear hno hb
   by_cases hlt:k<la.length
   ·obtain⟨ab,ao,rfl,aD,al,ac⟩:=Na (Zf HBW.o HA.o) k hlt
    obtain⟨bb,bo,rfl,bD,bl,bc⟩:=Na (Zf HBW.o HB.o) k (by rw[HL.o];exact hlt);have HKL:=Za hlt;clear aD bD;generalize hxe:la.getD k []=xa at*;generalize hye:lb.getD k []=xb at*;have HXE:=Za hxe;have HYE:=Za hye;clear hxe hye
    cases q:(xa==xb)
    ·have HQ:=Za q
     go_wp2_with fail
     go_quiet (fail)
     go_wp2_with fail
     all_goals
      go_ret
      exact⟨Au (Im (fun x y=>x==y) [] la lb k HL.o.symm HKL.o (by rw[HXE.o,HYE.o];exact HQ.o)).symm,Below.drewN' HBW.o⟩
    ·have hq:xa=xb:=by simpa using q
     subst hq;clear q;go_wp2_with fail
     go_quiet (fail)
     go_wp2_with fail
     go_roundw
     case rel=>exact⟨k+1,by omega,by go_num,fun i hi=>by rcases Zh.1 hi with h|rfl;exact HNO.o i h;rw[HXE.o,HYE.o];simp,Below.drewN' HBW.o⟩
     case measure=>simp [intOf];omega
   ·go_wp2_with fail
    go_ret
    exact⟨Au (Jg (fun x y=>x==y) [] la lb HL.o.symm (fun i hi=>HNO.o i (by omega))).symm,HBW.o⟩
 ·have hne:((la.length:Int) !=(lb.length:Int))=true:=by rw[bne_iff_ne];omega
  have E:Hid (Cf (fun x y=>x==y) la lb=false):=Kn _ _ _ (by omega);clear ha hb hl;go_enter func54,ntmps54
  go_wp2_with fail
  go_ret
  exact⟨Au E.out.symm,Zd _ _⟩
theorem pG(la lb:List Ar)(D:Nat→Prop)(va vb:Value)(w:World)(ha:Bt D w la va)(hb:Bt D w lb vb):
  Calls Zb 51 #[va,vb] w fun e w'=>e=.returned (.bool (Hs la lb))∧Below w.heap.size w w':=by
 rw[Ul];obtain⟨a1,a2,rfl⟩:=ha.shape;obtain⟨b1,b2,rfl⟩:=hb.shape;have l63:=ha.fits.lt;have m63:=hb.fits.lt
 by_cases hl:lb.length=la.length
 ·rw[hl]at hb ⊢
  have HA:=Za ha;have HB:=Za hb;have HL:=Za hl;clear ha hb hl m63;go_enter func51,ntmps51
  go_wp2_with fail
  go_loopw [5,13] (fun _ s13 wr=> ∃k:Nat,k≤la.length∧s13=.int .i64 k∧(∀i,i<k→Lc (la.getD i Ar.nil) (lb.getD i Ar.nil)=true)∧Below w.heap.size w wr) (fun _ s13 _=>la.length-(intOf s13).toNat)
  case atStart=>exact⟨0,Zg _,rfl,fun i hi=>by omega,Zd _ _⟩
  case round=>
   obtain⟨k,hk,rfl,hno,hb⟩:=hrel;have HNO:=Za hno;have HBW:=Za hb;have hsz:=hb.size;clear hno hb
   by_cases hlt:k<la.length
   ·obtain⟨ab,ao,rfl,aD,al,a0,a1⟩:=Bt.cellAt (Bt.old HBW.o HA.o) k hlt
    obtain⟨bb,bo,rfl,bD,bl,b0,b1⟩:=Bt.cellAt (Bt.old HBW.o HB.o) k (by rw[HL.o];exact hlt);have HKL:=Za hlt;clear aD bD;generalize hxe:Kz la k=xa at*;generalize hye:Kz lb k=xb at*;have HXE:=Za hxe;have HYE:=Za hye;clear hxe hye;obtain⟨n1,s1⟩:=xa;obtain⟨n2,s2⟩:=xb;dsimp only at a0 a1 b0 b1
    cases q:(n1==n2)<;>cases q2:(s1==s2)
    case true.true=>
     have hq:n1=n2:=by simpa using q
     have hq2:s1=s2:=by simpa using q2
     subst hq hq2;clear q q2;go_wp2_with fail
     go_quiet (fail)
     go_wp2_with fail
     go_roundw
     case rel=>exact⟨k+1,by omega,by go_num,fun i hi=>by rcases Zh.1 hi with h|rfl;exact HNO.o i h;(show Lc (Kz la _) (Kz lb _)=true;rw[HXE.o,HYE.o];simp [Lc]),Below.drewN' HBW.o⟩
     case measure=>simp [intOf];omega
    all_goals
     have HQ:Hid (Lc (Kz la k) (Kz lb k)=false):=by show _=_;rw[HXE.o,HYE.o];simp [Lc,q,q2]
     go_wp2_with fail
     go_quiet (fail)
     go_wp2_with fail
     all_goals
      go_ret
      exact⟨Au (Im Lc Ar.nil la lb k HL.o.symm HKL.o HQ.o).symm,Below.drewN' HBW.o⟩
   ·go_wp2_with fail
    go_ret
    exact⟨Au (Jg Lc Ar.nil la lb HL.o.symm (fun i hi=>HNO.o i (by omega))).symm,HBW.o⟩
 ·have hne:((la.length:Int) !=(lb.length:Int))=true:=by rw[bne_iff_ne];omega
  have E:Hid (Cf Lc la lb=false):=Kn _ _ _ (by omega);clear ha hb hl;go_enter func51,ntmps51
  go_wp2_with fail
  go_ret
  exact⟨Au E.out.symm,Zd _ _⟩
def fP(x:Fu):Prop:= ∀(y:Fu) (D:Nat→Prop) (a t e a' t' e':Value) (w:World),Ba D w x.params a→Ba D w x.locals t→Ax D w x.body e→Ba D w y.params a'→Ba D w y.locals t'→Ax D w y.body e'→
 Calls Zb 53 #[fuV x a t e,fuV y a' t' e'] w fun e w'=>e=.returned (.bool (Jb x y))∧Below w.heap.size w w'
theorem mF(x:Fu):fP x:=by
 intro y D sa st se sb ut ue w ha ht he hb ht' he';obtain⟨a1,a2,rfl⟩:=ha.shape;obtain⟨t1,t2,rfl⟩:=ht.shape;obtain⟨e1,e2,rfl⟩:=he.shape;obtain⟨b1,b2,rfl⟩:=hb.shape;obtain⟨u1,u2,rfl⟩:=ht'.shape;obtain⟨v1,v2,rfl⟩:=he'.shape;obtain⟨nm,us,tt,ee⟩:=x;obtain⟨nm',vs,tt',ee'⟩:=y;have HA:=Za ha;have HT:=Za ht;have HE:=Za he;have HA':=Za hb;have HT':=Za ht';have HE':=Za he';have E:Hid (Jb ⟨nm,us,tt,ee⟩ ⟨nm',vs,tt',ee'⟩=(nm==nm' && If us vs && If tt tt' && Gz ee ee')):=by show _=_;unfold Jb;rfl
 clear ha ht he hb ht' he';show Calls _ _ #[.agg #[.string (Aa nm),.slice a1 us.length a2,.slice t1 tt.length t2,.slice e1 ee.length e2],.agg #[.string (Aa nm'),.slice b1 vs.length b2,.slice u1 tt'.length u2,.slice v1 ee'.length v2]] _ _
 rw[E.out];go_enter func53,ntmps53
 go_wp2_with fail
 ·refine(Wl us vs D (.slice a1 us.length a2) (.slice b1 vs.length b2) _ ?h1 ?h2).mono ?_
  case h1=>exact Zf ((bA).alloc (by simp) _) HA.o
  case h2=>exact Zf ((bA).alloc (by simp) _) HA'.o
  rintro r w1 ⟨rfl,hb1⟩;have hz:w.heap.size+1<w1.heap.size:=by have:=hb1.size;simp at this;omega
  have g3:w1.cell? ⟨w.heap.size,2,none⟩=some (.slice t1 tt.length t2):=Ad hb1 (by simp [Ze]);have g4:w1.cell? ⟨w.heap.size,3,none⟩=some (.slice e1 ee.length e2):=Ad hb1 (by simp [Ze]);have k3:w1.cell? ⟨w.heap.size+1,2,none⟩=some (.slice u1 tt'.length u2):=Ad hb1 (by simp [Ze]);have k4:w1.cell? ⟨w.heap.size+1,3,none⟩=some (.slice v1 ee'.length v2):=Ad hb1 (by simp [Ze]);have hbw:Below w.heap.size w w1:=((bA).alloc (by simp) _).trans (hb1.mono (by simp;omega));have HBW1:=Za hbw;clear hb1 hbw
  cases qa:If us vs
  ·have QA:=Za qa;clear qa
   go_wp2_with fail
   go_ret
   exact⟨Au (by simp [*,QA.out]),HBW1.o⟩
  have QA:=Za qa;clear qa;go_wp2_with fail
  refine(Wl tt tt' D (.slice t1 tt.length t2) (.slice u1 tt'.length u2) _ (Zf HBW1.o HT.o) (Zf HBW1.o HT'.o)).mono ?_;rintro r w2 ⟨rfl,hb2⟩;have l4:=Ad hb2 g4;have m4:=Ad hb2 k4;have HBW2:=Za (HBW1.o.trans (hb2.mono (by omega)));have hs2:=hb2.size;clear hb2 g3 g4 k3 k4
  cases qt:If tt tt'
  ·have QT:=Za qt;clear qt
   go_wp2_with fail
   go_ret
   exact⟨Au (by simp [*,QA.out,QT.out]),HBW2.o⟩
  have QT:=Za qt;clear qt;go_wp2_with fail
  refine(qJ ee ee' D (.slice e1 ee.length e2) (.slice v1 ee'.length v2) _ (HE.o.old HBW2.o) (HE'.o.old HBW2.o)).mono ?_;rintro r w3 ⟨rfl,hb3⟩;have HBW3:=Za (HBW2.o.trans (hb3.mono (by omega)));clear hb3 l4 m4;go_wp2_with fail
  go_ret
  exact⟨Au (by simp [*,QA.out,QT.out]),HBW3.o⟩
 all_goals
  go_ret
  refine⟨Au ?_,(bA).alloc (by simp) _⟩;simp [*]
theorem mB(la:List Fu)(ih:∀x,x∈la→fP x)(lb:List Fu)(D:Nat→Prop)(va vb:Value)(w:World)(ha:Bw D w la va)(hb:Bw D w lb vb):
  Calls Zb 52 #[va,vb,.func (.func 53) #[] #[]] w fun e w'=>e=.returned (.bool (Cf Jb la lb))∧Below w.heap.size w w':=by
 obtain⟨a1,a2,rfl⟩:=ha.shape;obtain⟨b1,b2,rfl⟩:=hb.shape;have l63:=ha.fits.lt;have m63:=hb.fits.lt
 by_cases hl:lb.length=la.length
 ·rw[hl]at hb ⊢
  have HA:=Za ha;have HB:=Za hb;have IH:=Za ih;have HL:=Za hl;clear ha hb ih hl m63;go_enter func52,ntmps52
  go_wp2_with fail
  go_loopw [7,8,9,17] (fun _ _ _ s17 wr=> ∃k:Nat,k≤la.length∧s17=.int .i64 k∧(∀i,i<k→Jb (la.getD i Fu.nil) (lb.getD i Fu.nil)=true)∧Below w.heap.size w wr) (fun _ _ _ s17 _=>la.length-(intOf s17).toNat)
  case atStart=>exact⟨0,Zg _,rfl,fun i hi=>by omega,Zd _ _⟩
  case round=>
   obtain⟨k,hk,rfl,hno,hb⟩:=hrel;have HNO:=Za hno;have HBW:=Za hb;have hsz:=hb.size;clear hno hb
   by_cases hlt:k<la.length
   ·obtain⟨xab,xao,a7,a8,a9,rfl,xaD,al,a0,a1,a2,a3,ap,av,ah⟩:=Bw.cellAt (Zc HBW.o HA.o) k hlt
    obtain⟨xbb,xbo,b7,b8,b9,rfl,xbD,bl,b0,b1,b2,b3,bp,bv,bh⟩:=Bw.cellAt (Zc HBW.o HB.o) k (by rw[HL.o];exact hlt);obtain⟨a51,a52,rfl⟩:=ap.shape;obtain⟨b51,b52,rfl⟩:=bp.shape;obtain⟨a61,a62,rfl⟩:=av.shape;obtain⟨b61,b62,rfl⟩:=bv.shape;obtain⟨a71,a72,rfl⟩:=ah.shape;obtain⟨b71,b72,rfl⟩:=bh.shape;have HAH:=Za ap;have HBH:=Za bp;have HAT:=Za av;have HBT:=Za bv;have HAE:=Za ah;have HBE:=Za bh;clear ap bp av bv ah bh xaD xbD;have IHX:=Za (IH.out _ (Sm hlt));have HKL:=Za hlt;generalize hxe:Dn la k=xa at*;generalize hye:Dn lb k=xb at*;have HXE:=Za hxe;have HYE:=Za hye;clear hxe hye;generalize hxa:Jb xa xb=q;have HXA:Hid (Jb (Dn la k) (Dn lb k)=q):=by show _=_;rw[HXE.o,HYE.o];exact hxa
    have HXB:=Za hxa;clear hxa;have hww:Below wr.heap.size wr ((wr.alloc (.cells #[.string (Aa xa.name),.slice a51 xa.params.length a52,.slice a61 xa.locals.length a62,.slice a71 xa.body.length a72] 58)).alloc (.cells #[.string (Aa xb.name),.slice b51 xb.params.length b52,.slice b61 xb.locals.length b62,.slice b71 xb.body.length b72] 58)):=(bA).alloc (by simp) _;have HAH2:=Za (Zf hww HAH.o);have HBH2:=Za (Zf hww HBH.o);have HAT2:=Za (Zf hww HAT.o);have HBT2:=Za (Zf hww HBT.o);have HAE2:=Za (HAE.o.old hww);have HBE2:=Za (HBE.o.old hww);have HWW:=Za (HBW.o.trans (hww.mono hsz));clear hww;go_wp2_with fail
    refine(IHX.out _ D _ _ _ _ _ _ _ HAH2.o HAT2.o HAE2.o HBH2.o HBT2.o HBE2.o).mono ?_;rw[HXB.o]
    cases q
    ·rintro r w2 ⟨rfl,hb2⟩
     have HB2:=Za (HWW.o.trans (hb2.mono (by simp;omega)));clear hb2 a0 a1 a2 a3 b0 b1 b2 b3;go_wp2_with fail
     go_ret
     exact⟨Au (Im Jb Fu.nil la lb k HL.o.symm HKL.o HXA.o).symm,HB2.o⟩
    ·rintro r w2 ⟨rfl,hb2⟩
     have HB2:=Za (HWW.o.trans (hb2.mono (by simp;omega)));clear hb2 a0 a1 a2 a3 b0 b1 b2 b3;go_wp2_with fail
     go_roundw
     case rel=>exact⟨k+1,by omega,by go_num,fun i hi=>by rcases Zh.1 hi with h|rfl;exact HNO.o i h;exact HXA.o,HB2.o⟩
     case measure=>simp [intOf];omega
   ·go_wp2_with fail
    go_ret
    exact⟨Au (Jg Jb Fu.nil la lb HL.o.symm (fun i hi=>HNO.o i (by omega))).symm,HBW.o⟩
 ·have hne:((la.length:Int) !=(lb.length:Int))=true:=by rw[bne_iff_ne];omega
  have E:Hid (Cf Jb la lb=false):=Kn _ _ _ (by omega);clear ha hb ih hl;go_enter func52,ntmps52
  go_wp2_with fail
  go_ret
  exact⟨Au E.out.symm,Zd _ _⟩
theorem gP(p q:Pr)(D:Nat→Prop)(sa sf ta tf:Value)(w:World)(ha:Bt D w p.arrays sa)(hf:Bw D w p.funcs sf)(ha':Bt D w q.arrays ta)(hf':Bw D w q.funcs tf):
  Calls Zb 25 #[.agg #[sa,sf],.agg #[ta,tf]] w fun r w'=>r=.returned (.bool (Wa p q))∧Below w.heap.size w w':=by
 obtain⟨a1,a2,rfl⟩:=ha.shape;obtain⟨f1,f2,rfl⟩:=hf.shape;obtain⟨b1,b2,rfl⟩:=ha'.shape;obtain⟨g1,g2,rfl⟩:=hf'.shape;have HA:=Za ha;have HF:=Za hf;have HA':=Za ha';have HF':=Za hf';have E:Hid (Wa p q=(Hs p.arrays q.arrays && Cf Jb p.funcs q.funcs)):=by show _=_;unfold Wa;rw[Ut]
 clear ha hf ha' hf';rw[E.out];go_enter func25,ntmps25
 go_wp2_with fail
 refine(pG p.arrays q.arrays D (.slice a1 p.arrays.length a2) (.slice b1 q.arrays.length b2) _ ?h1 ?h2).mono ?_
 case h1=>exact Bt.old ((bA).alloc (by simp) _) HA.o
 case h2=>exact Bt.old ((bA).alloc (by simp) _) HA'.o
 rintro r w1 ⟨rfl,hb1⟩;have hz:w.heap.size+1<w1.heap.size:=by have:=hb1.size;simp at this;omega
 have g3:w1.cell? ⟨w.heap.size,1,none⟩=some (.slice f1 p.funcs.length f2):=Ad hb1 (by simp [Ze]);have k3:w1.cell? ⟨w.heap.size+1,1,none⟩=some (.slice g1 q.funcs.length g2):=Ad hb1 (by simp [Ze]);have hbw:Below w.heap.size w w1:=((bA).alloc (by simp) _).trans (hb1.mono (by simp;omega));have HBW1:=Za hbw;clear hb1 hbw
 cases qa:Hs p.arrays q.arrays
 ·have QA:=Za qa;clear qa
  go_wp2_with fail
  go_ret
  exact⟨Au (by simp [QA.out]),HBW1.o⟩
 have QA:=Za qa;clear qa;go_wp2_with fail
 refine(mB p.funcs (fun x _=>mF x) q.funcs D (.slice f1 p.funcs.length f2) (.slice g1 q.funcs.length g2) _ (Zc HBW1.o HF.o) (Zc HBW1.o HF'.o)).mono ?_;rintro r w2 ⟨rfl,hb2⟩;have HBW2:=Za (HBW1.o.trans (hb2.mono (by omega)));clear hb2 g3 k3;go_wp2_with fail
 go_ret
 exact⟨Au (by simp [QA.out]),HBW2.o⟩
theorem Ly(a b:Bs):Aa a++Aa b=Aa (a++b):=by
 apply ByteArray.ext;simp [Aa]
theorem Hd.cell {D:Nat→Prop}{w:World}{l:List Int}{a:Option Addr}{n cap:Nat}(h:Hd D w l (.slice a n cap))(i:Nat)(hi:i<l.length):∃b off,a=some ⟨b,off,none⟩∧w.cell? ⟨b,off+i,none⟩=some (.int .i64 (l.getD i 0))∧I64 (l.getD i 0):=by
 obtain⟨a',cap',b,off,hv,h1,h2,h3,h4,h5⟩:=h
 cases hv
 rcases h3 with h3|⟨h3,_⟩
 ·omega
 ·exact⟨b,off,h3,h4 i hi,h5 i hi⟩
theorem jN(T:List Tk)(u:Tk):(List.range T.length).map (fun i=>t3 (Dc (T++[u]) i))=T.map t3:=by
 apply List.ext_getElem
 ·simp
 ·intro i h1 h2
  have hi:i<T.length:=by simpa using h1
  simp [Dc,List.getElem?_append_left hi,Zj hi]
def Jn(blanks:List Int)(i:Nat):Nat:=if i<blanks.length then(Rt (blanks.getD i 0) 4).toNat else 0
theorem sQ:∀k:Fin 4,([Value.string ⟨#[32]⟩,Value.string ⟨#[10]⟩,Value.string ⟨#[9,9]⟩,Value.string ⟨#[32,47,47,32,120,59,10]⟩]:List Value)[k.val]'(by simp)=.string (Aa (blT k.val)):=by
 intro k;obtain⟨k,hk⟩:=k;have:k=0∨k=1∨k=2∨k=3:=by omega
 rcases this with rfl|rfl|rfl|rfl<;>rfl
def Pz(p:Pr)(w:World)(e:Ending)(w':World):Prop:=Below w.heap.size w w'∧∃aa ac fa fc,e=.returned (.tuple #[.agg #[.slice aa p.arrays.length ac,.slice fa p.funcs.length fc],.int .i64 0,.int .i64 0])∧Bt (fun _=>True) w' p.arrays (.slice aa p.arrays.length ac)∧Bw (fun _=>True) w' p.funcs (.slice fa p.funcs.length fc)
theorem Pz.of {p:Pr}{w w':World}{e:Ending}(h:WhP w (p,0,0) e w'):Pz p w e w':=by
 obtain⟨hb,v,rfl,av,fv,rfl,ha,hf⟩:=h;have ha:Bt (w.heap.size≤ ·) w' p.arrays av:=ha;have hf:Bw (w.heap.size≤ ·) w' p.funcs fv:=hf;obtain⟨aa,ac,rfl⟩:=ha.yshape;obtain⟨fa,fc,rfl⟩:=hf.yshape;exact⟨hb,aa,ac,fa,fc,rfl,ha.mono (fun _ _=>trivial),hf.mono (fun _ _=>trivial)⟩
theorem gN(raw0 blanks:List Int)(rv bv:Value)(w:World)(hr:Hd (· <w.heap.size) w raw0 rv)(hbl:Hd (· <w.heap.size) w blanks bv)(hl:Jj w):
  Calls Zb 8 #[rv,bv] w fun e w'=>e=.returned (.bool true)∧Below w.heap.size w w':=by
 obtain⟨ba,bc,rfl⟩:=hbl.shape;have HL:=Za hl;have HRA:=Za hr;have HBL:=Za hbl;have hblen:=hbl.len;clear hl hr hbl;go_enter func8,ntmps8
 go_wp2_with fail
 refine(mD w HL.o).mono ?_;rintro e w1 ⟨rfl,hb1⟩;have HB1:=Za hb1;clear hb1;go_wp2_with fail
 refine(xI raw0 false rv w1 (Hd.old HB1.o HRA.o)).mono ?_;rintro e w2 ⟨va,vf,ds,rfl,hb2,ha2,hds,hd3,hf2⟩;have pr:=Oh raw0 false;have pl:Ct (Du (Kb raw0 false)).length:=by have h1:=pU raw0 false;have h2:=tH;show _≤_;omega
 have pc:=(Sn raw0 false).2.2;have pk:=kP raw0 false;generalize Kb raw0 false=p at*;have hO:=Pf.of ha2 hds hd3 hf2;obtain⟨a1,a2,rfl⟩:=hO.ars.yshape;obtain⟨f1,f2,rfl⟩:=hO.fus.yshape;have hal:Below w2.heap.size w2 (w2.alloc (.cells #[.slice a1 p.arrays.length a2,.slice f1 p.funcs.length f2] 34)):=bA;have hbb:=hb2.trans (hal.mono hb2.size);have HB2:=Za (HB1.o.trans (hbb.mono HB1.o.size));have HP2:=Za (hO.old hal);have HOP:=Za (Ae.new w2 [.slice a1 p.arrays.length a2,.slice f1 p.funcs.length f2] 34);have PR:=Za pr;have PL:=Za pl;have PC:=Za pc;have PK:=Za pk;have HL2:=Za (HL.o.old HB2.o);have hz2:w2.heap.size<(w2.alloc (.cells #[.slice a1 p.arrays.length a2,.slice f1 p.funcs.length f2] 34)).heap.size:=by simp
 have HZ2:=Za hz2;clear hb2 ha2 hds hd3 hf2 hO pr pl pc pk HB1 hal hbb hz2;go_upto_region 3 with(fail)
 generalize w2.alloc (.cells #[.slice a1 p.arrays.length a2,.slice f1 p.funcs.length f2] 34)=w2' at*;generalize w2.heap.size=pb at*;have p0:=HOP.o.at 0 _ rfl;have p1:=HOP.o.at 1 _ rfl;go_wp2_with fail
 refine(jV p _ _ w2' HL2.o.lt HL2.o.pow (Bt.mono (fun b hb=>Nat.lt_trans hb HZ2.o) HP2.o.ars) (Bw.mono (fun b hb=>Nat.lt_trans hb HZ2.o) HP2.o.fus) PR.out (qQ PC.out) PL.out).mono ?_;rintro e w3 ⟨rfl,hb3⟩;have HB3:=Za (HB2.o.trans (hb3.mono HB2.o.size));have HP3:=Za (HP2.o.old hb3);have HOP3:=Za (HOP.o.old hb3);have HL3:=Za (HL2.o.old hb3);have HSC:Hid (∀w,(Du p).length≤5000→Jj w→Calls Zb 20 #[.string (Aa (Du p))] w fun e w'=>Below w.heap.size w w'∧∃v T u,e=.returned (.tuple #[v,.int .i64 0,.int .i64 0])∧Yy w' (T++[u]) v∧T.map t3=Gc (Jq p)∧T.length≤20000):=Za fun w h hl=>scan_pr PR.out HP3.o.fus.n64 (by omega) w hl
 have HWB:Hid ((Du p).length≤5000→∀(T:List Tk) (u:Tk),T.map t3=Gc (Jq p)→T.length≤1600∧(∀j,j≤T.length→(Jk (fun i=>t3 (Dc (T++[u]) i)) (Jn blanks) j).length≤5000+7*j∧(Jh (fun i=>t3 (Dc (T++[u]) i)) j).length≤5000+j)∧(∀w,Jj w→Calls Zb 14 #[.string (Aa (Jk (fun i=>t3 (Dc (T++[u]) i)) (Jn blanks) T.length))] w (Pz p w))∧∀w,Jj w→Calls Zb 14 #[.string (Aa (Jh (fun i=>t3 (Dc (T++[u]) i)) T.length))] w (Pz p w)):=Za fun h T u hT=>by
  have hA:(List.range T.length).map (fun i=>t3 (Dc (T++[u]) i))=Gc (Jq p):=by rw[jN,hT]
  have hc:T.length≤1600:=by have h1:=PK.out;unfold tkN at h1;rw[←hT,List.length_map]at h1;exact h1
  refine⟨hc,fun j hj=>⟨?_,?_⟩,fun w hl=>(blk_t PR.out HP3.o.fus.n64 h _ _ _ hA hc w hl).mono (fun _ _=>Pz.of),fun w hl=>(blk_u PR.out HP3.o.fus.n64 h _ _ hA hc w hl).mono (fun _ _=>Pz.of)⟩
  ·have:=aQ (G:=Jn blanks) hA j hj;omega
  ·have:=bT hA j hj;omega
 have HPA:=Za (Bt.mono (D':=fun _=>True) (fun _ _=>trivial) HP3.o.ars);have HPF:=Za (Bw.mono (D':=fun _=>True) (fun _ _=>trivial) HP3.o.fus);clear hb3 HB2 HP2 HL2 PL HP3 HOP PK PC HZ2 p0 p1;generalize Jq p=PP at*;generalize Du p=tp at*
 by_cases h1:tp.length≤5000
 ·have z1:¬((tp.length:Int)>5000):=by omega
  have z2:¬((5000:Int)<(tp.length:Int)):=by omega
  have H1:=Za h1;clear h1;go_wp2_with fail
  refine(HSC.o _ H1.o HL3.o).mono ?_;rintro e w4 ⟨hb4,v,T,u,rfl,hz4,hT,hTl⟩;obtain⟨va',vc',rfl,hvc⟩:=hz4.slice;obtain⟨hm16,hlens,hpt,hpu⟩:=HWB.o H1.o T u hT;have HB4:=Za (HB3.o.trans (hb4.mono HB3.o.size));have HZ4:=Za hz4;have HOP4:=Za (HOP3.o.old hb4);have HPA4:=Za (HPA.o.old hb4);have HPF4:=Za (Zc hb4 HPF.o);have HBL4:=Za (Hd.old HB4.o HBL.o);have hTu:(T++[u]).length=T.length+1:=by rw[Zi];rfl
  have HLENS:=Za hlens;have HPT:=Za hpt;have HPU:=Za hpu;clear hb4 hz4 HSC HWB HB3 HL3 hT hlens hpt hpu HOP3 HPA HPF HBL;obtain⟨m,hm⟩:∃m,T.length=m:=⟨_,rfl⟩;rw[hm]at hTu hm16 HLENS HPT HPU;obtain⟨L,hL⟩:∃L,T++[u]=L:=⟨_,rfl⟩;rw[hL]at hTu HLENS HPT HPU HZ4 ⊢;clear hL hm hTl hvc;go_wp2_with fail
  go_loopw [12,13,14,15] (fun s12 s13 s14 _ wq=> ∃j:Nat,s12=.string (Aa (Jk (fun i=>t3 (Dc L i)) (Jn blanks) j))∧s13=.string (Aa (Jh (fun i=>t3 (Dc L i)) j))∧s14=.int .i64 j∧j≤m∧Below w4.heap.size w4 wq) (fun _ _ s14 _ _=>match s14 with|.int _ n=>m-n.toNat|_=>0)
  case atStart=>exact⟨0,rfl,rfl,rfl,Zg _,Zd _ _⟩
  case round=>
   obtain⟨j,rfl,rfl,rfl,hj,hbw⟩:=hrel;have HBW:=Za hbw
   by_cases hjm:j<m
   ·obtain⟨tb,tof,rfl,htb,t0,t1,_,_⟩:=(HZ4.o.old hbw).at j (by omega)
    obtain⟨tb',tof',hte,_,s0,_,_,_⟩:=(HZ4.o.old hbw).at (j+1) (by omega)
    cases hte
    have hl1:=HLENS.o (j+1) (by omega);have hb1:=lB (fun i=>t3 (Dc L i)) (Jn blanks) j;have hu1:=Wo (fun i=>t3 (Dc L i)) j;have hl2:(Jk (fun i=>t3 (Dc L i)) (Jn blanks) j).length+((Dc L j).text.length+(blT (Jn blanks j)).length)≤17000:=by
     have h:=hl1.1;rw[hb1,Zi,Zi]at h;show _+((t3 (Dc L j)).text.length+_)≤_
     omega
    have hl3:(Jh (fun i=>t3 (Dc L i)) j).length+(Dc L j).text.length≤7000:=by
     have h:=hl1.2;rw[hu1,Zi,Zi]at h;show _+(t3 (Dc L j)).text.length≤_
     omega
    have hjI:(j:Int)+1<(m:Int)+1:=by omega
    have hj0:(j:Int)<(m:Int)+1:=by omega
    have hB1:Hid (Aa (Jk (fun i=>t3 (Dc L i)) (Jn blanks) j)++Aa (Dc L j).text++Aa (blT (Jn blanks j))=Aa (Jk (fun i=>t3 (Dc L i)) (Jn blanks) (j+1))):=Za (by
     rw[Ly,Ly,hb1,List.append_assoc];rfl)
    have hU1:Hid (Tt (t3 (Dc L j)) (t3 (Dc L (j+1)))=true→Aa (Jh (fun i=>t3 (Dc L i)) j)++Aa (Dc L j).text++⟨#[32]⟩=Aa (Jh (fun i=>t3 (Dc L i)) (j+1))):=Za (fun hs=>by
     show Aa (Jh (fun i=>t3 (Dc L i)) j)++Aa (Dc L j).text++Aa [32]=_
     rw[Ly,Ly,hu1,if_pos hs,List.append_assoc];rfl)
    have hU2:Hid (Tt (t3 (Dc L j)) (t3 (Dc L (j+1)))=false→Aa (Jh (fun i=>t3 (Dc L i)) j)++Aa (Dc L j).text=Aa (Jh (fun i=>t3 (Dc L i)) (j+1))):=Za (fun hs=>by
     rw[Ly,hu1,if_neg (by rw[hs];decide),List.append_nil];rfl)
    have hse:Tt (t3 (Dc L j)) (t3 (Dc L (j+1)))=((Dc L j).kind !=4 && (Dc L (j+1)).kind !=4||(Dc L j).kind==4 && (Dc L (j+1)).kind==4):=rfl;rw[hse]at hU1 hU2;have n1:¬(9223372036854775807<(Jk (fun i=>t3 (Dc L i)) (Jn blanks) j).length+(Dc L j).text.length):=by omega
    have n2:¬(9223372036854775807<(Jk (fun i=>t3 (Dc L i)) (Jn blanks) j).length+(Dc L j).text.length+(blT (Jn blanks j)).length):=by omega
    have n3:¬(9223372036854775807<(Jh (fun i=>t3 (Dc L i)) j).length+(Dc L j).text.length):=by omega
    have n4:¬(9223372036854775807<(Jh (fun i=>t3 (Dc L i)) j).length+(Dc L j).text.length+1):=by omega
    clear hl1 hb1 hu1 hl2 hl3 hse;generalize hBB:Jk (fun i=>t3 (Dc L i)) (Jn blanks) j=BB at*;generalize hUU:Jh (fun i=>t3 (Dc L i)) j=UU at*;clear hBB hUU;generalize (Dc L j).kind=k0 at*;generalize (Dc L (j+1)).kind=k1 at*;generalize (Dc L j).text=tt at*
    by_cases hjb:j<blanks.length
    ·obtain⟨bb,bo,rfl,hbc,hbi⟩:=(Hd.old hbw HBL4.o).cell j hjb
     obtain⟨k,hk,hk4⟩:=iD (blanks.getD j 0) 4 (by decide);have hk4':k<4:=by omega
     have hbp:Jn blanks j=k:=by unfold Jn;rw[if_pos hjb,hk];rfl
     have HLD:=sQ ⟨k,hk4'⟩;dsimp only at HLD;have HPK:Hid (∀w,Calls Zb 12 #[.int .i64 (blanks.getD j 0),.int .i64 4] w fun e w'=>e=.returned (.int .i64 (k:Int))∧w'=w):=Za fun w=>by
      have:=rK (blanks.getD j 0) 4 hbi (by decide) (by decide) w;rw[hk]at this;exact this
     rw[hbp]at n2 hB1;have hjbI:(j:Int)<(blanks.length:Int):=by omega
     clear hk hbp hbi hbw;generalize blanks.getD j 0=bz at*;generalize blT k=bt at*;go_wp2_with fail
     refine(HPK.o _).mono ?_;rintro e w5 ⟨rfl,rfl⟩
     cases e0:(k0==4)<;>cases e1:(k1==4)
     all_goals
      have d0:(k0 !=4)= !(k0==4):=rfl;have d1:(k1 !=4)= !(k1==4):=rfl;rw[e0]at d0;rw[e1]at d1;rw[d0,d1,e0,e1]at hU1 hU2
      first|(have hU:=Za (hU1.out rfl))|(have hU:=Za (hU2.out rfl))
      clear hU1 hU2;go_wp2_with fail
      go_region
      go_wp2_with fail
      go_roundw
      case rel=>exact⟨j+1,congrArg Value.string hB1.out,congrArg Value.string hU.out,rfl,hjm,(HBW.o.alloc HBW.o.size _).drew⟩
      case measure=>simp;omega
    ·have hbp:Jn blanks j=0:=by unfold Jn;rw[if_neg hjb]
     have HLD:=sQ ⟨0,by decide⟩;dsimp only at HLD;rw[hbp]at n2 hB1;have hjbI:(blanks.length:Int)≤(j:Int):=by omega
     clear hbp hbw;generalize blT 0=bt at*
     cases e0:(k0==4)<;>cases e1:(k1==4)
     all_goals
      have d0:(k0 !=4)= !(k0==4):=rfl;have d1:(k1 !=4)= !(k1==4):=rfl;rw[e0]at d0;rw[e1]at d1;rw[d0,d1,e0,e1]at hU1 hU2
      first|(have hU:=Za (hU1.out rfl))|(have hU:=Za (hU2.out rfl))
      clear hU1 hU2;go_wp2_with fail
      go_region
      go_wp2_with fail
      go_roundw
      case rel=>exact⟨j+1,congrArg Value.string hB1.out,congrArg Value.string hU.out,rfl,hjm,(HBW.o.alloc HBW.o.size _).drew⟩
      case measure=>simp;omega
   ·have hjm':j=m:=by omega
    subst hjm';have hge:(j:Int)+1≤(j:Int)+1:=Int.le_refl _;have HPB:=Za (HPT.o wr ((HL.o.old HB4.o).old hbw));have HPU':=Za fun w h=>HPU.o w h
    have HB5:=Za (HB4.o.trans (hbw.mono HB4.o.size));have HOP5:=Za (HOP4.o.old hbw);have HPA5:=Za (HPA4.o.old hbw);have HPF5:=Za (Zc hbw HPF4.o);clear hbw HLENS HPT HPU HBW HB4 HOP4 HPA4 HPF4 HZ4 HBL4 hjm hge;generalize Jk (fun i=>t3 (Dc L i)) (Jn blanks) j=BB at*;generalize Jh (fun i=>t3 (Dc L i)) j=UU at*;go_wp2_with fail
    refine HPB.o.mono ?_;rintro e w6 ⟨hb6,qa,qc,ga,gc,rfl,hqa,hqf⟩;have hal:Below w6.heap.size w6 (w6.alloc (.cells #[.slice qa p.arrays.length qc,.slice ga p.funcs.length gc] 34)):=bA;have hbb:=hb6.trans (hal.mono hb6.size);have HB7:=Za (HB5.o.trans (hbb.mono HB5.o.size));have HOP7:=Za (HOP5.o.old hbb);have HPA7:=Za (HPA5.o.old hbb);have HPF7:=Za (Zc hbb HPF5.o);have HQA:=Za (hqa.old hal);have HQF:=Za (Zc hal hqf);have HOQ:=Za (Ae.new w6 [.slice qa p.arrays.length qc,.slice ga p.funcs.length gc] 34);have HPV:=Za (HPU'.o _ (HL.o.old HB7.o));clear hb6 hal hbb hqa hqf HPB HPU' HOP5 HPA5 HPF5 HB5;go_upto_region 22 with(fail)
    generalize w6.alloc (.cells #[.slice qa p.arrays.length qc,.slice ga p.funcs.length gc] 34)=w7 at*;generalize w6.heap.size=qb at*;go_wp2_with fail
    refine HPV.o.mono ?_;rintro e w8 ⟨hb8,sa,sc,ha,hc,rfl,hsa,hsf⟩;have hal:Below w8.heap.size w8 (w8.alloc (.cells #[.slice sa p.arrays.length sc,.slice ha p.funcs.length hc] 34)):=bA;have hbb:=hb8.trans (hal.mono hb8.size);have HB9:=Za (HB7.o.trans (hbb.mono HB7.o.size));have HOP9:=Za (HOP7.o.old hbb);have HPA9:=Za (HPA7.o.old hbb);have HPF9:=Za (Zc hbb HPF7.o);have HQA9:=Za (HQA.o.old hbb);have HQF9:=Za (Zc hbb HQF.o);have HOQ9:=Za (HOQ.o.old hbb);have HSA:=Za (hsa.old hal);have HSF:=Za (Zc hal hsf);have HOS:=Za (Ae.new w8 [.slice sa p.arrays.length sc,.slice ha p.funcs.length hc] 34);clear hb8 hal hbb hsa hsf HPV HOP7 HPA7 HPF7 HQA HQF HOQ HB7;go_upto_region 23 with(fail)
    generalize w8.alloc (.cells #[.slice sa p.arrays.length sc,.slice ha p.funcs.length hc] 34)=w9 at*;generalize w8.heap.size=sb at*;have y0:=HOP9.o.at 0 _ rfl;have y1:=HOP9.o.at 1 _ rfl;have q0:=HOQ9.o.at 0 _ rfl;have q1:=HOQ9.o.at 1 _ rfl;have s0:=HOS.o.at 0 _ rfl;have s1:=HOS.o.at 1 _ rfl;have HS1:=Za (gP p p (fun _=>True) _ _ _ _ w9 HPA9.o HPF9.o HQA9.o HQF9.o);clear HQA9 HQF9;go_wp2_with fail
    refine HS1.o.mono ?_;rw[(Yn p p).2 rfl];rintro e wa ⟨rfl,hba⟩;have HBA:=Za (HB9.o.trans (hba.mono HB9.o.size));have HS2:=Za (gP p p (fun _=>True) _ _ _ _ wa (HPA9.o.old hba) (Zc hba HPF9.o) (HSA.o.old hba) (Zc hba HSF.o));have y0:=(HOP9.o.old hba).at 0 _ rfl;have y1:=(HOP9.o.old hba).at 1 _ rfl;have s0:=(HOS.o.old hba).at 0 _ rfl;have s1:=(HOS.o.old hba).at 1 _ rfl;clear hba HS1 HPA9 HPF9 HSA HSF HOP9 HOQ9 HOS HB9;go_wp2_with fail
    refine HS2.o.mono ?_;rw[(Yn p p).2 rfl];rintro e wb ⟨rfl,hbb⟩;have HBB:=Za (HBA.o.trans (hbb.mono HBA.o.size));clear hbb HS2;go_wp2_with fail
    go_ret
    exact⟨rfl,HBB.o⟩
 ·have z1:((tp.length:Int)>5000):=by omega
  have z2:((5000:Int)<(tp.length:Int)):=by omega
  clear h1 HSC HWB;go_wp2_with fail
  go_ret
  exact⟨rfl,HB3.o⟩
end Go.Proofs.YtcfpfnoldgnloaaGreatDoor
namespace Go.Proofs.YtcfpfnoldgnloaaGreatDoor.wParseBlanks
open Go.ChangeShapes Go.WideShapes Go.ChangeAt Go.RowKit
set_option maxRecDepth 100000
theorem own:ownKnob Tryz.prog.godebug=none:=by kernel_rfl
theorem Wp(H:Type)(enc:TypeId ×Value→H)(W:World)(base:Nat)(args:Array Value)(ds gs:List (DataW H))(before:List MemPlace)
  (hval:∀(j:Nat) t v,Tryz.f8.params[j]? =some t→args[j]? =some v→Value.okWide Tryz.prog W .any base t v)
  (hW:DataW.Whole enc Tryz.prog Tryz.f8.params.toList Rows.parseBlanksSpec.vars false W args.toList ds gs before) (hsz:(DataW.weightsEach Tryz.prog (Tryz.f8.params.toList++(OpenSpec.ofChange Rows.parseBlanksSpec).bare.plain.varTypes Tryz.prog) (ds++gs)).all (· ≤reachBytes)=true) (hL:laidMetH Tryz.prog Rows.parseBlanksRow.laid W) (hsh:W.ShapedOpen Tryz.prog):
  Calls Tryz.prog 8 args W fun e W'=> ∃v,e=.returned v∧Rows.parseBlanksSpec.post enc Tryz.prog Tryz.f8 false true false false W args v W':=by
 have hT:=zlib_of hL hsh;have hW':=hW;obtain⟨p,q,hA0,hV,rfl,hfz,hnd⟩:=hW;have hA:DataW.TrodAll enc Tryz.prog W 0 (fun _=>true) true Tryz.f8.params.toList args.toList ds p:=hA0;rw[Tryz.params8]at hA hval hsz;obtain⟨x0,vs0,d0,ds0,p0,q0,hargs,rfl,rfl,h0,r0⟩:=trodAll_cons hA;obtain⟨x1,vs1,d1,ds1,p1,q1,e1,rfl,rfl,h1,r1⟩:=trodAll_cons r0;obtain⟨rfl,rfl,rfl⟩:=trodAll_nil r1;subst e1;obtain rfl:args= #[x0,x1]:=by cases args;simp_all
 obtain⟨rfl,rfl⟩:=trodVars_none hV;obtain⟨raw0,hraw0,again0⟩:=gM (hval 0 38 x0 rfl rfl) h0;obtain⟨raw1,hraw1,again1⟩:=gM (hval 1 38 x1 rfl rfl) h1;clear hA0;refine(gN raw0 raw1 x0 x1 W hraw0 hraw1 hT).mono fun e W' ⟨he,hb⟩=>?_
 subst he;exact⟨_,rfl,lH (pa:=(p0++(p1++[]))) (pv:=[]) hW' (fun _ _ _=>trodAll_cons_mk (shut_bool Tryz.underlying4 _) trodAll_mk0) (fun sp hsp=>trodAll_cons_mk (again0 W' sp true hb (fun q hq=>hsp q (by simp [hq]))) (trodAll_cons_mk (again1 W' sp true hb (fun q hq=>hsp q (by simp [hq]))) (trodAll_mk0))) (fun _ _=>rfl) rfl
  hb (ok_one (by kernel_rfl) rfl (okWide_bool_mk Tryz.underlying4 _))⟩
def tab1:DataW Unit→List Value
 |.lit (.int k n)=>[.int k n]
 |.agg l=>l.map fun|.lit (.int k n)=>Value.int k n|_=>undef
 |_=>[undef]
def rY:DataW Unit→Array Value
 |.agg l=>(l.flatMap tab1).toArray
 |_=> #[]
def Vz:DataW Unit→Value
 |.iface _ (.ptr (.agg [.lit (.string b)]))=>.string ⟨b.toArray⟩
 |_=>undef
noncomputable def lowB:Nat:=(World.holding Tryz.prog default ⟨#[],#[],[]⟩).heap.size
noncomputable def Tm (os:Os):World:=
 let h0:=(World.holding Tryz.prog os ⟨#[.cells #[Vz Rows.laid_strconv_ErrRange] 234,.cells #[Vz Rows.laid_strconv_ErrSyntax] 234],#[],[]⟩).heap
 let lay (g:Nat) (d:DataW Unit) (h:Array Obj):Array Obj:=h.modify g fun
  |.cells _ t frozen=>.cells (rY d) t frozen
  |o=>o
 let err (g:Nat) (b:Nat) (h:Array Obj):Array Obj:=h.modify g fun
  |.cells _ t frozen=>.cells #[.iface 232 (.pointer (some ⟨b,0,none⟩))] t frozen
  |o=>o
 {World.holding Tryz.prog os ⟨#[.cells #[Vz Rows.laid_strconv_ErrRange] 234,.cells #[Vz Rows.laid_strconv_ErrSyntax] 234],#[],[]⟩with heap:=lay 6 Rows.laid_math_bits_deBruijn32tab (lay 7 Rows.laid_math_bits_deBruijn64tab (lay 3 Rows.laid_internal_strconv_uint64pow10 (lay 2 Rows.laid_unicode_utf8_acceptRanges (lay 1 Rows.laid_unicode_utf8_first (err 5 lowB (err 4 (lowB+1) h0))))))}
theorem rT(os:Os):laidMet Tryz.prog Rows.parseBlanksRow.laid ((Tm os).forCall (fun _ _=>0) ⟨#[],#[.slice none 0 0,.slice none 0 0],[]⟩).memory:=
 laidMet_of_run' 8 (by kernel_rfl) (by kernel_rfl)
theorem reads(os:Os){H:Type}(enc:TypeId ×Value→H):∃places,DataW.whole enc Tryz.prog ((Tm os).forCall (fun _ _=>0) ⟨#[],#[.slice none 0 0,.slice none 0 0],[]⟩).memory Tryz.f8.params.toList Rows.parseBlanksSpec.vars false ((#[.slice none 0 0,.slice none 0 0]:Array Value).toList) 8=some ([.nil,.nil],[],places):=
 ⟨[],by kernel_rfl⟩
theorem lifted(os:Os)(started:os.Started)(H:Type)(enc:TypeId ×Value→H)(F:Stop.Interp):
  ReturnsInHanded {} Tryz.checked os 8 .any ((OpenSpec.ofChange Rows.parseBlanksSpec).preRow enc Tryz.prog Tryz.f8 Rows.parseBlanksRow.domain false Rows.parseBlanksRow.laid) (((OpenSpec.ofChange Rows.parseBlanksSpec).at F).post enc Tryz.prog Tryz.f8 false true false false):=by
 obtain⟨places,hx⟩:=reads os enc;refine returnsInHanded_of_row (C:=Tryz.checked) (s:=OpenSpec.ofChange Rows.parseBlanksSpec) own started (by kernel_rfl) Tryz.func8
  (witness_row_at (enc:=enc) (C:=Tryz.checked) false (Tm os) #[.slice none 0 0,.slice none 0 0] rfl (by kernel_rfl) (by kernel_rfl) (by kernel_rfl)
   (OpenSpec.preRow_of_cond 8 hx (by kernel_rfl) (fun k hk=>by cases hk) (by kernel_rfl) (rT os))) ?_
 intro W base args ds gs before hval hW _ _ hsz hL hsh _;exact Wp H enc W base args ds gs before hval hW hsz hL hsh
theorem said:Rows.ParseBlanksSaid:=
 OpenClaim.holds_of_cond 8 Tryz.f8 rfl rfl rfl rfl rfl rfl rfl ⟨rfl,rfl,rfl,rfl,rfl⟩ rfl rfl rfl rfl rfl (by kernel_rfl) Tryz.func8 (by kernel_rfl)
  (of_decide_eq_true (by kernel_rfl)) (by unfold Func.isWrapper;first|(rw[if_pos (by decide+kernel)];kernel_rfl)|(rw[if_neg (by decide+kernel)];exact⟨rfl,rfl⟩))
  (fun os started H enc _ F=>by rw[OpenClaim.pre_eq_preRow];exact lifted os started H enc F)
theorem plain(f:FuncId)(fn:Func)(hf:Tryz.pinned.checked.prog.funcNamed "counterproof/counterprooflaw04.ParseBlanks" =some f)(hfn:Tryz.pinned.checked.prog.funcs[f]? =some fn):
  true=Tryz.pinned.checked.prog.looks []∧∀(j:Nat) t,fn.params[j]? =some t→Tryz.pinned.checked.prog.wantsStandIn t=false:=by
 obtain rfl:f=8:=Option.some.inj ((show Tryz.prog.funcNamed "counterproof/counterprooflaw04.ParseBlanks" =some 8 by kernel_rfl).symm.trans hf)|>.symm;obtain rfl:fn=Tryz.f8:=(Option.some.inj (Tryz.func8.symm.trans hfn)).symm;refine⟨by kernel_rfl,fun j t ht=>?_⟩;rw[Tryz.params8]at ht;have hm:=Array.mem_of_getElem? ht;simp only[List.mem_toArray,List.mem_cons,List.not_mem_nil,or_false]at hm;rcases hm with rfl|rfl
 ·exact(show Tryz.prog.wantsStandIn 38=false by kernel_rfl)
 ·exact(show Tryz.prog.wantsStandIn 38=false by kernel_rfl)
end Go.Proofs.YtcfpfnoldgnloaaGreatDoor.wParseBlanks
namespace Go.Proofs.YtcfpfnoldgnloaaGreatDoor
theorem parseBlanks_card:Rows.ParseBlanksCardSaid:=
 Claim7.holds_tied_plain_at .later [] _ _ _ _ wParseBlanks.said (fun _ h=>by cases h) (by kernel_rfl) (fun _ h=>by cases h) parseBlanks_row_tie rfl ⟨rfl,rfl⟩ (by kernel_rfl) rfl wParseBlanks.plain (by kernel_rfl)
#print axioms parseBlanks_card
end Go.Proofs.YtcfpfnoldgnloaaGreatDoor
