/-
  ParseForth: for every input the law returns true, and its arguments read afterwards as before: the row, the card. Condition: the tables that the row lists are laid as the program's text lays them.
-/
import Derived.Test.YtcfpfnoldgnloaaGreatDoorPf20
import Derived.Test.YtcfpfnoldgnloaaGreatDoorCards
import Derived.Test.YtcfpfnoldgnloaaGreatDoorTie
set_option linter.unusedVariables false
set_option linter.unusedSimpArgs false
namespace Go.Proofs.YtcfpfnoldgnloaaGreatDoor
open Go.RowKit Go.Proofs.Tryz
set_option maxHeartbeats 20000000
set_option maxRecDepth 100000
open Go.Lib renaming hid→Za
open Go.Proofs.Tryz renaming prog→Zb
open Below renaming refl→Zc
open List renaming length_cons→Zd,length_append→Zh,mem_cons_self→Zk,mem_cons_of_mem→Zl
open Bx renaming old→Ze
open World renaming cell?_alloc_lt→Zf
open Az renaming old→Zg
open Nat renaming lt_succ_iff_lt_or_eq→Zi,mul_le_mul_right→Zm
open Bool renaming and_eq_true→Zj
def fuB:Nat:=1000+stB 4
def prB:Nat:=200+3*fuB
theorem rG:2*prB≤140737488355328:=by decide+kernel
theorem lD {a:Ar}(h:Dr a=true):(Ml a).length≤100:=by
 unfold Dr at h;simp only[Zj,decide_eq_true_eq]at h;have h1:=Cr h.1;have h2:=Lib.itoa_length_le a.size (by omega) (by omega);unfold Ml;rw[Qy];simp only[List.flatten_cons,List.flatten_nil,Zh,Zd,List.length_nil];omega
theorem Tz:∀l:List Ar,(∀a,a∈l→Dr a=true)→(Dw l).length≤l.length*100
 |[],_=>by simp [Dw]
 |a::l,h=>by
  have h1:=lD (h a Zk);have h2:=Tz l (fun x hx=>h x (Zl _ hx));show(Ml a++Dw l).length≤_
  rw[Zh,Zd,Nat.add_mul];omega
theorem Up:∀l:List Bs,(∀x,x∈l→Am x=true)→(En l).length≤l.length*40
 |[],_=>by simp [En]
 |x::l,h=>by
  have h1:=Cr (h x Zk);have h2:=Up l (fun y hy=>h y (Zl _ hy));show(ln 1 [[105,110,116,32],x,[59]]++En l).length≤_
  rw[Zh,Qy,Zd,Nat.add_mul];simp only[List.flatten_cons,List.flatten_nil,Zh,Zd,List.length_nil];omega
theorem iZ {f:Fu}(h:FOk f)(hp:f.params.length≤6)(hl:f.locals.length≤5)(hb:(Ca 1 f.body).length≤stB 4):(Hr f).length≤fuB:=by
 have h1:=Cr h.name;have h2:=dR 24 (f.params.map Jx) (fun x hx=>by
  obtain⟨y,hy,rfl⟩:=List.mem_map.1 hx;have:=Cr (h.params y hy);unfold Jx;rw[Zh];simp;omega)
 have h3:=Up f.locals h.locals;have h4:(f.params.map Jx).length*(24+2)≤6*26:=Zm _ (by rw[List.length_map];exact hp);have h5:f.locals.length*40≤5*40:=Zm _ hl;unfold Hr fuB;simp only[Zh,Qy,List.flatten_cons,List.flatten_nil,Zd,List.length_nil];omega
theorem Ui:∀l:List Fu,(∀f,f∈l→(Hr f).length≤fuB)→(Eo l).length≤l.length*fuB
 |[],_=>by simp [Eo]
 |a::l,h=>by
  have h1:=h a Zk;have h2:=Ui l (fun x hx=>h x (Zl _ hx));show(Hr a++Eo l).length≤_
  rw[Zh,Zd,Nat.add_mul];omega
theorem Tv(raw:List Int)(sc:Sc)(P:Fu→Prop)(hP:∀f,f∈sc.funcs→∀a,P (Qe raw sc f a).1):∀(l:List Fu),(∀f,f∈l→f∈sc.funcs)→∀a,∀x,x∈(Dj raw sc l a).1→P x
 |[],_,a,x,hx=>by cases hx
 |f::l,hl,a,x,hx=>by
  rw[Dj]at hx;rcases List.mem_cons.1 hx with rfl|hx
  ·exact hP f (hl f Zk) a
  ·exact Tv raw sc P hP l (fun g hg=>hl g (Zl _ hg)) _ x hx
theorem Oi(raw:List Int)(sc:Sc):∀(l:List Fu) (a:Nat),(Dj raw sc l a).1.length=l.length
 |[],a=>rfl
 |g::l,a=>by rw[Dj,Zd,Zd,Oi raw sc l]
theorem Rs(free:Bool)(raw:List Int):∀n a,(Ji free raw n a).1.length=n
 |0,a=>rfl
 |n+1,a=>by rw[Ji,Zd,Rs free raw n]
theorem Rh(raw:List Int):∀n a,(Is raw n a).1.length=n
 |0,a=>rfl
 |n+1,a=>by rw[Is,Zd,Rh raw n]
theorem gSc_ok(raw:List Int)(free:Bool){f:Fu}(hf:f∈(Jz raw free).funcs)(k:Nat):Sc.Ok ⟨f.params++Do.take k,(Jz raw free).arrays,(Jz raw free).funcs,free,false⟩:=by
 refine⟨fun x hx=>?_,fun x hx=>?_,fun x hx=>⟨(Hz raw free x hx).1,(Hz raw free x hx).2.1⟩⟩
 ·rcases List.mem_append.1 hx with hx|hx
  ·exact(Hz raw free f hf).2.2 x hx
  ·exact aS x (List.mem_of_mem_take hx)
 ·have:=Nd raw free x hx
  unfold Dr at this;exact((Zj _ _).mp this).1
theorem fP(raw:List Int)(free:Bool):∀f,f∈(Lc raw free).funcs→(Hr f).length≤fuB:=by
 intro f hf;have hr:=Oh raw free;unfold Df at hr;simp only[Zj,List.all_eq_true]at hr;have hok:=nQ (hr.2 f hf);have h:=Tv (raw.take 400) (Jz (raw.take 400) free) (fun f=>f.params.length≤6∧f.locals.length≤5∧(Ca 1 f.body).length≤stB 4) (fun g hg a=>by
  have hh:=Hz (raw.take 400) free g hg;refine⟨hh.2.1,?_,?_⟩
  ·show(Do.take _).length≤5
   rw[List.length_take];exact Nat.min_le_right _ _
  ·exact Qj (raw.take 400) 4 1 _ (gSc_ok (raw.take 400) free hg _) (by omega) _) (Jz (raw.take 400) free).funcs (fun f hf=>hf) _ f hf
 exact iZ hok h.1 h.2.1 h.2.2
theorem dA(raw:List Int)(free:Bool):(Lc raw free).arrays.length≤2∧(Lc raw free).funcs.length≤3∧0<(Lc raw free).funcs.length:=by
 have h1:=Aj (raw.take 400) 0 3 (by decide);have h2:=Aj (raw.take 400) (Js (raw.take 400) free).2 3 (by decide);have ea:(Lc raw free).arrays.length=(Ad (raw.take 400) 0 3).1.toNat:=Rs _ _ _ _;have ef:(Lc raw free).funcs.length=(Ad (raw.take 400) (Js (raw.take 400) free).2 3).1.toNat+1:=by
  show(Dj _ _ _ _).1.length=_
  rw[Oi];show(Lf::(Ql _ _).1).length=_
  rw[Zd];show(Is _ _ _).1.length+1=_
  rw[Rh]
 rw[ea,ef];omega
theorem qB(raw:List Int)(free:Bool):(Dn (Lc raw free)).length≤prB:=by
 have hr:=Oh raw free;unfold Df at hr;simp only[Zj,List.all_eq_true]at hr;obtain⟨c1,c2,_⟩:=dA raw free;have h1:=Tz _ hr.1;have h2:=Ui _ (fP raw free);have h3:(Lc raw free).arrays.length*100≤2*100:=Zm _ c1;have h4:(Lc raw free).funcs.length*fuB≤3*fuB:=Zm _ c2;unfold Dn prB;rw[Zh];omega
def Pb(a:Ex):Prop:= ∀(b:Ex) (D:Nat→Prop) (sa sb:Value) (w:World),Ag D w a.args sa→Ag D w b.args sb→
 Calls Zb 117 #[exV a sa,exV b sb] w fun e w'=>e=.returned (.bool (Iy a b))∧Below w.heap.size w w'
theorem Xq(la:List Ex)(ih:∀x,x∈la→Pb x)(lb:List Ex)(D:Nat→Prop)(va vb:Value)(w:World)(ha:Ag D w la va)(hb:Ag D w lb vb):
  Calls Zb 116 #[va,vb,.func (.func 117) #[] #[]] w fun e w'=>e=.returned (.bool (Cf Iy la lb))∧Below w.heap.size w w':=by
 obtain⟨a1,a2,rfl⟩:=ha.shape;obtain⟨b1,b2,rfl⟩:=hb.shape;have l63:=ha.fits.lt;have m63:=hb.fits.lt
 by_cases hl:lb.length=la.length
 ·rw[hl]at hb ⊢
  have HA:=Za ha;have HB:=Za hb;have IH:=Za ih;have HL:=Za hl;clear ha hb ih hl m63;go_enter func116,ntmps116
  go_wp2_with fail
  go_loopw [7,8,9,17] (fun _ _ _ s17 wr=> ∃k:Nat,k≤la.length∧s17=.int .i64 k∧(∀i,i<k→Iy (la.getD i Ex.nil) (lb.getD i Ex.nil)=true)∧Below w.heap.size w wr) (fun _ _ _ s17 _=>la.length-(intOf s17).toNat)
  case atStart=>exact⟨0,Nat.zero_le _,rfl,fun i hi=>by omega,Zc _ _⟩
  case round=>
   obtain⟨k,hk,rfl,hno,hb⟩:=hrel;have HNO:=Za hno;have HBW:=Za hb;have hsz:=hb.size;clear hno hb
   by_cases hlt:k<la.length
   ·obtain⟨xab,xao,xas,rfl,xaD,a0,a1,a2,a3,a4,ah,an⟩:=Ag.cellAt (Ag.old HBW.o HA.o) k hlt
    obtain⟨xbb,xbo,xbs,rfl,xbD,b0,b1,b2,b3,b4,bh,bn⟩:=Ag.cellAt (Ag.old HBW.o HB.o) k (by rw[HL.o];exact hlt);obtain⟨a5,a6,rfl⟩:=ah.shape;obtain⟨b5,b6,rfl⟩:=bh.shape;have al:=World.block_lt_of_cell? _ _ a0;have bl:=World.block_lt_of_cell? _ _ b0;have HAH:=Za ah;have HBH:=Za bh;clear ah bh an bn xaD xbD;have IHX:=Za (IH.out _ (Dd hlt));have HKL:=Za hlt;generalize hxe:Cb la k=xa at*;generalize hye:Cb lb k=xb at*;have HXE:=Za hxe;have HYE:=Za hye;clear hxe hye;generalize hxa:Iy xa xb=q;have HXA:Hid (Iy (Cb la k) (Cb lb k)=q):=by show _=_;rw[HXE.o,HYE.o];exact hxa
    have HXB:=Za hxa;clear hxa;have hww:Below wr.heap.size wr ((wr.alloc (.cells #[.int .i64 xa.kind,.int .i64 xa.op,.int .i64 xa.n,.string (Aa xa.name),.slice a5 xa.args.length a6] 27)).alloc (.cells #[.int .i64 xb.kind,.int .i64 xb.op,.int .i64 xb.n,.string (Aa xb.name),.slice b5 xb.args.length b6] 27)):=(bA).alloc (by simp) _;have HAH2:=Za (HAH.o.old hww);have HBH2:=Za (HBH.o.old hww);have HWW:=Za (HBW.o.trans (hww.mono hsz));clear hww;go_wp2_with fail
    refine(IHX.out _ D _ _ _ HAH2.o HBH2.o).mono ?_;rw[HXB.o]
    cases q
    ·rintro r w2 ⟨rfl,hb2⟩
     have HB2:=Za (HWW.o.trans (hb2.mono (by simp;omega)));clear hb2 a0 a1 a2 a3 a4 b0 b1 b2 b3 b4;go_wp2_with fail
     go_ret
     exact⟨Au (Ih Iy Ex.nil la lb k HL.o.symm HKL.o HXA.o).symm,HB2.o⟩
    ·rintro r w2 ⟨rfl,hb2⟩
     have HB2:=Za (HWW.o.trans (hb2.mono (by simp;omega)));clear hb2 a0 a1 a2 a3 a4 b0 b1 b2 b3 b4;go_wp2_with fail
     go_roundw
     case rel=>exact⟨k+1,by omega,by go_num,fun i hi=>by rcases Zi.1 hi with h|rfl;exact HNO.o i h;exact HXA.o,HB2.o⟩
     case measure=>simp [intOf];omega
   ·go_wp2_with fail
    go_ret
    exact⟨Au (Jg Iy Ex.nil la lb HL.o.symm (fun i hi=>HNO.o i (by omega))).symm,HBW.o⟩
 ·have hne:((la.length:Int) !=(lb.length:Int))=true:=by rw[bne_iff_ne];omega
  have E:Hid (Cf Iy la lb=false):=Kh _ _ _ (by omega);clear ha hb ih hl;go_enter func116,ntmps116
  go_wp2_with fail
  go_ret
  exact⟨Au E.out.symm,Zc _ _⟩
theorem Yy(a:Ex)(ih:∀x,x∈a.args→Pb x):Pb a:=by
 intro b D sa sb w ha hb;obtain⟨a1,a2,rfl⟩:=ha.shape;obtain⟨b1,b2,rfl⟩:=hb.shape;have EQ:=Za (Xq a.args ih);obtain⟨k,o,n,nm,us⟩:=a;obtain⟨k',o',n',nm',bs⟩:=b;have HA:=Za ha;have HB:=Za hb;have E:Hid (Iy (.mk k o n nm us) (.mk k' o' n' nm' bs)=(k==k' && o==o' && n==n' && nm==nm' && Cf Iy us bs)):=by show _=_;rw[Iy,Ph]
 clear ha hb ih;show Calls _ _ #[.agg #[.int .i64 k,.int .i64 o,.int .i64 n,.string (Aa nm),.slice a1 us.length a2],.agg #[.int .i64 k',.int .i64 o',.int .i64 n',.string (Aa nm'),.slice b1 bs.length b2]] _ _
 rw[E.out];go_enter func117,ntmps117
 go_wp2_with fail
 ·refine(EQ.out bs D (.slice a1 us.length a2) (.slice b1 bs.length b2) _ ?h1 ?h2).mono ?_
  case h1=>exact Ag.old ((bA).alloc (by simp) _) HA.o
  case h2=>exact Ag.old ((bA).alloc (by simp) _) HB.o
  rintro r w1 ⟨rfl,hb⟩;go_wp2_with fail
  go_ret
  exact⟨Au (by simp [*,Ex.args,St.args,St.thn,St.els]),((bA).alloc (by simp) _).trans (hb.mono (by simp;omega))⟩
 all_goals
  go_ret
  refine⟨Au ?_,(bA).alloc (by simp) _⟩;simp [*]
theorem Si:∀(n:Nat) (e:Ex),SizeOf.sizeOf e≤n→Pb e
 |0,e,h=>by cases e;simp at h
 |n+1,e,h=>Yy e fun x hx=>Si n x (by have:=Ex.size_lt hx;omega)
theorem cH(e:Ex):Pb e:=Si _ e (Nat.le_refl _)
theorem pN(la lb:List Ex)(D:Nat→Prop)(va vb:Value)(w:World)(ha:Ag D w la va)(hb:Ag D w lb vb):
  Calls Zb 116 #[va,vb,.func (.func 117) #[] #[]] w fun e w'=>e=.returned (.bool (Gy la lb))∧Below w.heap.size w w':=by
 rw[Ph];exact Xq la (fun x _=>cH x) lb D va vb w ha hb
def Op(x:St):Prop:= ∀(y:St) (D:Nat→Prop) (a t e a' t' e':Value) (w:World),Ag D w x.args a→Av D w x.thn t→Av D w x.els e→Ag D w y.args a'→Av D w y.thn t'→Av D w y.els e'→
 Calls Zb 56 #[stV x a t e,stV y a' t' e'] w fun e w'=>e=.returned (.bool (Gb x y))∧Below w.heap.size w w'
theorem Qm(la:List St)(ih:∀x,x∈la→Op x)(lb:List St)(D:Nat→Prop)(va vb:Value)(w:World)(ha:Av D w la va)(hb:Av D w lb vb):
  Calls Zb 55 #[va,vb,.func (.func 56) #[] #[]] w fun e w'=>e=.returned (.bool (Cf Gb la lb))∧Below w.heap.size w w':=by
 obtain⟨a1,a2,rfl⟩:=ha.shape;obtain⟨b1,b2,rfl⟩:=hb.shape;have l63:=ha.fits.lt;have m63:=hb.fits.lt
 by_cases hl:lb.length=la.length
 ·rw[hl]at hb ⊢
  have HA:=Za ha;have HB:=Za hb;have IH:=Za ih;have HL:=Za hl;clear ha hb ih hl m63;go_enter func55,ntmps55
  go_wp2_with fail
  go_loopw [7,8,9,17] (fun _ _ _ s17 wr=> ∃k:Nat,k≤la.length∧s17=.int .i64 k∧(∀i,i<k→Gb (la.getD i St.nil) (lb.getD i St.nil)=true)∧Below w.heap.size w wr) (fun _ _ _ s17 _=>la.length-(intOf s17).toNat)
  case atStart=>exact⟨0,Nat.zero_le _,rfl,fun i hi=>by omega,Zc _ _⟩
  case round=>
   obtain⟨k,hk,rfl,hno,hb⟩:=hrel;have HNO:=Za hno;have HBW:=Za hb;have hsz:=hb.size;clear hno hb
   by_cases hlt:k<la.length
   ·obtain⟨xab,xao,a7,a8,a9,rfl,xaD,al,a0,a1,a2,a3,a4,ah,at',ae⟩:=Av.cellAt (Av.old HBW.o HA.o) k hlt
    obtain⟨xbb,xbo,b7,b8,b9,rfl,xbD,bl,b0,b1,b2,b3,b4,bh,bt,be⟩:=Av.cellAt (Av.old HBW.o HB.o) k (by rw[HL.o];exact hlt);obtain⟨a51,a52,rfl⟩:=ah.shape;obtain⟨b51,b52,rfl⟩:=bh.shape;obtain⟨a61,a62,rfl⟩:=Av.shape at';obtain⟨b61,b62,rfl⟩:=Av.shape bt;obtain⟨a71,a72,rfl⟩:=Av.shape ae;obtain⟨b71,b72,rfl⟩:=Av.shape be;have HAH:=Za ah;have HBH:=Za bh;have HAT:=Za at';have HBT:=Za bt;have HAE:=Za ae;have HBE:=Za be;clear ah bh at' bt ae be xaD xbD;have IHX:=Za (IH.out _ (Xs hlt));have HKL:=Za hlt;generalize hxe:Ib la k=xa at*;generalize hye:Ib lb k=xb at*;have HXE:=Za hxe;have HYE:=Za hye;clear hxe hye;generalize hxa:Gb xa xb=q;have HXA:Hid (Gb (Ib la k) (Ib lb k)=q):=by show _=_;rw[HXE.o,HYE.o];exact hxa
    have HXB:=Za hxa;clear hxa;have hww:Below wr.heap.size wr ((wr.alloc (.cells #[.int .i64 xa.kind,.string (Aa xa.name),.slice a51 xa.args.length a52,.slice a61 xa.thn.length a62,.slice a71 xa.els.length a72] 60)).alloc (.cells #[.int .i64 xb.kind,.string (Aa xb.name),.slice b51 xb.args.length b52,.slice b61 xb.thn.length b62,.slice b71 xb.els.length b72] 60)):=(bA).alloc (by simp) _;have HAH2:=Za (HAH.o.old hww);have HBH2:=Za (HBH.o.old hww);have HAT2:=Za (HAT.o.old hww);have HBT2:=Za (HBT.o.old hww);have HAE2:=Za (HAE.o.old hww);have HBE2:=Za (HBE.o.old hww);have HWW:=Za (HBW.o.trans (hww.mono hsz));clear hww;go_wp2_with fail
    refine(IHX.out _ D _ _ _ _ _ _ _ HAH2.o HAT2.o HAE2.o HBH2.o HBT2.o HBE2.o).mono ?_;rw[HXB.o]
    cases q
    ·rintro r w2 ⟨rfl,hb2⟩
     have HB2:=Za (HWW.o.trans (hb2.mono (by simp;omega)));clear hb2 a0 a1 a2 a3 a4 b0 b1 b2 b3 b4;go_wp2_with fail
     go_ret
     exact⟨Au (Ih Gb St.nil la lb k HL.o.symm HKL.o HXA.o).symm,HB2.o⟩
    ·rintro r w2 ⟨rfl,hb2⟩
     have HB2:=Za (HWW.o.trans (hb2.mono (by simp;omega)));clear hb2 a0 a1 a2 a3 a4 b0 b1 b2 b3 b4;go_wp2_with fail
     go_roundw
     case rel=>exact⟨k+1,by omega,by go_num,fun i hi=>by rcases Zi.1 hi with h|rfl;exact HNO.o i h;exact HXA.o,HB2.o⟩
     case measure=>simp [intOf];omega
   ·go_wp2_with fail
    go_ret
    exact⟨Au (Jg Gb St.nil la lb HL.o.symm (fun i hi=>HNO.o i (by omega))).symm,HBW.o⟩
 ·have hne:((la.length:Int) !=(lb.length:Int))=true:=by rw[bne_iff_ne];omega
  have E:Hid (Cf Gb la lb=false):=Kh _ _ _ (by omega);clear ha hb ih hl;go_enter func55,ntmps55
  go_wp2_with fail
  go_ret
  exact⟨Au E.out.symm,Zc _ _⟩
theorem Yu(x:St)(iht:∀y,y∈x.thn→Op y)(ihe:∀y,y∈x.els→Op y):Op x:=by
 intro y D sa st se sb ut ue w ha ht he hb ht' he';obtain⟨a1,a2,rfl⟩:=ha.shape;obtain⟨t1,t2,rfl⟩:=ht.shape;obtain⟨e1,e2,rfl⟩:=he.shape;obtain⟨b1,b2,rfl⟩:=hb.shape;obtain⟨u1,u2,rfl⟩:=ht'.shape;obtain⟨v1,v2,rfl⟩:=he'.shape;have EQT:=Za (Qm x.thn iht);have EQE:=Za (Qm x.els ihe);obtain⟨k,nm,us,tt,ee⟩:=x;obtain⟨k',nm',vs,tt',ee'⟩:=y;have HA:=Za ha;have HT:=Za ht;have HE:=Za he;have HA':=Za hb;have HT':=Za ht';have HE':=Za he';have E:Hid (Gb (.mk k nm us tt ee) (.mk k' nm' vs tt' ee')=(k==k' && nm==nm' && Gy us vs && Cf Gb tt tt' && Cf Gb ee ee')):=by show _=_;rw[Gb,Me,Me]
 clear ha ht he hb ht' he' iht ihe;show Calls _ _ #[.agg #[.int .i64 k,.string (Aa nm),.slice a1 us.length a2,.slice t1 tt.length t2,.slice e1 ee.length e2],.agg #[.int .i64 k',.string (Aa nm'),.slice b1 vs.length b2,.slice u1 tt'.length u2,.slice v1 ee'.length v2]] _ _
 rw[E.out];go_enter func56,ntmps56
 go_wp2_with fail
 ·have HBW:=Za (((Zc w.heap.size w).alloc (Nat.le_refl _) (.cells #[.int .i64 k',.string (Aa nm'),.slice a1 us.length a2,.slice t1 tt.length t2,.slice e1 ee.length e2] 60)).alloc (by simp) (.cells #[.int .i64 k',.string (Aa nm'),.slice b1 vs.length b2,.slice u1 tt'.length u2,.slice v1 ee'.length v2] 60))
  refine(pN us vs D (.slice a1 us.length a2) (.slice b1 vs.length b2) _ ?h1 ?h2).mono ?_
  case h1=>exact Ag.old ((bA).alloc (by simp) _) HA.o
  case h2=>exact Ag.old ((bA).alloc (by simp) _) HA'.o
  rintro r w1 ⟨rfl,hb1⟩;have hz:w.heap.size+1<w1.heap.size:=by have:=hb1.size;simp at this;omega
  have g3:w1.cell? ⟨w.heap.size,3,none⟩=some (.slice t1 tt.length t2):=Ac hb1 (by simp [Zf]);have g4:w1.cell? ⟨w.heap.size,4,none⟩=some (.slice e1 ee.length e2):=Ac hb1 (by simp [Zf]);have k3:w1.cell? ⟨w.heap.size+1,3,none⟩=some (.slice u1 tt'.length u2):=Ac hb1 (by simp [Zf]);have k4:w1.cell? ⟨w.heap.size+1,4,none⟩=some (.slice v1 ee'.length v2):=Ac hb1 (by simp [Zf]);have hbw:Below w.heap.size w w1:=((bA).alloc (by simp) _).trans (hb1.mono (by simp;omega));have HBW1:=Za hbw;clear hb1 hbw HBW
  cases qa:Gy us vs
  ·have QA:=Za qa;clear qa
   go_wp2_with fail
   go_ret
   exact⟨Au (by simp [*,QA.out]),HBW1.o⟩
  have QA:=Za qa;clear qa;go_wp2_with fail
  refine(EQT.out tt' D (.slice t1 tt.length t2) (.slice u1 tt'.length u2) _ (HT.o.old HBW1.o) (HT'.o.old HBW1.o)).mono ?_;rintro r w2 ⟨rfl,hb2⟩;have l4:=Ac hb2 g4;have m4:=Ac hb2 k4;have HBW2:=Za (HBW1.o.trans (hb2.mono (by omega)));have hs2:=hb2.size;clear hb2 g3 g4 k3 k4;have ET:Cf Gb (St.mk k' nm' us tt ee).thn tt'=Cf Gb tt tt':=rfl
  first
   |rw[ET]
   |rw[show Cf Gb (St.mk k nm us tt ee).thn tt'=Cf Gb tt tt' from rfl]
  clear ET
  cases qt:Cf Gb tt tt'
  ·have QT:=Za qt;clear qt
   go_wp2_with fail
   go_ret
   exact⟨Au (by simp [*,QA.out,QT.out]),HBW2.o⟩
  have QT:=Za qt;clear qt;go_wp2_with fail
  refine(EQE.out ee' D (.slice e1 ee.length e2) (.slice v1 ee'.length v2) _ (HE.o.old HBW2.o) (HE'.o.old HBW2.o)).mono ?_;rintro r w3 ⟨rfl,hb3⟩;have HBW3:=Za (HBW2.o.trans (hb3.mono (by omega)));clear hb3 l4 m4;go_wp2_with fail
  go_ret
  exact⟨Au (by simp [*,QA.out,QT.out,St.els]),HBW3.o⟩
 all_goals
  go_ret
  refine⟨Au ?_,(bA).alloc (by simp) _⟩;simp [*]
theorem St.thn_lt {x y:St}(h:y∈x.thn):SizeOf.sizeOf y<SizeOf.sizeOf x:=by
 cases x with
 |mk k nm us t e=>have:=List.sizeOf_lt_of_mem (show y∈t from h);simp only[St.mk.sizeOf_spec];omega
theorem St.els_lt {x y:St}(h:y∈x.els):SizeOf.sizeOf y<SizeOf.sizeOf x:=by
 cases x with
 |mk k nm us t e=>have:=List.sizeOf_lt_of_mem (show y∈e from h);simp only[St.mk.sizeOf_spec];omega
theorem Nh:∀(n:Nat) (x:St),SizeOf.sizeOf x≤n→Op x
 |0,x,h=>by cases x;simp at h
 |n+1,x,h=>Yu x (fun y hy=>Nh n y (by have:=St.thn_lt hy;omega)) (fun y hy=>Nh n y (by have:=St.els_lt hy;omega))
theorem qK(la lb:List St)(D:Nat→Prop)(va vb:Value)(w:World)(ha:Av D w la va)(hb:Av D w lb vb):
  Calls Zb 55 #[va,vb,.func (.func 56) #[] #[]] w fun e w'=>e=.returned (.bool (Gt la lb))∧Below w.heap.size w w':=by
 rw[Me];exact Qm la (fun x _=>Nh _ x (Nat.le_refl _)) lb D va vb w ha hb
theorem Below.drewN' {n k:Nat}{w w1:World}(h:Below n w w1):Below n w (w1.drewN k):=⟨h.os,h.tape,h.output,h.size,h.block⟩
theorem Yk(la lb:List Bs)(D:Nat→Prop)(va vb:Value)(w:World)(ha:Az D w la va)(hb:Az D w lb vb):
  Calls Zb 54 #[va,vb] w fun e w'=>e=.returned (.bool (Ho la lb))∧Below w.heap.size w w':=by
 rw[Xe];obtain⟨a1,a2,rfl⟩:=ha.shape;obtain⟨b1,b2,rfl⟩:=hb.shape;have l63:=ha.fits.lt;have m63:=hb.fits.lt
 by_cases hl:lb.length=la.length
 ·rw[hl]at hb ⊢
  have HA:=Za ha;have HB:=Za hb;have HL:=Za hl;clear ha hb hl m63;go_enter func54,ntmps54
  go_wp2_with fail
  go_loopw [5,13] (fun _ s13 wr=> ∃k:Nat,k≤la.length∧s13=.int .i64 k∧(∀i,i<k→(la.getD i []==lb.getD i [])=true)∧Below w.heap.size w wr) (fun _ s13 _=>la.length-(intOf s13).toNat)
  case atStart=>exact⟨0,Nat.zero_le _,rfl,fun i hi=>by omega,Zc _ _⟩
  case round=>
   obtain⟨k,hk,rfl,hno,hb⟩:=hrel;have HNO:=Za hno;have HBW:=Za hb;have hsz:=hb.size;clear hno hb
   by_cases hlt:k<la.length
   ·obtain⟨ab,ao,rfl,aD,al,ac⟩:=Nb (Zg HBW.o HA.o) k hlt
    obtain⟨bb,bo,rfl,bD,bl,bc⟩:=Nb (Zg HBW.o HB.o) k (by rw[HL.o];exact hlt);have HKL:=Za hlt;clear aD bD;generalize hxe:la.getD k []=xa at*;generalize hye:lb.getD k []=xb at*;have HXE:=Za hxe;have HYE:=Za hye;clear hxe hye
    cases q:(xa==xb)
    ·have HQ:=Za q
     go_wp2_with fail
     go_quiet (fail)
     go_wp2_with fail
     all_goals
      go_ret
      exact⟨Au (Ih (fun x y=>x==y) [] la lb k HL.o.symm HKL.o (by rw[HXE.o,HYE.o];exact HQ.o)).symm,Below.drewN' HBW.o⟩
    ·have hq:xa=xb:=by simpa using q
     subst hq;clear q;go_wp2_with fail
     go_quiet (fail)
     go_wp2_with fail
     go_roundw
     case rel=>exact⟨k+1,by omega,by go_num,fun i hi=>by rcases Zi.1 hi with h|rfl;exact HNO.o i h;rw[HXE.o,HYE.o];simp,Below.drewN' HBW.o⟩
     case measure=>simp [intOf];omega
   ·go_wp2_with fail
    go_ret
    exact⟨Au (Jg (fun x y=>x==y) [] la lb HL.o.symm (fun i hi=>HNO.o i (by omega))).symm,HBW.o⟩
 ·have hne:((la.length:Int) !=(lb.length:Int))=true:=by rw[bne_iff_ne];omega
  have E:Hid (Cf (fun x y=>x==y) la lb=false):=Kh _ _ _ (by omega);clear ha hb hl;go_enter func54,ntmps54
  go_wp2_with fail
  go_ret
  exact⟨Au E.out.symm,Zc _ _⟩
theorem nZ(la lb:List Ar)(D:Nat→Prop)(va vb:Value)(w:World)(ha:Bv D w la va)(hb:Bv D w lb vb):
  Calls Zb 51 #[va,vb] w fun e w'=>e=.returned (.bool (Hl la lb))∧Below w.heap.size w w':=by
 rw[Ua];obtain⟨a1,a2,rfl⟩:=ha.shape;obtain⟨b1,b2,rfl⟩:=hb.shape;have l63:=ha.fits.lt;have m63:=hb.fits.lt
 by_cases hl:lb.length=la.length
 ·rw[hl]at hb ⊢
  have HA:=Za ha;have HB:=Za hb;have HL:=Za hl;clear ha hb hl m63;go_enter func51,ntmps51
  go_wp2_with fail
  go_loopw [5,13] (fun _ s13 wr=> ∃k:Nat,k≤la.length∧s13=.int .i64 k∧(∀i,i<k→Kz (la.getD i Ar.nil) (lb.getD i Ar.nil)=true)∧Below w.heap.size w wr) (fun _ s13 _=>la.length-(intOf s13).toNat)
  case atStart=>exact⟨0,Nat.zero_le _,rfl,fun i hi=>by omega,Zc _ _⟩
  case round=>
   obtain⟨k,hk,rfl,hno,hb⟩:=hrel;have HNO:=Za hno;have HBW:=Za hb;have hsz:=hb.size;clear hno hb
   by_cases hlt:k<la.length
   ·obtain⟨ab,ao,rfl,aD,al,a0,a1⟩:=Bv.cellAt (Bv.old HBW.o HA.o) k hlt
    obtain⟨bb,bo,rfl,bD,bl,b0,b1⟩:=Bv.cellAt (Bv.old HBW.o HB.o) k (by rw[HL.o];exact hlt);have HKL:=Za hlt;clear aD bD;generalize hxe:Lb la k=xa at*;generalize hye:Lb lb k=xb at*;have HXE:=Za hxe;have HYE:=Za hye;clear hxe hye;obtain⟨n1,s1⟩:=xa;obtain⟨n2,s2⟩:=xb;dsimp only at a0 a1 b0 b1
    cases q:(n1==n2)<;>cases q2:(s1==s2)
    case true.true=>
     have hq:n1=n2:=by simpa using q
     have hq2:s1=s2:=by simpa using q2
     subst hq hq2;clear q q2;go_wp2_with fail
     go_quiet (fail)
     go_wp2_with fail
     go_roundw
     case rel=>exact⟨k+1,by omega,by go_num,fun i hi=>by rcases Zi.1 hi with h|rfl;exact HNO.o i h;(show Kz (Lb la _) (Lb lb _)=true;rw[HXE.o,HYE.o];simp [Kz]),Below.drewN' HBW.o⟩
     case measure=>simp [intOf];omega
    all_goals
     have HQ:Hid (Kz (Lb la k) (Lb lb k)=false):=by show _=_;rw[HXE.o,HYE.o];simp [Kz,q,q2]
     go_wp2_with fail
     go_quiet (fail)
     go_wp2_with fail
     all_goals
      go_ret
      exact⟨Au (Ih Kz Ar.nil la lb k HL.o.symm HKL.o HQ.o).symm,Below.drewN' HBW.o⟩
   ·go_wp2_with fail
    go_ret
    exact⟨Au (Jg Kz Ar.nil la lb HL.o.symm (fun i hi=>HNO.o i (by omega))).symm,HBW.o⟩
 ·have hne:((la.length:Int) !=(lb.length:Int))=true:=by rw[bne_iff_ne];omega
  have E:Hid (Cf Kz la lb=false):=Kh _ _ _ (by omega);clear ha hb hl;go_enter func51,ntmps51
  go_wp2_with fail
  go_ret
  exact⟨Au E.out.symm,Zc _ _⟩
def eX(x:Fu):Prop:= ∀(y:Fu) (D:Nat→Prop) (a t e a' t' e':Value) (w:World),Az D w x.params a→Az D w x.locals t→Av D w x.body e→Az D w y.params a'→Az D w y.locals t'→Av D w y.body e'→
 Calls Zb 53 #[fuV x a t e,fuV y a' t' e'] w fun e w'=>e=.returned (.bool (Jb x y))∧Below w.heap.size w w'
theorem lW(x:Fu):eX x:=by
 intro y D sa st se sb ut ue w ha ht he hb ht' he';obtain⟨a1,a2,rfl⟩:=ha.shape;obtain⟨t1,t2,rfl⟩:=ht.shape;obtain⟨e1,e2,rfl⟩:=he.shape;obtain⟨b1,b2,rfl⟩:=hb.shape;obtain⟨u1,u2,rfl⟩:=ht'.shape;obtain⟨v1,v2,rfl⟩:=he'.shape;obtain⟨nm,us,tt,ee⟩:=x;obtain⟨nm',vs,tt',ee'⟩:=y;have HA:=Za ha;have HT:=Za ht;have HE:=Za he;have HA':=Za hb;have HT':=Za ht';have HE':=Za he';have E:Hid (Jb ⟨nm,us,tt,ee⟩ ⟨nm',vs,tt',ee'⟩=(nm==nm' && Ho us vs && Ho tt tt' && Gt ee ee')):=by show _=_;unfold Jb;rfl
 clear ha ht he hb ht' he';show Calls _ _ #[.agg #[.string (Aa nm),.slice a1 us.length a2,.slice t1 tt.length t2,.slice e1 ee.length e2],.agg #[.string (Aa nm'),.slice b1 vs.length b2,.slice u1 tt'.length u2,.slice v1 ee'.length v2]] _ _
 rw[E.out];go_enter func53,ntmps53
 go_wp2_with fail
 ·refine(Yk us vs D (.slice a1 us.length a2) (.slice b1 vs.length b2) _ ?h1 ?h2).mono ?_
  case h1=>exact Zg ((bA).alloc (by simp) _) HA.o
  case h2=>exact Zg ((bA).alloc (by simp) _) HA'.o
  rintro r w1 ⟨rfl,hb1⟩;have hz:w.heap.size+1<w1.heap.size:=by have:=hb1.size;simp at this;omega
  have g3:w1.cell? ⟨w.heap.size,2,none⟩=some (.slice t1 tt.length t2):=Ac hb1 (by simp [Zf]);have g4:w1.cell? ⟨w.heap.size,3,none⟩=some (.slice e1 ee.length e2):=Ac hb1 (by simp [Zf]);have k3:w1.cell? ⟨w.heap.size+1,2,none⟩=some (.slice u1 tt'.length u2):=Ac hb1 (by simp [Zf]);have k4:w1.cell? ⟨w.heap.size+1,3,none⟩=some (.slice v1 ee'.length v2):=Ac hb1 (by simp [Zf]);have hbw:Below w.heap.size w w1:=((bA).alloc (by simp) _).trans (hb1.mono (by simp;omega));have HBW1:=Za hbw;clear hb1 hbw
  cases qa:Ho us vs
  ·have QA:=Za qa;clear qa
   go_wp2_with fail
   go_ret
   exact⟨Au (by simp [*,QA.out]),HBW1.o⟩
  have QA:=Za qa;clear qa;go_wp2_with fail
  refine(Yk tt tt' D (.slice t1 tt.length t2) (.slice u1 tt'.length u2) _ (Zg HBW1.o HT.o) (Zg HBW1.o HT'.o)).mono ?_;rintro r w2 ⟨rfl,hb2⟩;have l4:=Ac hb2 g4;have m4:=Ac hb2 k4;have HBW2:=Za (HBW1.o.trans (hb2.mono (by omega)));have hs2:=hb2.size;clear hb2 g3 g4 k3 k4
  cases qt:Ho tt tt'
  ·have QT:=Za qt;clear qt
   go_wp2_with fail
   go_ret
   exact⟨Au (by simp [*,QA.out,QT.out]),HBW2.o⟩
  have QT:=Za qt;clear qt;go_wp2_with fail
  refine(qK ee ee' D (.slice e1 ee.length e2) (.slice v1 ee'.length v2) _ (HE.o.old HBW2.o) (HE'.o.old HBW2.o)).mono ?_;rintro r w3 ⟨rfl,hb3⟩;have HBW3:=Za (HBW2.o.trans (hb3.mono (by omega)));clear hb3 l4 m4;go_wp2_with fail
  go_ret
  exact⟨Au (by simp [*,QA.out,QT.out]),HBW3.o⟩
 all_goals
  go_ret
  refine⟨Au ?_,(bA).alloc (by simp) _⟩;simp [*]
theorem jX(la:List Fu)(ih:∀x,x∈la→eX x)(lb:List Fu)(D:Nat→Prop)(va vb:Value)(w:World)(ha:Bx D w la va)(hb:Bx D w lb vb):
  Calls Zb 52 #[va,vb,.func (.func 53) #[] #[]] w fun e w'=>e=.returned (.bool (Cf Jb la lb))∧Below w.heap.size w w':=by
 obtain⟨a1,a2,rfl⟩:=ha.shape;obtain⟨b1,b2,rfl⟩:=hb.shape;have l63:=ha.fits.lt;have m63:=hb.fits.lt
 by_cases hl:lb.length=la.length
 ·rw[hl]at hb ⊢
  have HA:=Za ha;have HB:=Za hb;have IH:=Za ih;have HL:=Za hl;clear ha hb ih hl m63;go_enter func52,ntmps52
  go_wp2_with fail
  go_loopw [7,8,9,17] (fun _ _ _ s17 wr=> ∃k:Nat,k≤la.length∧s17=.int .i64 k∧(∀i,i<k→Jb (la.getD i Fu.nil) (lb.getD i Fu.nil)=true)∧Below w.heap.size w wr) (fun _ _ _ s17 _=>la.length-(intOf s17).toNat)
  case atStart=>exact⟨0,Nat.zero_le _,rfl,fun i hi=>by omega,Zc _ _⟩
  case round=>
   obtain⟨k,hk,rfl,hno,hb⟩:=hrel;have HNO:=Za hno;have HBW:=Za hb;have hsz:=hb.size;clear hno hb
   by_cases hlt:k<la.length
   ·obtain⟨xab,xao,a7,a8,a9,rfl,xaD,al,a0,a1,a2,a3,ap,av,ah⟩:=Bx.cellAt (Ze HBW.o HA.o) k hlt
    obtain⟨xbb,xbo,b7,b8,b9,rfl,xbD,bl,b0,b1,b2,b3,bp,bv,bh⟩:=Bx.cellAt (Ze HBW.o HB.o) k (by rw[HL.o];exact hlt);obtain⟨a51,a52,rfl⟩:=ap.shape;obtain⟨b51,b52,rfl⟩:=bp.shape;obtain⟨a61,a62,rfl⟩:=av.shape;obtain⟨b61,b62,rfl⟩:=bv.shape;obtain⟨a71,a72,rfl⟩:=ah.shape;obtain⟨b71,b72,rfl⟩:=bh.shape;have HAH:=Za ap;have HBH:=Za bp;have HAT:=Za av;have HBT:=Za bv;have HAE:=Za ah;have HBE:=Za bh;clear ap bp av bv ah bh xaD xbD;have IHX:=Za (IH.out _ (Rm hlt));have HKL:=Za hlt;generalize hxe:Eb la k=xa at*;generalize hye:Eb lb k=xb at*;have HXE:=Za hxe;have HYE:=Za hye;clear hxe hye;generalize hxa:Jb xa xb=q;have HXA:Hid (Jb (Eb la k) (Eb lb k)=q):=by show _=_;rw[HXE.o,HYE.o];exact hxa
    have HXB:=Za hxa;clear hxa;have hww:Below wr.heap.size wr ((wr.alloc (.cells #[.string (Aa xa.name),.slice a51 xa.params.length a52,.slice a61 xa.locals.length a62,.slice a71 xa.body.length a72] 58)).alloc (.cells #[.string (Aa xb.name),.slice b51 xb.params.length b52,.slice b61 xb.locals.length b62,.slice b71 xb.body.length b72] 58)):=(bA).alloc (by simp) _;have HAH2:=Za (Zg hww HAH.o);have HBH2:=Za (Zg hww HBH.o);have HAT2:=Za (Zg hww HAT.o);have HBT2:=Za (Zg hww HBT.o);have HAE2:=Za (HAE.o.old hww);have HBE2:=Za (HBE.o.old hww);have HWW:=Za (HBW.o.trans (hww.mono hsz));clear hww;go_wp2_with fail
    refine(IHX.out _ D _ _ _ _ _ _ _ HAH2.o HAT2.o HAE2.o HBH2.o HBT2.o HBE2.o).mono ?_;rw[HXB.o]
    cases q
    ·rintro r w2 ⟨rfl,hb2⟩
     have HB2:=Za (HWW.o.trans (hb2.mono (by simp;omega)));clear hb2 a0 a1 a2 a3 b0 b1 b2 b3;go_wp2_with fail
     go_ret
     exact⟨Au (Ih Jb Fu.nil la lb k HL.o.symm HKL.o HXA.o).symm,HB2.o⟩
    ·rintro r w2 ⟨rfl,hb2⟩
     have HB2:=Za (HWW.o.trans (hb2.mono (by simp;omega)));clear hb2 a0 a1 a2 a3 b0 b1 b2 b3;go_wp2_with fail
     go_roundw
     case rel=>exact⟨k+1,by omega,by go_num,fun i hi=>by rcases Zi.1 hi with h|rfl;exact HNO.o i h;exact HXA.o,HB2.o⟩
     case measure=>simp [intOf];omega
   ·go_wp2_with fail
    go_ret
    exact⟨Au (Jg Jb Fu.nil la lb HL.o.symm (fun i hi=>HNO.o i (by omega))).symm,HBW.o⟩
 ·have hne:((la.length:Int) !=(lb.length:Int))=true:=by rw[bne_iff_ne];omega
  have E:Hid (Cf Jb la lb=false):=Kh _ _ _ (by omega);clear ha hb ih hl;go_enter func52,ntmps52
  go_wp2_with fail
  go_ret
  exact⟨Au E.out.symm,Zc _ _⟩
theorem rH(p q:Pr)(D:Nat→Prop)(sa sf ta tf:Value)(w:World)(ha:Bv D w p.arrays sa)(hf:Bx D w p.funcs sf)(ha':Bv D w q.arrays ta)(hf':Bx D w q.funcs tf):
  Calls Zb 25 #[.agg #[sa,sf],.agg #[ta,tf]] w fun r w'=>r=.returned (.bool (Yf p q))∧Below w.heap.size w w':=by
 obtain⟨a1,a2,rfl⟩:=ha.shape;obtain⟨f1,f2,rfl⟩:=hf.shape;obtain⟨b1,b2,rfl⟩:=ha'.shape;obtain⟨g1,g2,rfl⟩:=hf'.shape;have HA:=Za ha;have HF:=Za hf;have HA':=Za ha';have HF':=Za hf';have E:Hid (Yf p q=(Hl p.arrays q.arrays && Cf Jb p.funcs q.funcs)):=by show _=_;unfold Yf;rw[Us]
 clear ha hf ha' hf';rw[E.out];go_enter func25,ntmps25
 go_wp2_with fail
 refine(nZ p.arrays q.arrays D (.slice a1 p.arrays.length a2) (.slice b1 q.arrays.length b2) _ ?h1 ?h2).mono ?_
 case h1=>exact Bv.old ((bA).alloc (by simp) _) HA.o
 case h2=>exact Bv.old ((bA).alloc (by simp) _) HA'.o
 rintro r w1 ⟨rfl,hb1⟩;have hz:w.heap.size+1<w1.heap.size:=by have:=hb1.size;simp at this;omega
 have g3:w1.cell? ⟨w.heap.size,1,none⟩=some (.slice f1 p.funcs.length f2):=Ac hb1 (by simp [Zf]);have k3:w1.cell? ⟨w.heap.size+1,1,none⟩=some (.slice g1 q.funcs.length g2):=Ac hb1 (by simp [Zf]);have hbw:Below w.heap.size w w1:=((bA).alloc (by simp) _).trans (hb1.mono (by simp;omega));have HBW1:=Za hbw;clear hb1 hbw
 cases qa:Hl p.arrays q.arrays
 ·have QA:=Za qa;clear qa
  go_wp2_with fail
  go_ret
  exact⟨Au (by simp [QA.out]),HBW1.o⟩
 have QA:=Za qa;clear qa;go_wp2_with fail
 refine(jX p.funcs (fun x _=>lW x) q.funcs D (.slice f1 p.funcs.length f2) (.slice g1 q.funcs.length g2) _ (Ze HBW1.o HF.o) (Ze HBW1.o HF'.o)).mono ?_;rintro r w2 ⟨rfl,hb2⟩;have HBW2:=Za (HBW1.o.trans (hb2.mono (by omega)));clear hb2 g3 k3;go_wp2_with fail
 go_ret
 exact⟨Au (by simp [QA.out]),HBW2.o⟩
theorem kF(s:Bs)(raw0:List Int)(rv:Value)(c:Int)(more:Bs)(hc:I64 c)(hs:s.length≤140737488355328)(hm:more.length≤140737488355328)(w:World)(hr:Jh (· <w.heap.size) w raw0 rv)(hl:Jk w):
  Calls Zb 7 #[.string (Aa s),rv,.int .i64 c,.string (Aa more)] w fun e w'=>e=.returned (.bool true)∧Below w.heap.size w w':=by
 have HL:=Za hl;have HRA:=Za hr;clear hl hr;go_enter func7,ntmps7
 go_wp2_with fail
 refine(jB w HL.o).mono ?_;rintro e w1 ⟨rfl,hb1⟩;have HB1:=Za hb1;clear hb1;go_wp2_with fail
 refine(tA raw0 true rv w1 (Jh.old HB1.o HRA.o)).mono ?_;rintro e w2 ⟨va,vf,ds,rfl,hb2,ha2,hds,hd3,hf2⟩;have pr:=Oh raw0 true;have pl:Ct (Dn (Lc raw0 true)).length:=by have h1:=qB raw0 true;have h2:=rG;show _≤_;omega
 generalize Lc raw0 true=p0 at*;have hO:=eO.of ha2 hds hd3 hf2;have HB2:=Za (HB1.o.trans (hb2.mono HB1.o.size));have HL2:=Za (HL.o.old HB2.o);have HPR:=Za (aE p0 va vf w2 HL2.o.lt HL2.o.pow hO.ars hO.fus pr pl);have htl:(Dn p0).length≤140737488355328:=pl.out;clear hb2 ha2 hds hd3 hf2 hO pr pl HB1 HRA HL2;obtain⟨TX,hTX⟩:∃T,Dn p0=T:=⟨_,rfl⟩;rw[hTX]at HPR htl;clear hTX;go_wp2_with fail
 refine HPR.o.mono ?_;rintro e w3 ⟨rfl,hb3⟩;have HB3:=Za (HB2.o.trans (hb3.mono HB2.o.size));clear hb3 HB2 HPR;have HPK:=Za (fun w'=>oX c ((TX.length:Int)+1) hc (by omega) (by omega) w');obtain⟨k,hke,hk1⟩:=gW c ((TX.length:Int)+1) (by omega);rw[hke]at HPK;clear hke hc;have hkl:k≤TX.length:=by omega
 have htlI:(TX.length:Int)≤140737488355328:=by omega
 go_wp2_with fail
 refine(HPK.o _).mono ?_;rintro e w4 ⟨rfl,hw4⟩;subst hw4;have hkI:(k:Int)≤(TX.length:Int):=by omega
 have hmI:(more.length:Int)≤140737488355328:=by omega
 have hmn0:(0:Int)≤min ((k:Int)+(more.length:Int)) (TX.length:Int):=by omega
 have hmn1:min ((k:Int)+(more.length:Int)) (TX.length:Int)≤(TX.length:Int):=by omega
 go_wp2_with fail
 go_region
 obtain⟨B1,hB1⟩:∃B,(Aa TX).extract 0 k++Aa more++(Aa TX).extract (min ((k:Int)+(more.length:Int)) (TX.length:Int)).toNat TX.length=B:=⟨_,rfl⟩;obtain⟨B2,hB2⟩:∃B,(Aa TX).extract 0 k++Aa more++(Aa TX).extract k TX.length=B:=⟨_,rfl⟩;rw[hB1,hB2];clear hB1 hB2;have hbA:Below w4.heap.size w4 (w4.alloc (.cells #[.string (Aa s),.string B1,.string B2] 9)).drew:=(bA).drew;have GB0:=Za (HB3.o.trans (hbA.mono HB3.o.size));have GR0:=Za (show Ae (w4.alloc (.cells #[.string (Aa s),.string B1,.string B2] 9)).drew w4.heap.size [.string (Aa s),.string B1,.string B2] 9 from(Ae.new w4 [.string (Aa s),.string B1,.string B2] 9).old ((Zc _ _).drew));obtain⟨V,hV⟩:∃V,(w4.alloc (.cells #[.string (Aa s),.string B1,.string B2] 9)).drew=V:=⟨_,rfl⟩;rw[hV]at GB0 GR0 ⊢;clear hbA hV hmn0 hmn1 HB3 HPK;generalize w4.heap.size=rb at*;go_wp2_with fail
 go_loopw [64] (fun s64 wr=> ∃j:Nat,s64=.int .i64 j∧j≤3∧Hid (Below w.heap.size w wr)∧Hid (Ae wr rb [.string (Aa s),.string B1,.string B2] 9)) (fun s64 _=>3-(intOf s64).toNat)
 case atStart=>exact⟨0,rfl,by omega,GB0,GR0⟩
 case round=>
  obtain⟨j,rfl,hj,GB,GO⟩:=hrel;clear GB0 GR0
  by_cases hlt:j<3
  ·obtain⟨l,hl⟩:∃l:Bs,([.string (Aa s),.string B1,.string B2]:List Value)[j]? =some (.string (Aa l)):=by
    have:j=0∨j=1∨j=2:=by omega
    rcases this with rfl|rfl|rfl
    ·exact⟨s,rfl⟩
    ·exact⟨B1.data.toList,rfl⟩
    ·exact⟨B2.data.toList,rfl⟩
   have k0:=GO.out.at j _ hl;have kl:=GO.out.lt;clear hl;have hjI:(j:Int)<3:=by omega
   by_cases h5k:l.length≤5000
   ·have h2I:(l.length:Int)≤5000:=by omega
    have HL1:=Za (HL.o.old GB.out);rcases tP l (by omega) _ HL1.o with⟨e0,n,he0,hn,hP⟩|⟨p,hpr,hP⟩
    ·have HP:=Za hP
     have hnn:¬(n<1):=by omega
     clear hP;go_wp2_with fail
     refine HP.o.mono ?_;rintro e w6 ⟨hb6,aa,ac,fa,fc,rfl⟩;have GB1:=Za (GB.out.trans (hb6.mono GB.out.size));have GO1:=Za (GO.out.old hb6);have hbC:Below w6.heap.size w6 (w6.alloc (.cells #[.slice aa 0 ac,.slice fa 0 fc] 34)):=bA;have GB2:=Za (GB1.out.trans (hbC.mono GB1.out.size));have GO2:=Za (GO1.out.old hbC);have HOP:=Za (Ae.new w6 [.slice aa 0 ac,.slice fa 0 fc] 34);clear hb6 hbC k0 kl HP HL1 GB1 GO1;go_upto_region 9 with(fail)
     generalize w6.alloc (.cells #[.slice aa 0 ac,.slice fa 0 fc] 34)=w7 at*;generalize w6.heap.size=pb at*;have q0:=HOP.o.at 0 _ rfl;have q1:=HOP.o.at 1 _ rfl;go_wp2_with fail
     first
      |exact⟨⟨j+1,rfl,by omega,GB2,GO2⟩,by simp [intOf];omega⟩
      |exact⟨⟨_,⟨j+1,rfl,by omega,GB2,GO2⟩,rfl⟩,by simp [intOf];omega⟩
      |exact⟨⟨_,_,⟨j+1,rfl,by omega,GB2,GO2⟩,rfl,rfl⟩,by simp [intOf];omega⟩
    ·have HP:=Za hP
     have PR:=Za hpr;have HRT:=Za (fun(D:Nat→Prop) sa sf w ha hf=>Tg p D sa sf w ha hf);rw[hpr]at HRT;clear hP hpr;go_wp2_with fail
     refine HP.o.mono ?_;rintro e w6 ⟨hb6,hft,aa,ac,fa,fc,rfl,ha6,hf6⟩;have GB1:=Za (GB.out.trans (hb6.mono GB.out.size));have GO1:=Za (GO.out.old hb6);have hbC:Below w6.heap.size w6 (w6.alloc (.cells #[.slice aa p.arrays.length ac,.slice fa p.funcs.length fc] 34)):=bA;have GB2:=Za (GB1.out.trans (hbC.mono GB1.out.size));have GO2:=Za (GO1.out.old hbC);have HOP:=Za (Ae.new w6 [.slice aa p.arrays.length ac,.slice fa p.funcs.length fc] 34);have hz:w6.heap.size<(w6.alloc (.cells #[.slice aa p.arrays.length ac,.slice fa p.funcs.length fc] 34)).heap.size:=by simp
     have HA:=Za ((ha6.old hbC).mono (D':=(· <(w6.alloc (.cells #[.slice aa p.arrays.length ac,.slice fa p.funcs.length fc] 34)).heap.size)) (fun b hb=>Nat.lt_trans hb hz));have HF:=Za ((Ze hbC hf6).mono (D':=(· <(w6.alloc (.cells #[.slice aa p.arrays.length ac,.slice fa p.funcs.length fc] 34)).heap.size)) (fun b hb=>Nat.lt_trans hb hz));have HPS:=Za (fun(h:(Dn p).length≤20000) w hl=>rO PR.out hf6 h w hl);have HPR:=Za (fun sa sf (w:World) (hl:Jk w) (ha:Bv (· <w.heap.size) w p.arrays sa) (hf:Bx (· <w.heap.size) w p.funcs sf)=>aE p sa sf w hl.lt hl.pow ha hf PR.out hft);clear hb6 hbC hft ha6 hf6 hz k0 kl HP HL1 GB1 GO1;have hS:Hid ((Aa (Dn p)).size=(Dn p).length):=by show(Dn p).toArray.size=_;simp
     go_upto_region 9 with(fail)
     generalize w6.alloc (.cells #[.slice aa p.arrays.length ac,.slice fa p.funcs.length fc] 34)=w7 at*;generalize w6.heap.size=pb at*;have q0:=HOP.o.at 0 _ rfl;have q1:=HOP.o.at 1 _ rfl;have HL2:=Za (HL.o.old GB2.out);have HP1:=Za (HPR.o _ _ w7 HL2.o HA.o HF.o);generalize Aa (Dn p)=S at*;go_wp2_with fail
     refine HP1.o.mono ?_;rintro e w8 ⟨rfl,hb8⟩;have GB3:=Za (GB2.out.trans (hb8.mono GB2.out.size));have GO3:=Za (GO2.out.old hb8);have HOP3:=Za (HOP.o.old hb8);have HA3:=Za ((HA.o.old hb8).mono (D':=fun _=>True) (fun _ _=>trivial));have HF3:=Za ((Ze hb8 HF.o).mono (D':=fun _=>True) (fun _ _=>trivial));clear hb8 q0 q1 HP1 HL2 GB2 GO2 HOP HA HF;have q0:=HOP3.o.at 0 _ rfl;have q1:=HOP3.o.at 1 _ rfl;go_wp2_with fail
     refine(HRT.o (fun _=>True) _ _ _ HA3.o HF3.o).mono ?_;rintro e w9 ⟨rfl,hb9⟩;have GB4:=Za (GB3.out.trans (hb9.mono GB3.out.size));have GO4:=Za (GO3.out.old hb9);have HOP4:=Za (HOP3.o.old hb9);have HA4:=Za (HA3.o.old hb9);have HF4:=Za (Ze hb9 HF3.o);clear hb9 q0 q1 GB3 GO3 HOP3 HA3 HF3 HRT;have hsz:=hS.out
     by_cases hgt:S.size≤20000
     ·have hle:¬((S.size:Int)>20000):=by omega
      have hlt':¬((20000:Int)<(S.size:Int)):=by omega
      have HL4:=Za (HL.o.old GB4.out);have HQ:=Za (HPS.o (by omega) w9 HL4.o);clear hsz hgt HPS;go_wp2_with fail
      refine HQ.o.mono ?_;rintro e wA ⟨hbA,hfA,qa,qc,ga,gc,rfl,hqa,hqf⟩;have GB5:=Za (GB4.out.trans (hbA.mono GB4.out.size));have hbD:Below wA.heap.size wA (wA.alloc (.cells #[.slice qa p.arrays.length qc,.slice ga p.funcs.length gc] 34)):=bA;have hbb:=hbA.trans (hbD.mono hbA.size);have GB6:=Za (GB5.out.trans (hbD.mono GB5.out.size));have GO6:=Za (GO4.out.old hbb);have HOP6:=Za (HOP4.o.old hbb);have HA6:=Za (HA4.o.old hbb);have HF6:=Za (Ze hbb HF4.o);have HOQ:=Za (Ae.new wA [.slice qa p.arrays.length qc,.slice ga p.funcs.length gc] 34);have hz:wA.heap.size<(wA.alloc (.cells #[.slice qa p.arrays.length qc,.slice ga p.funcs.length gc] 34)).heap.size:=by simp
      have HQA:=Za ((hqa.old hbD).mono (D':=(· <(wA.alloc (.cells #[.slice qa p.arrays.length qc,.slice ga p.funcs.length gc] 34)).heap.size)) (fun b hb=>Nat.lt_trans hb hz));have HQF:=Za ((Ze hbD hqf).mono (D':=(· <(wA.alloc (.cells #[.slice qa p.arrays.length qc,.slice ga p.funcs.length gc] 34)).heap.size)) (fun b hb=>Nat.lt_trans hb hz));clear hbA hfA hqa hqf hbD hbb hz HQ HL4 GB4 GO4 GB5 HOP4 HA4 HF4;go_upto_region 17 with(fail)
      generalize wA.alloc (.cells #[.slice qa p.arrays.length qc,.slice ga p.funcs.length gc] 34)=wB at*;generalize wA.heap.size=qb at*;have r0:=HOQ.o.at 0 _ rfl;have r1:=HOQ.o.at 1 _ rfl;have HL6:=Za (HL.o.old GB6.out);have HP2:=Za (HPR.o _ _ wB HL6.o HQA.o HQF.o);clear HPR;go_wp2_with fail
      refine HP2.o.mono ?_;rintro e wC ⟨rfl,hbC⟩;have GB7:=Za (GB6.out.trans (hbC.mono GB6.out.size));have GO7:=Za (GO6.out.old hbC);have HOP7:=Za (HOP6.o.old hbC);have HOQ7:=Za (HOQ.o.old hbC);have HA7:=Za (HA6.o.old hbC);have HF7:=Za (Ze hbC HF6.o);have HQA7:=Za ((HQA.o.old hbC).mono (D':=fun _=>True) (fun _ _=>trivial));have HQF7:=Za ((Ze hbC HQF.o).mono (D':=fun _=>True) (fun _ _=>trivial));clear hbC r0 r1 HP2 HL6 GB6 GO6 HOP6 HOQ HA6 HF6 HQA HQF;have q0:=HOP7.o.at 0 _ rfl;have q1:=HOP7.o.at 1 _ rfl;have r0:=HOQ7.o.at 0 _ rfl;have r1:=HOQ7.o.at 1 _ rfl;have HS:=Za (rH p p (fun _=>True) _ _ _ _ wC HA7.o HF7.o HQA7.o HQF7.o);clear HA7 HF7 HQA7 HQF7 HOP7 HOQ7;go_wp2_with fail
      refine HS.o.mono ?_;rw[(lI p p).2 rfl];rintro e wD ⟨rfl,hbD⟩;have GB8:=Za (GB7.out.trans (hbD.mono GB7.out.size));have GO8:=Za (GO7.out.old hbD);clear hbD HS q0 q1 r0 r1 GB7 GO7;go_wp2_with fail
      first
       |exact⟨⟨j+1,rfl,by omega,GB8,GO8⟩,by simp [intOf];omega⟩
       |exact⟨⟨_,⟨j+1,rfl,by omega,GB8,GO8⟩,rfl⟩,by simp [intOf];omega⟩
       |exact⟨⟨_,_,⟨j+1,rfl,by omega,GB8,GO8⟩,rfl,rfl⟩,by simp [intOf];omega⟩
     ·have hle:((S.size:Int)>20000):=by omega
      have hlt':((20000:Int)<(S.size:Int)):=by omega
      clear hsz hgt HPS HPR;go_wp2_with fail
      first
       |exact⟨⟨j+1,rfl,by omega,GB4,GO4⟩,by simp [intOf];omega⟩
       |exact⟨⟨_,⟨j+1,rfl,by omega,GB4,GO4⟩,rfl⟩,by simp [intOf];omega⟩
       |exact⟨⟨_,_,⟨j+1,rfl,by omega,GB4,GO4⟩,rfl,rfl⟩,by simp [intOf];omega⟩
   ·have h2I:(5000:Int)<(l.length:Int):=by omega
    go_wp2_with fail
    first
     |exact⟨⟨j+1,rfl,by omega,GB,GO⟩,by simp [intOf];omega⟩
     |exact⟨⟨_,⟨j+1,rfl,by omega,GB,GO⟩,rfl⟩,by simp [intOf];omega⟩
     |exact⟨⟨_,_,⟨j+1,rfl,by omega,GB,GO⟩,rfl,rfl⟩,by simp [intOf];omega⟩
  ·have hj3:j=3:=by omega
   subst hj3;go_wp2_with fail
   go_ret
   exact⟨rfl,GB.out⟩
end Go.Proofs.YtcfpfnoldgnloaaGreatDoor
namespace Go.Proofs.YtcfpfnoldgnloaaGreatDoor.wParseForth
open Go.ChangeShapes Go.WideShapes Go.ChangeAt Go.RowKit
set_option maxRecDepth 100000
theorem own:ownKnob Tryz.prog.godebug=none:=by kernel_rfl
theorem Xo(H:Type)(enc:TypeId ×Value→H)(W:World)(base:Nat)(args:Array Value)(ds gs:List (DataW H))(before:List MemPlace)
  (hval:∀(j:Nat) t v,Tryz.f7.params[j]? =some t→args[j]? =some v→Value.okWide Tryz.prog W .any base t v)
  (hW:DataW.Whole enc Tryz.prog Tryz.f7.params.toList Rows.parseForthSpec.vars false W args.toList ds gs before) (hsz:(DataW.weightsEach Tryz.prog (Tryz.f7.params.toList++(OpenSpec.ofChange Rows.parseForthSpec).bare.plain.varTypes Tryz.prog) (ds++gs)).all (· ≤reachBytes)=true) (hL:laidMetH Tryz.prog Rows.parseForthRow.laid W) (hsh:W.ShapedOpen Tryz.prog):
  Calls Tryz.prog 7 args W fun e W'=> ∃v,e=.returned v∧Rows.parseForthSpec.post enc Tryz.prog Tryz.f7 false true false false W args v W':=by
 have hT:=zlib_of hL hsh;have hW':=hW;obtain⟨p,q,hA0,hV,rfl,hfz,hnd⟩:=hW;have hA:DataW.TrodAll enc Tryz.prog W 0 (fun _=>true) true Tryz.f7.params.toList args.toList ds p:=hA0;rw[Tryz.params7]at hA hval hsz;obtain⟨x0,vs0,d0,ds0,p0,q0,hargs,rfl,rfl,h0,r0⟩:=trodAll_cons hA;obtain⟨x1,vs1,d1,ds1,p1,q1,e1,rfl,rfl,h1,r1⟩:=trodAll_cons r0;obtain⟨x2,vs2,d2,ds2,p2,q2,e2,rfl,rfl,h2,r2⟩:=trodAll_cons r1;obtain⟨x3,vs3,d3,ds3,p3,q3,e3,rfl,rfl,h3,r3⟩:=trodAll_cons r2;obtain⟨rfl,rfl,rfl⟩:=trodAll_nil r3;subst e1;subst e2;subst e3;obtain rfl:args= #[x0,x1,x2,x3]:=by cases args;simp_all
 obtain⟨rfl,rfl⟩:=trodVars_none hV;obtain⟨raw0,hx0,hraw0⟩:=aZ (hval 0 9 x0 rfl rfl) h0;obtain⟨raw1,hraw1,again1⟩:=tX (hval 1 38 x1 rfl rfl) h1;obtain⟨raw2,hx2,hraw2⟩:=cI (hval 2 3 x2 rfl rfl) h2;subst hx2;obtain⟨raw3,hx3,hraw3⟩:=aZ (hval 3 9 x3 rfl rfl) h3;subst hx0;subst hraw0;have hsl0:raw0.length≤140737488355328:=Nat.le_trans (sized_string hsz (j:=0) (t:=9) rfl rfl) (by decide);subst hx3;subst hraw3;have hsl3:raw3.length≤140737488355328:=Nat.le_trans (sized_string hsz (j:=3) (t:=9) rfl rfl) (by decide);clear hA0;refine(kF raw0 raw1 x1 raw2 raw3 hraw2 hsl0 hsl3 W hraw1 hT).mono fun e W' ⟨he,hb⟩=>?_
 subst he;exact⟨_,rfl,lE (pa:=(p0++(p1++(p2++(p3++[]))))) (pv:=[]) hW' (fun _ _ _=>trodAll_cons_mk (shut_bool Tryz.underlying4 _) trodAll_mk0) (fun sp hsp=>trodAll_cons_mk (kI (by kernel_rfl) (of_decide_eq_true (by kernel_rfl)) h0 hb sp (fun q hq=>hsp q (by simp [hq]))) (trodAll_cons_mk (again1 W' sp true hb (fun q hq=>hsp q (by simp [hq]))) (trodAll_cons_mk (kI (by kernel_rfl) (of_decide_eq_true (by kernel_rfl)) h2 hb sp (fun q hq=>hsp q (by simp [hq]))) (trodAll_cons_mk (kI (by kernel_rfl) (of_decide_eq_true (by kernel_rfl)) h3 hb sp (fun q hq=>hsp q (by simp [hq]))) (trodAll_mk0))))) (fun _ _=>rfl) rfl
  hb (ok_one (by kernel_rfl) rfl (okWide_bool_mk Tryz.underlying4 _))⟩
def tab1:DataW Unit→List Value
 |.lit (.int k n)=>[.int k n]
 |.agg l=>l.map fun|.lit (.int k n)=>Value.int k n|_=>undef
 |_=>[undef]
def vA:DataW Unit→Array Value
 |.agg l=>(l.flatMap tab1).toArray
 |_=> #[]
def Vo:DataW Unit→Value
 |.iface _ (.ptr (.agg [.lit (.string b)]))=>.string ⟨b.toArray⟩
 |_=>undef
noncomputable def lowB:Nat:=(World.holding Tryz.prog default ⟨#[],#[],[]⟩).heap.size
noncomputable def Th (os:Os):World:=
 let h0:=(World.holding Tryz.prog os ⟨#[.cells #[Vo Rows.laid_strconv_ErrRange] 234,.cells #[Vo Rows.laid_strconv_ErrSyntax] 234],#[],[]⟩).heap
 let lay (g:Nat) (d:DataW Unit) (h:Array Obj):Array Obj:=h.modify g fun
  |.cells _ t frozen=>.cells (vA d) t frozen
  |o=>o
 let err (g:Nat) (b:Nat) (h:Array Obj):Array Obj:=h.modify g fun
  |.cells _ t frozen=>.cells #[.iface 232 (.pointer (some ⟨b,0,none⟩))] t frozen
  |o=>o
 {World.holding Tryz.prog os ⟨#[.cells #[Vo Rows.laid_strconv_ErrRange] 234,.cells #[Vo Rows.laid_strconv_ErrSyntax] 234],#[],[]⟩with heap:=lay 6 Rows.laid_math_bits_deBruijn32tab (lay 7 Rows.laid_math_bits_deBruijn64tab (lay 3 Rows.laid_internal_strconv_uint64pow10 (lay 2 Rows.laid_unicode_utf8_acceptRanges (lay 1 Rows.laid_unicode_utf8_first (err 5 lowB (err 4 (lowB+1) h0))))))}
theorem tS(os:Os):laidMet Tryz.prog Rows.parseForthRow.laid ((Th os).forCall (fun _ _=>0) ⟨#[],#[.string ⟨#[]⟩,.slice none 0 0,.int .i64 0,.string ⟨#[]⟩],[]⟩).memory:=
 laidMet_of_run' 8 (by kernel_rfl) (by kernel_rfl)
theorem reads(os:Os){H:Type}(enc:TypeId ×Value→H):∃places,DataW.whole enc Tryz.prog ((Th os).forCall (fun _ _=>0) ⟨#[],#[.string ⟨#[]⟩,.slice none 0 0,.int .i64 0,.string ⟨#[]⟩],[]⟩).memory Tryz.f7.params.toList Rows.parseForthSpec.vars false ((#[.string ⟨#[]⟩,.slice none 0 0,.int .i64 0,.string ⟨#[]⟩]:Array Value).toList) 8=some ([.lit (.string []),.nil,.lit (.int .i64 0),.lit (.string [])],[],places):=
 ⟨[],by kernel_rfl⟩
theorem lifted(os:Os)(started:os.Started)(H:Type)(enc:TypeId ×Value→H)(F:Stop.Interp):
  ReturnsInHanded {} Tryz.checked os 7 .any ((OpenSpec.ofChange Rows.parseForthSpec).preRow enc Tryz.prog Tryz.f7 Rows.parseForthRow.domain false Rows.parseForthRow.laid) (((OpenSpec.ofChange Rows.parseForthSpec).at F).post enc Tryz.prog Tryz.f7 false true false false):=by
 obtain⟨places,hx⟩:=reads os enc;refine returnsInHanded_of_row (C:=Tryz.checked) (s:=OpenSpec.ofChange Rows.parseForthSpec) own started (by kernel_rfl) Tryz.func7
  (witness_row_at (enc:=enc) (C:=Tryz.checked) false (Th os) #[.string ⟨#[]⟩,.slice none 0 0,.int .i64 0,.string ⟨#[]⟩] rfl (by kernel_rfl) (by kernel_rfl) (by kernel_rfl)
   (OpenSpec.preRow_of_cond 8 hx (by kernel_rfl) (fun k hk=>by cases hk) (by kernel_rfl) (tS os))) ?_
 intro W base args ds gs before hval hW _ _ hsz hL hsh _;exact Xo H enc W base args ds gs before hval hW hsz hL hsh
theorem said:Rows.ParseForthSaid:=
 OpenClaim.holds_of_cond 7 Tryz.f7 rfl rfl rfl rfl rfl rfl rfl ⟨rfl,rfl,rfl,rfl,rfl⟩ rfl rfl rfl rfl rfl (by kernel_rfl) Tryz.func7 (by kernel_rfl)
  (of_decide_eq_true (by kernel_rfl)) (by unfold Func.isWrapper;first|(rw[if_pos (by decide+kernel)];kernel_rfl)|(rw[if_neg (by decide+kernel)];exact⟨rfl,rfl⟩))
  (fun os started H enc _ F=>by rw[OpenClaim.pre_eq_preRow];exact lifted os started H enc F)
theorem plain(f:FuncId)(fn:Func)(hf:Tryz.pinned.checked.prog.funcNamed "counterproof/counterprooflaw04.ParseForth" =some f)(hfn:Tryz.pinned.checked.prog.funcs[f]? =some fn):
  true=Tryz.pinned.checked.prog.looks []∧∀(j:Nat) t,fn.params[j]? =some t→Tryz.pinned.checked.prog.wantsStandIn t=false:=by
 obtain rfl:f=7:=Option.some.inj ((show Tryz.prog.funcNamed "counterproof/counterprooflaw04.ParseForth" =some 7 by kernel_rfl).symm.trans hf)|>.symm;obtain rfl:fn=Tryz.f7:=(Option.some.inj (Tryz.func7.symm.trans hfn)).symm;refine⟨by kernel_rfl,fun j t ht=>?_⟩;rw[Tryz.params7]at ht;have hm:=Array.mem_of_getElem? ht;simp only[List.mem_toArray,List.mem_cons,List.not_mem_nil,or_false]at hm;rcases hm with rfl|rfl|rfl|rfl
 ·exact(show Tryz.prog.wantsStandIn 9=false by kernel_rfl)
 ·exact(show Tryz.prog.wantsStandIn 38=false by kernel_rfl)
 ·exact(show Tryz.prog.wantsStandIn 3=false by kernel_rfl)
 ·exact(show Tryz.prog.wantsStandIn 9=false by kernel_rfl)
end Go.Proofs.YtcfpfnoldgnloaaGreatDoor.wParseForth
namespace Go.Proofs.YtcfpfnoldgnloaaGreatDoor
theorem parseForth_card:Rows.ParseForthCardSaid:=
 Claim7.holds_tied_plain_at .later [] _ _ _ _ wParseForth.said (fun _ h=>by cases h) (by kernel_rfl) (fun _ h=>by cases h) parseForth_row_tie rfl ⟨rfl,rfl⟩ (by kernel_rfl) rfl wParseForth.plain (by kernel_rfl)
#print axioms parseForth_card
end Go.Proofs.YtcfpfnoldgnloaaGreatDoor
