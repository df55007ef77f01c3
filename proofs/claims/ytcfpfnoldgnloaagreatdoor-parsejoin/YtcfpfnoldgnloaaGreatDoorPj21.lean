/-
  ParseJoin: for every input the law returns true, and its arguments read afterwards as before: the row, the card. Condition: the tables that the row lists are laid as the program's text lays them.
-/
import Derived.Test.YtcfpfnoldgnloaaGreatDoorPj20
import Derived.Test.YtcfpfnoldgnloaaGreatDoorPj11
import Derived.Test.YtcfpfnoldgnloaaGreatDoorCards
import Derived.Test.YtcfpfnoldgnloaaGreatDoorTie
set_option linter.unusedVariables false
set_option linter.unusedSimpArgs false
namespace Go.Proofs.YtcfpfnoldgnloaaGreatDoor
open Go.RowKit Go.Proofs.Tryz
set_option maxHeartbeats 20000000
set_option maxRecDepth 100000
open Go.Lib renaming hid→Za
open Go.Proofs.Tryz renaming prog→Zb
open Below renaming refl→Zc
open World renaming cell?_alloc_lt→Zd
open Bc renaming old→Ze
open Bp renaming old→Zf
open Nat renaming zero_le→Zg,lt_succ_iff_lt_or_eq→Zh
open List renaming length_append→Zi
def Nw(a:Ex):Prop:= ∀(b:Ex) (D:Nat→Prop) (sa sb:Value) (w:World),Ag D w a.args sa→Ag D w b.args sb→
 Calls Zb 117 #[exV a sa,exV b sb] w fun e w'=>e=.returned (.bool (Io a b))∧Below w.heap.size w w'
theorem Vb(la:List Ex)(ih:∀x,x∈la→Nw x)(lb:List Ex)(D:Nat→Prop)(va vb:Value)(w:World)(ha:Ag D w la va)(hb:Ag D w lb vb):
  Calls Zb 116 #[va,vb,.func (.func 117) #[] #[]] w fun e w'=>e=.returned (.bool (Cg Io la lb))∧Below w.heap.size w w':=by
 obtain⟨a1,a2,rfl⟩:=ha.shape;obtain⟨b1,b2,rfl⟩:=hb.shape;have l63:=ha.fits.lt;have m63:=hb.fits.lt
 by_cases hl:lb.length=la.length
 ·rw[hl]at hb ⊢
  have HA:=Za ha;have HB:=Za hb;have IH:=Za ih;have HL:=Za hl;clear ha hb ih hl m63;go_enter func116,ntmps116
  go_wp2_with fail
  go_loopw [7,8,9,17] (fun _ _ _ s17 wr=> ∃k:Nat,k≤la.length∧s17=.int .i64 k∧(∀i,i<k→Io (la.getD i Ex.nil) (lb.getD i Ex.nil)=true)∧Below w.heap.size w wr) (fun _ _ _ s17 _=>la.length-(intOf s17).toNat)
  case atStart=>exact⟨0,Zg _,rfl,fun i hi=>by omega,Zc _ _⟩
  case round=>
   obtain⟨k,hk,rfl,hno,hb⟩:=hrel;have HNO:=Za hno;have HBW:=Za hb;have hsz:=hb.size;clear hno hb
   by_cases hlt:k<la.length
   ·obtain⟨xab,xao,xas,rfl,xaD,a0,a1,a2,a3,a4,ah,an⟩:=Ag.cellAt (Ag.old HBW.o HA.o) k hlt
    obtain⟨xbb,xbo,xbs,rfl,xbD,b0,b1,b2,b3,b4,bh,bn⟩:=Ag.cellAt (Ag.old HBW.o HB.o) k (by rw[HL.o];exact hlt);obtain⟨a5,a6,rfl⟩:=ah.shape;obtain⟨b5,b6,rfl⟩:=bh.shape;have al:=World.block_lt_of_cell? _ _ a0;have bl:=World.block_lt_of_cell? _ _ b0;have HAH:=Za ah;have HBH:=Za bh;clear ah bh an bn xaD xbD;have IHX:=Za (IH.out _ (Cy hlt));have HKL:=Za hlt;generalize hxe:Ca la k=xa at*;generalize hye:Ca lb k=xb at*;have HXE:=Za hxe;have HYE:=Za hye;clear hxe hye;generalize hxa:Io xa xb=q;have HXA:Hid (Io (Ca la k) (Ca lb k)=q):=by show _=_;rw[HXE.o,HYE.o];exact hxa
    have HXB:=Za hxa;clear hxa;have hww:Below wr.heap.size wr ((wr.alloc (.cells #[.int .i64 xa.kind,.int .i64 xa.op,.int .i64 xa.n,.string (Aa xa.name),.slice a5 xa.args.length a6] 27)).alloc (.cells #[.int .i64 xb.kind,.int .i64 xb.op,.int .i64 xb.n,.string (Aa xb.name),.slice b5 xb.args.length b6] 27)):=(bA).alloc (by simp) _;have HAH2:=Za (HAH.o.old hww);have HBH2:=Za (HBH.o.old hww);have HWW:=Za (HBW.o.trans (hww.mono hsz));clear hww;go_wp2_with fail
    refine(IHX.out _ D _ _ _ HAH2.o HBH2.o).mono ?_;rw[HXB.o]
    cases q
    ·rintro r w2 ⟨rfl,hb2⟩
     have HB2:=Za (HWW.o.trans (hb2.mono (by simp;omega)));clear hb2 a0 a1 a2 a3 a4 b0 b1 b2 b3 b4;go_wp2_with fail
     go_ret
     exact⟨Au (Hs Io Ex.nil la lb k HL.o.symm HKL.o HXA.o).symm,HB2.o⟩
    ·rintro r w2 ⟨rfl,hb2⟩
     have HB2:=Za (HWW.o.trans (hb2.mono (by simp;omega)));clear hb2 a0 a1 a2 a3 a4 b0 b1 b2 b3 b4;go_wp2_with fail
     go_roundw
     case rel=>exact⟨k+1,by omega,by go_num,fun i hi=>by rcases Zh.1 hi with h|rfl;exact HNO.o i h;exact HXA.o,HB2.o⟩
     case measure=>simp [intOf];omega
   ·go_wp2_with fail
    go_ret
    exact⟨Au (Iu Io Ex.nil la lb HL.o.symm (fun i hi=>HNO.o i (by omega))).symm,HBW.o⟩
 ·have hne:((la.length:Int) !=(lb.length:Int))=true:=by rw[bne_iff_ne];omega
  have E:Hid (Cg Io la lb=false):=Kc _ _ _ (by omega);clear ha hb ih hl;go_enter func116,ntmps116
  go_wp2_with fail
  go_ret
  exact⟨Au E.out.symm,Zc _ _⟩
theorem Xt(a:Ex)(ih:∀x,x∈a.args→Nw x):Nw a:=by
 intro b D sa sb w ha hb;obtain⟨a1,a2,rfl⟩:=ha.shape;obtain⟨b1,b2,rfl⟩:=hb.shape;have EQ:=Za (Vb a.args ih);obtain⟨k,o,n,nm,us⟩:=a;obtain⟨k',o',n',nm',bs⟩:=b;have HA:=Za ha;have HB:=Za hb;have E:Hid (Io (.mk k o n nm us) (.mk k' o' n' nm' bs)=(k==k' && o==o' && n==n' && nm==nm' && Cg Io us bs)):=by show _=_;rw[Io,Nx]
 clear ha hb ih;show Calls _ _ #[.agg #[.int .i64 k,.int .i64 o,.int .i64 n,.string (Aa nm),.slice a1 us.length a2],.agg #[.int .i64 k',.int .i64 o',.int .i64 n',.string (Aa nm'),.slice b1 bs.length b2]] _ _
 rw[E.out];go_enter func117,ntmps117
 go_wp2_with fail
 ·refine(EQ.out bs D (.slice a1 us.length a2) (.slice b1 bs.length b2) _ ?h1 ?h2).mono ?_
  case h1=>exact Ag.old ((bA).alloc (by simp) _) HA.o
  case h2=>exact Ag.old ((bA).alloc (by simp) _) HB.o
  rintro r w1 ⟨rfl,hb⟩;go_wp2_with fail
  go_ret
  exact⟨Au (by simp [*,Ex.args,St.args,St.thn,St.els]),((bA).alloc (by simp) _).trans (hb.mono (by simp;omega))⟩
 all_goals
  go_ret
  refine⟨Au ?_,(bA).alloc (by simp) _⟩;simp [*]
theorem Rr:∀(n:Nat) (e:Ex),SizeOf.sizeOf e≤n→Nw e
 |0,e,h=>by cases e;simp at h
 |n+1,e,h=>Xt e fun x hx=>Rr n x (by have:=Ex.size_lt hx;omega)
theorem dC(e:Ex):Nw e:=Rr _ e (Nat.le_refl _)
theorem oQ(la lb:List Ex)(D:Nat→Prop)(va vb:Value)(w:World)(ha:Ag D w la va)(hb:Ag D w lb vb):
  Calls Zb 116 #[va,vb,.func (.func 117) #[] #[]] w fun e w'=>e=.returned (.bool (Gn la lb))∧Below w.heap.size w w':=by
 rw[Nx];exact Vb la (fun x _=>dC x) lb D va vb w ha hb
def Nt(x:St):Prop:= ∀(y:St) (D:Nat→Prop) (a t e a' t' e':Value) (w:World),Ag D w x.args a→As D w x.thn t→As D w x.els e→Ag D w y.args a'→As D w y.thn t'→As D w y.els e'→
 Calls Zb 56 #[stV x a t e,stV y a' t' e'] w fun e w'=>e=.returned (.bool (Fq x y))∧Below w.heap.size w w'
theorem Qm(la:List St)(ih:∀x,x∈la→Nt x)(lb:List St)(D:Nat→Prop)(va vb:Value)(w:World)(ha:As D w la va)(hb:As D w lb vb):
  Calls Zb 55 #[va,vb,.func (.func 56) #[] #[]] w fun e w'=>e=.returned (.bool (Cg Fq la lb))∧Below w.heap.size w w':=by
 obtain⟨a1,a2,rfl⟩:=ha.shape;obtain⟨b1,b2,rfl⟩:=hb.shape;have l63:=ha.fits.lt;have m63:=hb.fits.lt
 by_cases hl:lb.length=la.length
 ·rw[hl]at hb ⊢
  have HA:=Za ha;have HB:=Za hb;have IH:=Za ih;have HL:=Za hl;clear ha hb ih hl m63;go_enter func55,ntmps55
  go_wp2_with fail
  go_loopw [7,8,9,17] (fun _ _ _ s17 wr=> ∃k:Nat,k≤la.length∧s17=.int .i64 k∧(∀i,i<k→Fq (la.getD i St.nil) (lb.getD i St.nil)=true)∧Below w.heap.size w wr) (fun _ _ _ s17 _=>la.length-(intOf s17).toNat)
  case atStart=>exact⟨0,Zg _,rfl,fun i hi=>by omega,Zc _ _⟩
  case round=>
   obtain⟨k,hk,rfl,hno,hb⟩:=hrel;have HNO:=Za hno;have HBW:=Za hb;have hsz:=hb.size;clear hno hb
   by_cases hlt:k<la.length
   ·obtain⟨xab,xao,a7,a8,a9,rfl,xaD,al,a0,a1,a2,a3,a4,ah,at',ae⟩:=As.cellAt (As.old HBW.o HA.o) k hlt
    obtain⟨xbb,xbo,b7,b8,b9,rfl,xbD,bl,b0,b1,b2,b3,b4,bh,bt,be⟩:=As.cellAt (As.old HBW.o HB.o) k (by rw[HL.o];exact hlt);obtain⟨a51,a52,rfl⟩:=ah.shape;obtain⟨b51,b52,rfl⟩:=bh.shape;obtain⟨a61,a62,rfl⟩:=As.shape at';obtain⟨b61,b62,rfl⟩:=As.shape bt;obtain⟨a71,a72,rfl⟩:=As.shape ae;obtain⟨b71,b72,rfl⟩:=As.shape be;have HAH:=Za ah;have HBH:=Za bh;have HAT:=Za at';have HBT:=Za bt;have HAE:=Za ae;have HBE:=Za be;clear ah bh at' bt ae be xaD xbD;have IHX:=Za (IH.out _ (We hlt));have HKL:=Za hlt;generalize hxe:Ho la k=xa at*;generalize hye:Ho lb k=xb at*;have HXE:=Za hxe;have HYE:=Za hye;clear hxe hye;generalize hxa:Fq xa xb=q;have HXA:Hid (Fq (Ho la k) (Ho lb k)=q):=by show _=_;rw[HXE.o,HYE.o];exact hxa
    have HXB:=Za hxa;clear hxa;have hww:Below wr.heap.size wr ((wr.alloc (.cells #[.int .i64 xa.kind,.string (Aa xa.name),.slice a51 xa.args.length a52,.slice a61 xa.thn.length a62,.slice a71 xa.els.length a72] 60)).alloc (.cells #[.int .i64 xb.kind,.string (Aa xb.name),.slice b51 xb.args.length b52,.slice b61 xb.thn.length b62,.slice b71 xb.els.length b72] 60)):=(bA).alloc (by simp) _;have HAH2:=Za (HAH.o.old hww);have HBH2:=Za (HBH.o.old hww);have HAT2:=Za (HAT.o.old hww);have HBT2:=Za (HBT.o.old hww);have HAE2:=Za (HAE.o.old hww);have HBE2:=Za (HBE.o.old hww);have HWW:=Za (HBW.o.trans (hww.mono hsz));clear hww;go_wp2_with fail
    refine(IHX.out _ D _ _ _ _ _ _ _ HAH2.o HAT2.o HAE2.o HBH2.o HBT2.o HBE2.o).mono ?_;rw[HXB.o]
    cases q
    ·rintro r w2 ⟨rfl,hb2⟩
     have HB2:=Za (HWW.o.trans (hb2.mono (by simp;omega)));clear hb2 a0 a1 a2 a3 a4 b0 b1 b2 b3 b4;go_wp2_with fail
     go_ret
     exact⟨Au (Hs Fq St.nil la lb k HL.o.symm HKL.o HXA.o).symm,HB2.o⟩
    ·rintro r w2 ⟨rfl,hb2⟩
     have HB2:=Za (HWW.o.trans (hb2.mono (by simp;omega)));clear hb2 a0 a1 a2 a3 a4 b0 b1 b2 b3 b4;go_wp2_with fail
     go_roundw
     case rel=>exact⟨k+1,by omega,by go_num,fun i hi=>by rcases Zh.1 hi with h|rfl;exact HNO.o i h;exact HXA.o,HB2.o⟩
     case measure=>simp [intOf];omega
   ·go_wp2_with fail
    go_ret
    exact⟨Au (Iu Fq St.nil la lb HL.o.symm (fun i hi=>HNO.o i (by omega))).symm,HBW.o⟩
 ·have hne:((la.length:Int) !=(lb.length:Int))=true:=by rw[bne_iff_ne];omega
  have E:Hid (Cg Fq la lb=false):=Kc _ _ _ (by omega);clear ha hb ih hl;go_enter func55,ntmps55
  go_wp2_with fail
  go_ret
  exact⟨Au E.out.symm,Zc _ _⟩
theorem Ye(x:St)(iht:∀y,y∈x.thn→Nt y)(ihe:∀y,y∈x.els→Nt y):Nt x:=by
 intro y D sa st se sb ut ue w ha ht he hb ht' he';obtain⟨a1,a2,rfl⟩:=ha.shape;obtain⟨t1,t2,rfl⟩:=ht.shape;obtain⟨e1,e2,rfl⟩:=he.shape;obtain⟨b1,b2,rfl⟩:=hb.shape;obtain⟨u1,u2,rfl⟩:=ht'.shape;obtain⟨v1,v2,rfl⟩:=he'.shape;have EQT:=Za (Qm x.thn iht);have EQE:=Za (Qm x.els ihe);obtain⟨k,nm,us,tt,ee⟩:=x;obtain⟨k',nm',vs,tt',ee'⟩:=y;have HA:=Za ha;have HT:=Za ht;have HE:=Za he;have HA':=Za hb;have HT':=Za ht';have HE':=Za he';have E:Hid (Fq (.mk k nm us tt ee) (.mk k' nm' vs tt' ee')=(k==k' && nm==nm' && Gn us vs && Cg Fq tt tt' && Cg Fq ee ee')):=by show _=_;rw[Fq,Lz,Lz]
 clear ha ht he hb ht' he' iht ihe;show Calls _ _ #[.agg #[.int .i64 k,.string (Aa nm),.slice a1 us.length a2,.slice t1 tt.length t2,.slice e1 ee.length e2],.agg #[.int .i64 k',.string (Aa nm'),.slice b1 vs.length b2,.slice u1 tt'.length u2,.slice v1 ee'.length v2]] _ _
 rw[E.out];go_enter func56,ntmps56
 go_wp2_with fail
 ·have HBW:=Za (((Zc w.heap.size w).alloc (Nat.le_refl _) (.cells #[.int .i64 k',.string (Aa nm'),.slice a1 us.length a2,.slice t1 tt.length t2,.slice e1 ee.length e2] 60)).alloc (by simp) (.cells #[.int .i64 k',.string (Aa nm'),.slice b1 vs.length b2,.slice u1 tt'.length u2,.slice v1 ee'.length v2] 60))
  refine(oQ us vs D (.slice a1 us.length a2) (.slice b1 vs.length b2) _ ?h1 ?h2).mono ?_
  case h1=>exact Ag.old ((bA).alloc (by simp) _) HA.o
  case h2=>exact Ag.old ((bA).alloc (by simp) _) HA'.o
  rintro r w1 ⟨rfl,hb1⟩;have hz:w.heap.size+1<w1.heap.size:=by have:=hb1.size;simp at this;omega
  have g3:w1.cell? ⟨w.heap.size,3,none⟩=some (.slice t1 tt.length t2):=Ac hb1 (by simp [Zd]);have g4:w1.cell? ⟨w.heap.size,4,none⟩=some (.slice e1 ee.length e2):=Ac hb1 (by simp [Zd]);have k3:w1.cell? ⟨w.heap.size+1,3,none⟩=some (.slice u1 tt'.length u2):=Ac hb1 (by simp [Zd]);have k4:w1.cell? ⟨w.heap.size+1,4,none⟩=some (.slice v1 ee'.length v2):=Ac hb1 (by simp [Zd]);have hbw:Below w.heap.size w w1:=((bA).alloc (by simp) _).trans (hb1.mono (by simp;omega));have HBW1:=Za hbw;clear hb1 hbw HBW
  cases qa:Gn us vs
  ·have QA:=Za qa;clear qa
   go_wp2_with fail
   go_ret
   exact⟨Au (by simp [*,QA.out]),HBW1.o⟩
  have QA:=Za qa;clear qa;go_wp2_with fail
  refine(EQT.out tt' D (.slice t1 tt.length t2) (.slice u1 tt'.length u2) _ (HT.o.old HBW1.o) (HT'.o.old HBW1.o)).mono ?_;rintro r w2 ⟨rfl,hb2⟩;have l4:=Ac hb2 g4;have m4:=Ac hb2 k4;have HBW2:=Za (HBW1.o.trans (hb2.mono (by omega)));have hs2:=hb2.size;clear hb2 g3 g4 k3 k4;have ET:Cg Fq (St.mk k' nm' us tt ee).thn tt'=Cg Fq tt tt':=rfl
  first
   |rw[ET]
   |rw[show Cg Fq (St.mk k nm us tt ee).thn tt'=Cg Fq tt tt' from rfl]
  clear ET
  cases qt:Cg Fq tt tt'
  ·have QT:=Za qt;clear qt
   go_wp2_with fail
   go_ret
   exact⟨Au (by simp [*,QA.out,QT.out]),HBW2.o⟩
  have QT:=Za qt;clear qt;go_wp2_with fail
  refine(EQE.out ee' D (.slice e1 ee.length e2) (.slice v1 ee'.length v2) _ (HE.o.old HBW2.o) (HE'.o.old HBW2.o)).mono ?_;rintro r w3 ⟨rfl,hb3⟩;have HBW3:=Za (HBW2.o.trans (hb3.mono (by omega)));clear hb3 l4 m4;go_wp2_with fail
  go_ret
  exact⟨Au (by simp [*,QA.out,QT.out,St.els]),HBW3.o⟩
 all_goals
  go_ret
  refine⟨Au ?_,(bA).alloc (by simp) _⟩;simp [*]
theorem St.thn_lt {x y:St}(h:y∈x.thn):SizeOf.sizeOf y<SizeOf.sizeOf x:=by
 cases x with
 |mk k nm us t e=>have:=List.sizeOf_lt_of_mem (show y∈t from h);simp only[St.mk.sizeOf_spec];omega
theorem St.els_lt {x y:St}(h:y∈x.els):SizeOf.sizeOf y<SizeOf.sizeOf x:=by
 cases x with
 |mk k nm us t e=>have:=List.sizeOf_lt_of_mem (show y∈e from h);simp only[St.mk.sizeOf_spec];omega
theorem Mt:∀(n:Nat) (x:St),SizeOf.sizeOf x≤n→Nt x
 |0,x,h=>by cases x;simp at h
 |n+1,x,h=>Ye x (fun y hy=>Mt n y (by have:=St.thn_lt hy;omega)) (fun y hy=>Mt n y (by have:=St.els_lt hy;omega))
theorem pE(la lb:List St)(D:Nat→Prop)(va vb:Value)(w:World)(ha:As D w la va)(hb:As D w lb vb):
  Calls Zb 55 #[va,vb,.func (.func 56) #[] #[]] w fun e w'=>e=.returned (.bool (Gl la lb))∧Below w.heap.size w w':=by
 rw[Lz];exact Qm la (fun x _=>Mt _ x (Nat.le_refl _)) lb D va vb w ha hb
theorem Below.drewN' {n k:Nat}{w w1:World}(h:Below n w w1):Below n w (w1.drewN k):=⟨h.os,h.tape,h.output,h.size,h.block⟩
theorem Vh(la lb:List Bs)(D:Nat→Prop)(va vb:Value)(w:World)(ha:Bc D w la va)(hb:Bc D w lb vb):
  Calls Zb 54 #[va,vb] w fun e w'=>e=.returned (.bool (Hp la lb))∧Below w.heap.size w w':=by
 rw[Vn];obtain⟨a1,a2,rfl⟩:=ha.shape;obtain⟨b1,b2,rfl⟩:=hb.shape;have l63:=ha.fits.lt;have m63:=hb.fits.lt
 by_cases hl:lb.length=la.length
 ·rw[hl]at hb ⊢
  have HA:=Za ha;have HB:=Za hb;have HL:=Za hl;clear ha hb hl m63;go_enter func54,ntmps54
  go_wp2_with fail
  go_loopw [5,13] (fun _ s13 wr=> ∃k:Nat,k≤la.length∧s13=.int .i64 k∧(∀i,i<k→(la.getD i []==lb.getD i [])=true)∧Below w.heap.size w wr) (fun _ s13 _=>la.length-(intOf s13).toNat)
  case atStart=>exact⟨0,Zg _,rfl,fun i hi=>by omega,Zc _ _⟩
  case round=>
   obtain⟨k,hk,rfl,hno,hb⟩:=hrel;have HNO:=Za hno;have HBW:=Za hb;have hsz:=hb.size;clear hno hb
   by_cases hlt:k<la.length
   ·obtain⟨ab,ao,rfl,aD,al,ac⟩:=Ms (Ze HBW.o HA.o) k hlt
    obtain⟨bb,bo,rfl,bD,bl,bc⟩:=Ms (Ze HBW.o HB.o) k (by rw[HL.o];exact hlt);have HKL:=Za hlt;clear aD bD;generalize hxe:la.getD k []=xa at*;generalize hye:lb.getD k []=xb at*;have HXE:=Za hxe;have HYE:=Za hye;clear hxe hye
    cases q:(xa==xb)
    ·have HQ:=Za q
     go_wp2_with fail
     go_quiet (fail)
     go_wp2_with fail
     all_goals
      go_ret
      exact⟨Au (Hs (fun x y=>x==y) [] la lb k HL.o.symm HKL.o (by rw[HXE.o,HYE.o];exact HQ.o)).symm,Below.drewN' HBW.o⟩
    ·have hq:xa=xb:=by simpa using q
     subst hq;clear q;go_wp2_with fail
     go_quiet (fail)
     go_wp2_with fail
     go_roundw
     case rel=>exact⟨k+1,by omega,by go_num,fun i hi=>by rcases Zh.1 hi with h|rfl;exact HNO.o i h;rw[HXE.o,HYE.o];simp,Below.drewN' HBW.o⟩
     case measure=>simp [intOf];omega
   ·go_wp2_with fail
    go_ret
    exact⟨Au (Iu (fun x y=>x==y) [] la lb HL.o.symm (fun i hi=>HNO.o i (by omega))).symm,HBW.o⟩
 ·have hne:((la.length:Int) !=(lb.length:Int))=true:=by rw[bne_iff_ne];omega
  have E:Hid (Cg (fun x y=>x==y) la lb=false):=Kc _ _ _ (by omega);clear ha hb hl;go_enter func54,ntmps54
  go_wp2_with fail
  go_ret
  exact⟨Au E.out.symm,Zc _ _⟩
theorem mI(la lb:List Ar)(D:Nat→Prop)(va vb:Value)(w:World)(ha:Bv D w la va)(hb:Bv D w lb vb):
  Calls Zb 51 #[va,vb] w fun e w'=>e=.returned (.bool (Ha la lb))∧Below w.heap.size w w':=by
 rw[Tr];obtain⟨a1,a2,rfl⟩:=ha.shape;obtain⟨b1,b2,rfl⟩:=hb.shape;have l63:=ha.fits.lt;have m63:=hb.fits.lt
 by_cases hl:lb.length=la.length
 ·rw[hl]at hb ⊢
  have HA:=Za ha;have HB:=Za hb;have HL:=Za hl;clear ha hb hl m63;go_enter func51,ntmps51
  go_wp2_with fail
  go_loopw [5,13] (fun _ s13 wr=> ∃k:Nat,k≤la.length∧s13=.int .i64 k∧(∀i,i<k→Ks (la.getD i Ar.nil) (lb.getD i Ar.nil)=true)∧Below w.heap.size w wr) (fun _ s13 _=>la.length-(intOf s13).toNat)
  case atStart=>exact⟨0,Zg _,rfl,fun i hi=>by omega,Zc _ _⟩
  case round=>
   obtain⟨k,hk,rfl,hno,hb⟩:=hrel;have HNO:=Za hno;have HBW:=Za hb;have hsz:=hb.size;clear hno hb
   by_cases hlt:k<la.length
   ·obtain⟨ab,ao,rfl,aD,al,a0,a1⟩:=Bv.cellAt (Bv.old HBW.o HA.o) k hlt
    obtain⟨bb,bo,rfl,bD,bl,b0,b1⟩:=Bv.cellAt (Bv.old HBW.o HB.o) k (by rw[HL.o];exact hlt);have HKL:=Za hlt;clear aD bD;generalize hxe:Kt la k=xa at*;generalize hye:Kt lb k=xb at*;have HXE:=Za hxe;have HYE:=Za hye;clear hxe hye;obtain⟨n1,s1⟩:=xa;obtain⟨n2,s2⟩:=xb;dsimp only at a0 a1 b0 b1
    cases q:(n1==n2)<;>cases q2:(s1==s2)
    case true.true=>
     have hq:n1=n2:=by simpa using q
     have hq2:s1=s2:=by simpa using q2
     subst hq hq2;clear q q2;go_wp2_with fail
     go_quiet (fail)
     go_wp2_with fail
     go_roundw
     case rel=>exact⟨k+1,by omega,by go_num,fun i hi=>by rcases Zh.1 hi with h|rfl;exact HNO.o i h;(show Ks (Kt la _) (Kt lb _)=true;rw[HXE.o,HYE.o];simp [Ks]),Below.drewN' HBW.o⟩
     case measure=>simp [intOf];omega
    all_goals
     have HQ:Hid (Ks (Kt la k) (Kt lb k)=false):=by show _=_;rw[HXE.o,HYE.o];simp [Ks,q,q2]
     go_wp2_with fail
     go_quiet (fail)
     go_wp2_with fail
     all_goals
      go_ret
      exact⟨Au (Hs Ks Ar.nil la lb k HL.o.symm HKL.o HQ.o).symm,Below.drewN' HBW.o⟩
   ·go_wp2_with fail
    go_ret
    exact⟨Au (Iu Ks Ar.nil la lb HL.o.symm (fun i hi=>HNO.o i (by omega))).symm,HBW.o⟩
 ·have hne:((la.length:Int) !=(lb.length:Int))=true:=by rw[bne_iff_ne];omega
  have E:Hid (Cg Ks la lb=false):=Kc _ _ _ (by omega);clear ha hb hl;go_enter func51,ntmps51
  go_wp2_with fail
  go_ret
  exact⟨Au E.out.symm,Zc _ _⟩
def fQ(x:Fu):Prop:= ∀(y:Fu) (D:Nat→Prop) (a t e a' t' e':Value) (w:World),Bc D w x.params a→Bc D w x.locals t→As D w x.body e→Bc D w y.params a'→Bc D w y.locals t'→As D w y.body e'→
 Calls Zb 53 #[fuV x a t e,fuV y a' t' e'] w fun e w'=>e=.returned (.bool (Ir x y))∧Below w.heap.size w w'
theorem kS(x:Fu):fQ x:=by
 intro y D sa st se sb ut ue w ha ht he hb ht' he';obtain⟨a1,a2,rfl⟩:=ha.shape;obtain⟨t1,t2,rfl⟩:=ht.shape;obtain⟨e1,e2,rfl⟩:=he.shape;obtain⟨b1,b2,rfl⟩:=hb.shape;obtain⟨u1,u2,rfl⟩:=ht'.shape;obtain⟨v1,v2,rfl⟩:=he'.shape;obtain⟨nm,us,tt,ee⟩:=x;obtain⟨nm',vs,tt',ee'⟩:=y;have HA:=Za ha;have HT:=Za ht;have HE:=Za he;have HA':=Za hb;have HT':=Za ht';have HE':=Za he';have E:Hid (Ir ⟨nm,us,tt,ee⟩ ⟨nm',vs,tt',ee'⟩=(nm==nm' && Hp us vs && Hp tt tt' && Gl ee ee')):=by show _=_;unfold Ir;rfl
 clear ha ht he hb ht' he';show Calls _ _ #[.agg #[.string (Aa nm),.slice a1 us.length a2,.slice t1 tt.length t2,.slice e1 ee.length e2],.agg #[.string (Aa nm'),.slice b1 vs.length b2,.slice u1 tt'.length u2,.slice v1 ee'.length v2]] _ _
 rw[E.out];go_enter func53,ntmps53
 go_wp2_with fail
 ·refine(Vh us vs D (.slice a1 us.length a2) (.slice b1 vs.length b2) _ ?h1 ?h2).mono ?_
  case h1=>exact Ze ((bA).alloc (by simp) _) HA.o
  case h2=>exact Ze ((bA).alloc (by simp) _) HA'.o
  rintro r w1 ⟨rfl,hb1⟩;have hz:w.heap.size+1<w1.heap.size:=by have:=hb1.size;simp at this;omega
  have g3:w1.cell? ⟨w.heap.size,2,none⟩=some (.slice t1 tt.length t2):=Ac hb1 (by simp [Zd]);have g4:w1.cell? ⟨w.heap.size,3,none⟩=some (.slice e1 ee.length e2):=Ac hb1 (by simp [Zd]);have k3:w1.cell? ⟨w.heap.size+1,2,none⟩=some (.slice u1 tt'.length u2):=Ac hb1 (by simp [Zd]);have k4:w1.cell? ⟨w.heap.size+1,3,none⟩=some (.slice v1 ee'.length v2):=Ac hb1 (by simp [Zd]);have hbw:Below w.heap.size w w1:=((bA).alloc (by simp) _).trans (hb1.mono (by simp;omega));have HBW1:=Za hbw;clear hb1 hbw
  cases qa:Hp us vs
  ·have QA:=Za qa;clear qa
   go_wp2_with fail
   go_ret
   exact⟨Au (by simp [*,QA.out]),HBW1.o⟩
  have QA:=Za qa;clear qa;go_wp2_with fail
  refine(Vh tt tt' D (.slice t1 tt.length t2) (.slice u1 tt'.length u2) _ (Ze HBW1.o HT.o) (Ze HBW1.o HT'.o)).mono ?_;rintro r w2 ⟨rfl,hb2⟩;have l4:=Ac hb2 g4;have m4:=Ac hb2 k4;have HBW2:=Za (HBW1.o.trans (hb2.mono (by omega)));have hs2:=hb2.size;clear hb2 g3 g4 k3 k4
  cases qt:Hp tt tt'
  ·have QT:=Za qt;clear qt
   go_wp2_with fail
   go_ret
   exact⟨Au (by simp [*,QA.out,QT.out]),HBW2.o⟩
  have QT:=Za qt;clear qt;go_wp2_with fail
  refine(pE ee ee' D (.slice e1 ee.length e2) (.slice v1 ee'.length v2) _ (HE.o.old HBW2.o) (HE'.o.old HBW2.o)).mono ?_;rintro r w3 ⟨rfl,hb3⟩;have HBW3:=Za (HBW2.o.trans (hb3.mono (by omega)));clear hb3 l4 m4;go_wp2_with fail
  go_ret
  exact⟨Au (by simp [*,QA.out,QT.out]),HBW3.o⟩
 all_goals
  go_ret
  refine⟨Au ?_,(bA).alloc (by simp) _⟩;simp [*]
theorem jE(la:List Fu)(ih:∀x,x∈la→fQ x)(lb:List Fu)(D:Nat→Prop)(va vb:Value)(w:World)(ha:Bp D w la va)(hb:Bp D w lb vb):
  Calls Zb 52 #[va,vb,.func (.func 53) #[] #[]] w fun e w'=>e=.returned (.bool (Cg Ir la lb))∧Below w.heap.size w w':=by
 obtain⟨a1,a2,rfl⟩:=ha.shape;obtain⟨b1,b2,rfl⟩:=hb.shape;have l63:=ha.fits.lt;have m63:=hb.fits.lt
 by_cases hl:lb.length=la.length
 ·rw[hl]at hb ⊢
  have HA:=Za ha;have HB:=Za hb;have IH:=Za ih;have HL:=Za hl;clear ha hb ih hl m63;go_enter func52,ntmps52
  go_wp2_with fail
  go_loopw [7,8,9,17] (fun _ _ _ s17 wr=> ∃k:Nat,k≤la.length∧s17=.int .i64 k∧(∀i,i<k→Ir (la.getD i Fu.nil) (lb.getD i Fu.nil)=true)∧Below w.heap.size w wr) (fun _ _ _ s17 _=>la.length-(intOf s17).toNat)
  case atStart=>exact⟨0,Zg _,rfl,fun i hi=>by omega,Zc _ _⟩
  case round=>
   obtain⟨k,hk,rfl,hno,hb⟩:=hrel;have HNO:=Za hno;have HBW:=Za hb;have hsz:=hb.size;clear hno hb
   by_cases hlt:k<la.length
   ·obtain⟨xab,xao,a7,a8,a9,rfl,xaD,al,a0,a1,a2,a3,ap,av,ah⟩:=Bp.cellAt (Zf HBW.o HA.o) k hlt
    obtain⟨xbb,xbo,b7,b8,b9,rfl,xbD,bl,b0,b1,b2,b3,bp,bv,bh⟩:=Bp.cellAt (Zf HBW.o HB.o) k (by rw[HL.o];exact hlt);obtain⟨a51,a52,rfl⟩:=ap.shape;obtain⟨b51,b52,rfl⟩:=bp.shape;obtain⟨a61,a62,rfl⟩:=av.shape;obtain⟨b61,b62,rfl⟩:=bv.shape;obtain⟨a71,a72,rfl⟩:=ah.shape;obtain⟨b71,b72,rfl⟩:=bh.shape;have HAH:=Za ap;have HBH:=Za bp;have HAT:=Za av;have HBT:=Za bv;have HAE:=Za ah;have HBE:=Za bh;clear ap bp av bv ah bh xaD xbD;have IHX:=Za (IH.out _ (Rn hlt));have HKL:=Za hlt;generalize hxe:Dx la k=xa at*;generalize hye:Dx lb k=xb at*;have HXE:=Za hxe;have HYE:=Za hye;clear hxe hye;generalize hxa:Ir xa xb=q;have HXA:Hid (Ir (Dx la k) (Dx lb k)=q):=by show _=_;rw[HXE.o,HYE.o];exact hxa
    have HXB:=Za hxa;clear hxa;have hww:Below wr.heap.size wr ((wr.alloc (.cells #[.string (Aa xa.name),.slice a51 xa.params.length a52,.slice a61 xa.locals.length a62,.slice a71 xa.body.length a72] 58)).alloc (.cells #[.string (Aa xb.name),.slice b51 xb.params.length b52,.slice b61 xb.locals.length b62,.slice b71 xb.body.length b72] 58)):=(bA).alloc (by simp) _;have HAH2:=Za (Ze hww HAH.o);have HBH2:=Za (Ze hww HBH.o);have HAT2:=Za (Ze hww HAT.o);have HBT2:=Za (Ze hww HBT.o);have HAE2:=Za (HAE.o.old hww);have HBE2:=Za (HBE.o.old hww);have HWW:=Za (HBW.o.trans (hww.mono hsz));clear hww;go_wp2_with fail
    refine(IHX.out _ D _ _ _ _ _ _ _ HAH2.o HAT2.o HAE2.o HBH2.o HBT2.o HBE2.o).mono ?_;rw[HXB.o]
    cases q
    ·rintro r w2 ⟨rfl,hb2⟩
     have HB2:=Za (HWW.o.trans (hb2.mono (by simp;omega)));clear hb2 a0 a1 a2 a3 b0 b1 b2 b3;go_wp2_with fail
     go_ret
     exact⟨Au (Hs Ir Fu.nil la lb k HL.o.symm HKL.o HXA.o).symm,HB2.o⟩
    ·rintro r w2 ⟨rfl,hb2⟩
     have HB2:=Za (HWW.o.trans (hb2.mono (by simp;omega)));clear hb2 a0 a1 a2 a3 b0 b1 b2 b3;go_wp2_with fail
     go_roundw
     case rel=>exact⟨k+1,by omega,by go_num,fun i hi=>by rcases Zh.1 hi with h|rfl;exact HNO.o i h;exact HXA.o,HB2.o⟩
     case measure=>simp [intOf];omega
   ·go_wp2_with fail
    go_ret
    exact⟨Au (Iu Ir Fu.nil la lb HL.o.symm (fun i hi=>HNO.o i (by omega))).symm,HBW.o⟩
 ·have hne:((la.length:Int) !=(lb.length:Int))=true:=by rw[bne_iff_ne];omega
  have E:Hid (Cg Ir la lb=false):=Kc _ _ _ (by omega);clear ha hb ih hl;go_enter func52,ntmps52
  go_wp2_with fail
  go_ret
  exact⟨Au E.out.symm,Zc _ _⟩
theorem rQ(p q:Pr)(D:Nat→Prop)(sa sf ta tf:Value)(w:World)(ha:Bv D w p.arrays sa)(hf:Bp D w p.funcs sf)(ha':Bv D w q.arrays ta)(hf':Bp D w q.funcs tf):
  Calls Zb 25 #[.agg #[sa,sf],.agg #[ta,tf]] w fun r w'=>r=.returned (.bool (Vm p q))∧Below w.heap.size w w':=by
 obtain⟨a1,a2,rfl⟩:=ha.shape;obtain⟨f1,f2,rfl⟩:=hf.shape;obtain⟨b1,b2,rfl⟩:=ha'.shape;obtain⟨g1,g2,rfl⟩:=hf'.shape;have HA:=Za ha;have HF:=Za hf;have HA':=Za ha';have HF':=Za hf';have E:Hid (Vm p q=(Ha p.arrays q.arrays && Cg Ir p.funcs q.funcs)):=by show _=_;unfold Vm;rw[To]
 clear ha hf ha' hf';rw[E.out];go_enter func25,ntmps25
 go_wp2_with fail
 refine(mI p.arrays q.arrays D (.slice a1 p.arrays.length a2) (.slice b1 q.arrays.length b2) _ ?h1 ?h2).mono ?_
 case h1=>exact Bv.old ((bA).alloc (by simp) _) HA.o
 case h2=>exact Bv.old ((bA).alloc (by simp) _) HA'.o
 rintro r w1 ⟨rfl,hb1⟩;have hz:w.heap.size+1<w1.heap.size:=by have:=hb1.size;simp at this;omega
 have g3:w1.cell? ⟨w.heap.size,1,none⟩=some (.slice f1 p.funcs.length f2):=Ac hb1 (by simp [Zd]);have k3:w1.cell? ⟨w.heap.size+1,1,none⟩=some (.slice g1 q.funcs.length g2):=Ac hb1 (by simp [Zd]);have hbw:Below w.heap.size w w1:=((bA).alloc (by simp) _).trans (hb1.mono (by simp;omega));have HBW1:=Za hbw;clear hb1 hbw
 cases qa:Ha p.arrays q.arrays
 ·have QA:=Za qa;clear qa
  go_wp2_with fail
  go_ret
  exact⟨Au (by simp [QA.out]),HBW1.o⟩
 have QA:=Za qa;clear qa;go_wp2_with fail
 refine(jE p.funcs (fun x _=>kS x) q.funcs D (.slice f1 p.funcs.length f2) (.slice g1 q.funcs.length g2) _ (Zf HBW1.o HF.o) (Zf HBW1.o HF'.o)).mono ?_;rintro r w2 ⟨rfl,hb2⟩;have HBW2:=Za (HBW1.o.trans (hb2.mono (by omega)));clear hb2 g3 k3;go_wp2_with fail
 go_ret
 exact⟨Au (by simp [QA.out]),HBW2.o⟩
theorem qB {w3 w4:World}{p q:Pr}{n:Nat}{va vf ua uf v:Value}{ds es:List FuV}(hp:Jc w4 p n va vf ds)(hq:Jc w4 q n ua uf es)(hn:n≤w3.heap.size)(hrow:w4.ownsRow w3.heap.size 58 4 v (ds.length+es.length) (ds.flatMap Ci++es.flatMap Ci)){D:Nat→Prop}(hD:∀b,b<n→D b)(hv:∀k,v.ownBlock=some k→D k):Bp D w4 (Do p q).funcs v:=by
 have h1:w4.ownsRow w3.heap.size 58 4 v (ds++es).length ((ds++es).flatMap Ci):=by rw[Zi,List.flatMap_append];exact hrow
 have q:=rM h1 hv (fun x hx=>by
  rcases List.mem_append.1 hx with hx|hx
  ·exact(hp.lt x hx).mono (fun b hb _=>hD b hb.1)
  ·exact(hq.lt x hx).mono (fun b hb _=>hD b hb.1)) (show(ds++es).length≤140737488355328 by have:=hp.len;have:=hq.len;rw[Zi];omega)
 rw[List.map_append,hp.eq,hq.eq]at q;exact q
theorem Wo(a b:Bs):Aa a++Aa b=Aa (a++b):=by
 apply ByteArray.ext;simp [Aa]
theorem iB(l:Bs)(k:Nat)(h:k<l.length):Be (l.take (k+1))=Be (l.take k)+(if l[k]=10 then 1 else 0):=by
 rw[List.take_succ_eq_append_getElem h,Ld];congr 1
 unfold Be
 by_cases e:l[k]=10
 ·rw[if_pos e,e];rfl
 ·rw[if_neg e];simp [List.count_cons,e]
theorem jn_good {p q:Pr}{D:Nat→Prop}{w0:World}{vf uf:Value}(hp:Cx p=true)(hq:Cx q=true)(hf:Bp D w0 p.funcs vf)(hg:Bp D w0 q.funcs uf)(hlen:(Bi p++Bi (Cm q)).length≤20000)(w:World)(hl:Iz w):
  Calls Zb 14 #[.string (Aa (Bi p++Bi (Cm q)))] w fun e w'=>Below w.heap.size w w'∧∃aa ac fa fc,e=.returned (.tuple #[.agg #[.slice aa (Do p q).arrays.length ac,.slice fa (Do p q).funcs.length fc],.int .i64 0,.int .i64 0])∧Bv (fun _=>True) w' (Do p q).arrays (.slice aa (Do p q).arrays.length ac)∧Bp (fun _=>True) w' (Do p q).funcs (.slice fa (Do p q).funcs.length fc):=by
 rw[←pA]at hlen ⊢;refine(pr_good (Wc hp hq).1 (fun g hg'=>?_) hlen w hl).mono ?_
 ·rcases List.mem_append.1 (show g∈p.funcs++q.funcs from hg')with h|h
  ·exact hf.n64 g h
  ·exact hg.n64 g h
 ·rintro e w' ⟨hb,v,rfl,av,fv,rfl,ha,hf⟩
  have ha:Bv (w.heap.size≤ ·) w' (Do p q).arrays av:=ha;have hf:Bp (w.heap.size≤ ·) w' (Do p q).funcs fv:=hf;obtain⟨aa,ac,rfl⟩:=ha.yshape;obtain⟨fa,fc,rfl⟩:=hf.yshape;exact⟨hb,aa,ac,fa,fc,rfl,ha.mono (fun _ _=>trivial),hf.mono (fun _ _=>trivial)⟩
theorem jn_bad {q:Pr}{D:Nat→Prop}{w0:World}{uf:Value}(hr:Cx q=true)(hne:q.funcs≠[])(hg:Bp D w0 q.funcs uf)(hlen:(Bi (Cm q)++[105,110,116,32,97,91,49,93,59]).length≤20000)(w:World)(hl:Iz w):
  Calls Zb 14 #[.string (Aa (Bi (Cm q)++[105,110,116,32,97,91,49,93,59]))] w fun e w'=>Below w.heap.size w w'∧∃aa an ac fa fn fc,e=.returned (.tuple #[.agg #[.slice aa an ac,.slice fa fn fc],.int .i64 40,.int .i64 ((1+Be (Bi (Cm q)):Nat):Int)]):=by
 refine(tN hr hne hg.n64 hlen w hl).mono ?_;rintro e w' ⟨hb,v,rfl,av,fv,rfl,ha,hf⟩;obtain⟨aa,ac,rfl⟩:=ha.yshape;obtain⟨fa,fc,rfl⟩:=hf.yshape;exact⟨hb,aa,_,ac,fa,_,fc,rfl⟩
theorem oJ(one two:List Int)(v0 v1:Value)(w:World)(h0:Ia (· <w.heap.size) w one v0)(h1:Ia (· <w.heap.size) w two v1)(hl:Iz w):
  Calls Zb 9 #[v0,v1] w fun e w'=>e=.returned (.bool true)∧Below w.heap.size w w':=by
 have HL:=Za hl;have H0:=Za h0;have H1:=Za h1;clear hl h0 h1;go_enter func9,ntmps9
 go_wp2_with fail
 refine(jW w HL.o).mono ?_;rintro e w1 ⟨rfl,hb1⟩;have HB1:=Za hb1;clear hb1;go_wp2_with fail
 refine(eT one false v0 w1 (Ia.old HB1.o H0.o)).mono ?_;rintro e w2 ⟨va,vf,ds,rfl,hb2,ha2,hds,hd3,hf2⟩;have pr:=Ma one false;have pl:Cr (Bi (Js one false)).length:=by have h1:=Yi one false;have h2:=fH;show _≤_;omega
 have pc:=(Nf one false).2.2;generalize Js one false=p at*;have hO:=Jc.of ha2 hds hd3 hf2;have hdn:0<ds.length:=by have:=congrArg List.length hds;rw[List.length_map]at this;omega
 obtain⟨a1,a2,rfl⟩:=hO.ars.yshape;obtain⟨f1,f2,rfl⟩:=hO.fus.yshape;have hal:Below w2.heap.size w2 (w2.alloc (.cells #[.slice a1 p.arrays.length a2,.slice f1 p.funcs.length f2] 34)):=bA;have hbb:=hb2.trans (hal.mono hb2.size);have HB3:=Za (HB1.o.trans (hbb.mono HB1.o.size));have HOP:=Za (Ae.new w2 [.slice a1 p.arrays.length a2,.slice f1 p.funcs.length f2] 34);have HP3:=Za (hO.old hal);have PR':=Za pr;have PL:=Za pl;have PC:=Za pc;have HDN:=Za hdn;have hz3:(w2.alloc (.cells #[.slice a1 p.arrays.length a2,.slice f1 p.funcs.length f2] 34)).heap.size=w2.heap.size+1:=by simp
 clear hb2 ha2 hds hd3 hf2 hO hal hbb pr pl pc hdn HB1;go_upto_region 3 with(fail)
 generalize w2.alloc (.cells #[.slice a1 p.arrays.length a2,.slice f1 p.funcs.length f2] 34)=w3 at*;generalize w2.heap.size=pb at*;have HZ3:=Za hz3;clear hz3;go_wp2_with fail
 refine(eT two false v1 w3 (Ia.old HB3.o H1.o)).mono ?_;rintro e w4 ⟨ua,uf,es,rfl,hb4,ha4,hes,he3,hg4⟩;have qr:=Ma two false;have ql:Cr (Bi (Js two false)).length:=by have h1:=Yi two false;have h2:=fH;show _≤_;omega
 have qc:=(Nf two false).2.2;generalize Js two false=q at*;have hO:=Jc.of ha4 hes he3 hg4;have hen:0<es.length:=by have:=congrArg List.length hes;rw[List.length_map]at this;omega
 obtain⟨d1,d2,rfl⟩:=hO.ars.yshape;obtain⟨g1,g2,rfl⟩:=hO.fus.yshape;have hal:Below w4.heap.size w4 (w4.alloc (.cells #[.slice d1 q.arrays.length d2,.slice g1 q.funcs.length g2] 34)):=bA;have hbb:=hb4.trans (hal.mono hb4.size);have HB5:=Za (HB3.o.trans (hbb.mono HB3.o.size));have HOP5:=Za (HOP.o.old hbb);have HOQ:=Za (Ae.new w4 [.slice d1 q.arrays.length d2,.slice g1 q.funcs.length g2] 34);have HP5:=Za (HP3.o.old hbb);have HQ5:=Za (hO.old hal);have QR:=Za qr;have QL:=Za ql;have QC:=Za qc;have HEN:=Za hen;have hz5:(w4.alloc (.cells #[.slice d1 q.arrays.length d2,.slice g1 q.funcs.length g2] 34)).heap.size=w4.heap.size+1:=by simp
 have hpq:pb<w4.heap.size:=by have:=hb4.size;have:=HZ3.o;omega
 have hwq:w.heap.size≤w4.heap.size:=Nat.le_trans HB3.o.size hb4.size;clear hb4 ha4 hes he3 hg4 hO hal hbb qr ql qc hen HB3 HOP HP3 HZ3;go_upto_region 4 with(fail)
 generalize w4.alloc (.cells #[.slice d1 q.arrays.length d2,.slice g1 q.funcs.length g2] 34)=w5 at*;generalize w4.heap.size=qb at*;have q0:=HOQ.o.at 0 _ rfl;have q1:=HOQ.o.at 1 _ rfl;have fq0:=HOQ.o.fz 0;have HB6:=Za (HB5.o.setCell (p:=⟨qb,0,none⟩) hwq (.slice none 0 0));have HOQ6:=Za (HOQ.o.set 0 (.slice none 0 0));have HOP6:=Za (HOP5.o.other (show pb≠qb by omega) 0 (.slice none 0 0));have HP6:=Za (HP5.o.keep (w':=w5.setCell ⟨qb,0,none⟩ (.slice none 0 0)) (fun k hk hl=>Below.heap_setCell _ _ _ _ (by show k≠qb;omega)) (by simp));have HQ6:=Za (HQ5.o.keep (w':=w5.setCell ⟨qb,0,none⟩ (.slice none 0 0)) (fun k hk hl=>Below.heap_setCell _ _ _ _ (by show k≠qb;omega)) (by simp));have hz6:(w5.setCell ⟨qb,0,none⟩ (.slice none 0 0)).heap.size=qb+1:=by rw[←hz5];simp
 go_upto_region 5 with(fail)
 generalize w5.setCell ⟨qb,0,none⟩ (.slice none 0 0)=w6 at*;have HZ6:=Za hz6;have HPQ:=Za hpq;clear q0 q1 fq0 hz5 hz6 hwq hpq HB5 HOQ HOP5 HP5 HQ5;have p0:=HOP6.o.at 0 _ rfl;have p1:=HOP6.o.at 1 _ rfl;have HL6:=Za (HL.o.old HB6.o);go_wp2_with fail
 refine(Wg p _ _ w6 HL6.o.lt HL6.o.pow (Bv.mono (fun b hb=>by have:=HZ6.o;have:=HPQ.o;omega) HP6.o.ars) (Bp.mono (fun b hb=>by have:=HZ6.o;have:=HPQ.o;omega) HP6.o.fus) PR'.out (aH PC.out) PL.out).mono ?_;rintro e w7 ⟨rfl,hb7⟩;have HB7:=Za (HB6.o.trans (hb7.mono HB6.o.size));have HOP7:=Za (HOP6.o.old hb7);have HOQ7:=Za (HOQ6.o.old hb7);have HP7:=Za (HP6.o.old hb7);have HQ7:=Za (HQ6.o.old hb7);have hz7:qb<w7.heap.size:=by have:=hb7.size;have:=HZ6.o;omega
 have HZ7:=Za hz7;clear hb7 hz7 p0 p1 HB6 HL6 HOP6 HOQ6 HP6 HQ6;have y0:=HOQ7.o.at 0 _ rfl;have y1:=HOQ7.o.at 1 _ rfl;have HL7:=Za (HL.o.old HB7.o);have hqf:Cr (Bi (Cm q)).length:=Nat.le_trans (pW q) QL.out;have HQF:=Za hqf;have HQB:=Za (Wc PR'.out QR.out).2;clear hqf;go_wp2_with fail
 refine(Wg (Cm q) (.slice none 0 0) (.slice g1 q.funcs.length g2) w7 HL7.o.lt HL7.o.pow Bv.zero (Bp.mono (fun b hb=>by have:=HZ7.o;omega) HQ7.o.fus) HQB.o (aH (p:=Cm q) QC.out) HQF.o).mono ?_;rintro e w8 ⟨rfl,hb8⟩;have HB8:=Za (HB7.o.trans (hb8.mono HB7.o.size));have HOP8:=Za (HOP7.o.old hb8);have HOQ8:=Za (HOQ7.o.old hb8);have HP8:=Za (HP7.o.old hb8);have HQ8:=Za (HQ7.o.old hb8);clear hb8 y0 y1 HB7 HL7 HOP7 HOQ7 HP7 HQ7;have HJ:Hid (∀w,(Bi p).length≤10000→(Bi (Cm q)).length≤10000→Iz w→Calls Zb 14 #[.string (Aa (Bi p)++Aa (Bi (Cm q)))] w fun e w'=>Below w.heap.size w w'∧∃aa ac fa fc,e=.returned (.tuple #[.agg #[.slice aa (Do p q).arrays.length ac,.slice fa (Do p q).funcs.length fc],.int .i64 0,.int .i64 0])∧Bv (fun _=>True) w' (Do p q).arrays (.slice aa (Do p q).arrays.length ac)∧Bp (fun _=>True) w' (Do p q).funcs (.slice fa (Do p q).funcs.length fc)):=Za fun w h1 h2 hl=>by
  rw[Wo];exact jn_good (D:=fun _=>True) PR'.out QR.out (Bp.mono (fun _ _=>trivial) HP8.o.fus) (Bp.mono (fun _ _=>trivial) HQ8.o.fus) (by rw[Zi];omega) w hl
 have HJB:Hid (∀w,(Bi (Cm q)).length≤10000→Iz w→Calls Zb 14 #[.string (Aa (Bi (Cm q))++⟨#[105,110,116,32,97,91,49,93,59]⟩)] w fun e w'=>Below w.heap.size w w'∧∃aa an ac fa fn fc,e=.returned (.tuple #[.agg #[.slice aa an ac,.slice fa fn fc],.int .i64 40,.int .i64 ((1+Be (Bi (Cm q)):Nat):Int)])):=Za fun w h1 hl=>by
  show Calls _ _ #[.string (Aa (Bi (Cm q))++Aa [105,110,116,32,97,91,49,93,59])] _ _
  rw[Wo];exact jn_bad QR.out (List.ne_nil_of_length_pos QC.out) HQ8.o.fus (by rw[Zi];show _+9≤20000;omega) w hl
 clear PL QL HQF HQB;obtain⟨tp,htp⟩:∃tp,Bi p=tp:=⟨_,rfl⟩;obtain⟨tq,htq⟩:∃tq,Bi (Cm q)=tq:=⟨_,rfl⟩;rw[htp]at HJ ⊢;rw[htq]at HJ HJB ⊢;clear htp htq;obtain⟨nl,hnl⟩:∃n:Nat,1+Be tq=n:=⟨_,rfl⟩;rw[hnl]at HJB;have HNL:=Za hnl;clear hnl;have hsp:(Aa tp).size=tp.length:=by show tp.toArray.size=_;simp
 have hsq:(Aa tq).size=tq.length:=by show tq.toArray.size=_;simp
 by_cases h1:tp.length≤10000
 ·by_cases h2:tq.length≤10000
  ·have a1':¬((tp.length:Int)>10000):=by omega
   have a2':¬((10000:Int)<(tp.length:Int)):=by omega
   have a3':¬((tq.length:Int)>10000):=by omega
   have a4':¬((10000:Int)<(tq.length:Int)):=by omega
   have a5':¬(9223372036854775807<tp.length+tq.length):=by omega
   have a6':¬(9223372036854775807<tq.length+9):=by omega
   have H2:=Za h2;have HC1:=Za fun w h=>HJ.o w h1 h2 h
   have HC2:=Za fun w h=>HJB.o w h2 h
   have HL8:=Za (HL.o.old HB8.o);clear hsp h1 h2 HJ HJB;go_wp2_with fail
   refine(HC1.o _ HL8.o).mono ?_;rintro e w9 ⟨hb9,ya,yc,za,zc,rfl,hya,hzf⟩;have hal:Below w9.heap.size w9 (w9.alloc (.cells #[.slice ya (Do p q).arrays.length yc,.slice za (Do p q).funcs.length zc] 34)):=bA;have hbb:=hb9.trans (hal.mono hb9.size);have HBA:=Za (HB8.o.trans (hbb.mono HB8.o.size));have HOPA:=Za (HOP8.o.old hbb);have HOQA:=Za (HOQ8.o.old hbb);have HPA:=Za (HP8.o.old hbb);have HQA:=Za (HQ8.o.old hbb);have HYA:=Za (hya.old hal);have HZF:=Za (Zf hal hzf);have HOY:=Za (Ae.new w9 [.slice ya (Do p q).arrays.length yc,.slice za (Do p q).funcs.length zc] 34);clear hb9 hal hbb hya hzf HC1 HB8 HOP8 HOQ8 HP8 HQ8 HL8;go_upto_region 10 with(fail)
   generalize w9.alloc (.cells #[.slice ya (Do p q).arrays.length yc,.slice za (Do p q).funcs.length zc] 34)=wA at*;generalize w9.heap.size=yb at*;have hdl:ds.length=p.funcs.length:=by rw[←HPA.o.eq,List.length_map]
   refine wp_cut (fun a' w'=>RJn pb qb (.slice a1 p.arrays.length a2) (.slice f1 p.funcs.length f2) (.slice none 0 0) (.slice g1 q.funcs.length g2) ds es wA _ _ _ _ _ _ _ _ _ _ _ _ _ _ _ _ _ _ _ _ _ _ _ _ _ _ _ _ _ _ _ _ _ _ _ _ _ _ _ _ _ _ _ _ _ _ _ _ _ _ _ _ _ _ _ _ _ _ _ _ _ _ _ _ _ _ _ _ _ _ _ _ _ _ _ _ _ _ _ _ _ _ _ _ _ _ _ _ _ a' w') ?rest (fun J K' hJ hM=>Fj (qG pb qb (.slice a1 p.arrays.length a2) (.slice f1 p.funcs.length f2) (.slice none 0 0) (.slice g1 q.funcs.length g2) ds es wA HOPA.o HOQA.o 0 0 HPA.o.fo HQA.o.fo HDN.o HEN.o HPA.o.len HQA.o.len ⟨_,_,_,rfl⟩ _ _ _ _ _ _ _ _ _ _ _ _ _ _ _ _ _ _ _ _ _ _ _ _ _ _ _ _ _ _ _ _ _ _ _ _ _ _ _ _ _ _ _ _ _ _ _ _ _ _ _ _ _ _ _ _ _ _ _ _ _ _ _ _ _ _ _ _ _ _ _ _ _ _ _ _ _ _ _ _ _ _ _ _ _ _ _ _ _ _ _ _ _ _ _ _ _ _ _ J K' hJ hM))
   case rest=>
   intro a' wB hT;obtain⟨z15,z54,z55,z56,z57,z58,z59,z60,z61,z62,⟨vb,v,e1,hvb,hov,hrow,hbB⟩,ha'⟩:=hT;subst ha';subst e1;obtain⟨ra,rk,rc,rfl⟩:=Pg hrow;have HF:=Za (qB (w3:=wA) (n:=qb) (D:=fun _=>True) (HPA.o.old hbB|>.up (by have:=HPQ.o;omega)) (HQA.o.old hbB) (Nat.le_of_lt HOQA.o.lt) hrow (fun _ _=>trivial) (fun _ _=>trivial));have HYB:=Za (HYA.o.old hbB);have HZB:=Za (Zf hbB HZF.o);have HPB:=Za (HPA.o.ars.old hbB|>.mono (D':=fun _=>True) (fun _ _=>trivial));have HOYB:=Za (HOY.o.old hbB);have HOV:=Za hov;have HBB:=Za (HBA.o.trans (hbB.mono HBA.o.size));have HLB:=Za (HL.o.old HBB.o);clear hbB hrow hov hvb HPA HQA HYA HZF HOY HBA HOPA HOQA;go_wp2_with fail
   refine(HC2.o _ HLB.o).mono ?_;rintro e wC ⟨hbC,ba,bn,bc,ga,gn,gc,rfl⟩;have hal:Below wC.heap.size wC (wC.alloc (.cells #[.slice ba bn bc,.slice ga gn gc] 34)):=bA;have hbb:=hbC.trans (hal.mono hbC.size);have HBD:=Za (HBB.o.trans (hbb.mono HBB.o.size));have HFD:=Za (Zf hbb HF.o);have HYD:=Za (HYB.o.old hbb);have HZD:=Za (Zf hbb HZB.o);have HPD:=Za (HPB.o.old hbb);have HOYD:=Za (HOYB.o.old hbb);have HOVD:=Za (HOV.o.old hbb);clear hbC hal hbb HBB HF HYB HZB HPB HOYB HOV HLB HC2;go_upto_region 12 with(fail)
   generalize wC.alloc (.cells #[.slice ba bn bc,.slice ga gn gc] 34)=wD at*;have HS:=Za (rQ (Do p q) (Do p q) (fun _=>True) _ _ _ _ wD HYD.o HZD.o HPD.o HFD.o);clear HYD HZD HPD HFD;go_wp2_with fail
   go_loopw [19,20] (fun s3 s4 wr=> ∃k:Nat,k≤tq.length∧s4=.int .i64 k∧s3=.int .i64 ((1+Be (tq.take k):Nat):Int)∧wr=wD) (fun _ s4 _=>match s4 with|.int _ n=>tq.length-n.toNat|_=>0)
   case atStart=>exact⟨0,Zg _,rfl,by simp [Be],rfl⟩
   case round=>
    obtain⟨k,hk,rfl,rfl,rfl⟩:=hrel;have hfl:=qP (tq.take k);have hfl2:(tq.take k).length≤k:=by rw[List.length_take];omega
    have h2':=H2.o
    by_cases hlt:k<tq.length
    ·have hs:=iB tq k hlt
     have HS':=Za hs;have hltI:(k:Int)<(tq.length:Int):=by omega
     have hget:(Aa tq)[k]'hlt=tq[k]:=rfl;clear hs;obtain⟨F,hF⟩:∃F:Nat,1+Be (tq.take k)=F:=⟨_,rfl⟩;rw[hF];have hFl:(F:Int)≤1000000:=by omega
     by_cases e:tq[k]=10
     ·have hb:((tq[k].toNat:Int)==10)=true:=by rw[e];rfl
      have HF':Hid (((F:Nat):Int)+1=((1+Be (tq.take (k+1)):Nat):Int)):=Za (by have:=HS'.o;rw[if_pos e]at this;omega);clear hF hfl hfl2 h2';go_wp2_with fail
      go_roundw
      case rel=>exact⟨k+1,hlt,rfl,congrArg (Value.int .i64) HF'.o,by first|rfl|trivial⟩
      case measure=>simp;omega
     ·have hb:((tq[k].toNat:Int)==10)=false:=by
       rw[beq_eq_false_iff_ne];intro h;exact e (by rw[←UInt8.toNat_inj];show tq[k].toNat=10;omega)
      have HF':Hid (((F:Nat):Int)=((1+Be (tq.take (k+1)):Nat):Int)):=Za (by have:=HS'.o;rw[if_neg e]at this;omega);clear hF hfl hfl2 h2';go_wp2_with fail
      go_roundw
      case rel=>exact⟨k+1,hlt,rfl,congrArg (Value.int .i64) HF'.o,by first|rfl|trivial⟩
      case measure=>simp;omega
    ·have hke:k=tq.length:=by omega
     have hgeI:(tq.length:Int)≤(k:Int):=by omega
     have e:tq.take k=tq:=by rw[hke,List.take_length]
     rw[e,HNL.o];have y0:=HOYD.o.at 0 _ rfl;have y1:=HOYD.o.at 1 _ rfl;have v0':=HOVD.o.at 0 _ rfl;have v1':=HOVD.o.at 1 _ rfl;clear hfl hfl2 h2' hke e;go_wp2_with fail
     refine HS.o.mono ?_;rw[(jC (Do p q) (Do p q)).2 rfl];rintro e w13 ⟨rfl,hb13⟩;have HB13:=Za (HBD.o.trans (hb13.mono HBD.o.size));clear hb13 HS y0 y1 v0' v1';go_wp2_with fail
     go_ret
     exact⟨rfl,HB13.o⟩
  ·have a1':¬((tp.length:Int)>10000):=by omega
   have a2':¬((10000:Int)<(tp.length:Int)):=by omega
   have a3':((tq.length:Int)>10000):=by omega
   have a4':((10000:Int)<(tq.length:Int)):=by omega
   clear hsp hsq h1 h2 HJ HJB;go_wp2_with fail
   go_ret
   exact⟨rfl,HB8.o⟩
 ·have a1':((tp.length:Int)>10000):=by omega
  have a2':((10000:Int)<(tp.length:Int)):=by omega
  clear hsp hsq h1 HJ HJB;go_wp2_with fail
  go_ret
  exact⟨rfl,HB8.o⟩
end Go.Proofs.YtcfpfnoldgnloaaGreatDoor
namespace Go.Proofs.YtcfpfnoldgnloaaGreatDoor.wParseJoin
open Go.ChangeShapes Go.WideShapes Go.ChangeAt Go.RowKit
set_option maxRecDepth 100000
theorem own:ownKnob Tryz.prog.godebug=none:=by kernel_rfl
theorem Vu(H:Type)(enc:TypeId ×Value→H)(W:World)(base:Nat)(args:Array Value)(ds gs:List (DataW H))(before:List MemPlace)
  (hval:∀(j:Nat) t v,Tryz.f9.params[j]? =some t→args[j]? =some v→Value.okWide Tryz.prog W .any base t v)
  (hW:DataW.Whole enc Tryz.prog Tryz.f9.params.toList Rows.parseJoinSpec.vars false W args.toList ds gs before) (hsz:(DataW.weightsEach Tryz.prog (Tryz.f9.params.toList++(OpenSpec.ofChange Rows.parseJoinSpec).bare.plain.varTypes Tryz.prog) (ds++gs)).all (· ≤reachBytes)=true) (hL:laidMetH Tryz.prog Rows.parseJoinRow.laid W) (hsh:W.ShapedOpen Tryz.prog):
  Calls Tryz.prog 9 args W fun e W'=> ∃v,e=.returned v∧Rows.parseJoinSpec.post enc Tryz.prog Tryz.f9 false true false false W args v W':=by
 have hT:=zlib_of hL hsh;have hW':=hW;obtain⟨p,q,hA0,hV,rfl,hfz,hnd⟩:=hW;have hA:DataW.TrodAll enc Tryz.prog W 0 (fun _=>true) true Tryz.f9.params.toList args.toList ds p:=hA0;rw[Tryz.params9]at hA hval hsz;obtain⟨x0,vs0,d0,ds0,p0,q0,hargs,rfl,rfl,h0,r0⟩:=trodAll_cons hA;obtain⟨x1,vs1,d1,ds1,p1,q1,e1,rfl,rfl,h1,r1⟩:=trodAll_cons r0;obtain⟨rfl,rfl,rfl⟩:=trodAll_nil r1;subst e1;obtain rfl:args= #[x0,x1]:=by cases args;simp_all
 obtain⟨rfl,rfl⟩:=trodVars_none hV;obtain⟨raw0,hraw0,again0⟩:=fK (hval 0 38 x0 rfl rfl) h0;obtain⟨raw1,hraw1,again1⟩:=fK (hval 1 38 x1 rfl rfl) h1;clear hA0;refine(oJ raw0 raw1 x0 x1 W hraw0 hraw1 hT).mono fun e W' ⟨he,hb⟩=>?_
 subst he;exact⟨_,rfl,lB (pa:=(p0++(p1++[]))) (pv:=[]) hW' (fun _ _ _=>trodAll_cons_mk (shut_bool Tryz.underlying4 _) trodAll_mk0) (fun sp hsp=>trodAll_cons_mk (again0 W' sp true hb (fun q hq=>hsp q (by simp [hq]))) (trodAll_cons_mk (again1 W' sp true hb (fun q hq=>hsp q (by simp [hq]))) (trodAll_mk0))) (fun _ _=>rfl) rfl
  hb (ok_one (by kernel_rfl) rfl (okWide_bool_mk Tryz.underlying4 _))⟩
def tab1:DataW Unit→List Value
 |.lit (.int k n)=>[.int k n]
 |.agg l=>l.map fun|.lit (.int k n)=>Value.int k n|_=>undef
 |_=>[undef]
def qR:DataW Unit→Array Value
 |.agg l=>(l.flatMap tab1).toArray
 |_=> #[]
def Uw:DataW Unit→Value
 |.iface _ (.ptr (.agg [.lit (.string b)]))=>.string ⟨b.toArray⟩
 |_=>undef
noncomputable def lowB:Nat:=(World.holding Tryz.prog default ⟨#[],#[],[]⟩).heap.size
noncomputable def Sk (os:Os):World:=
 let h0:=(World.holding Tryz.prog os ⟨#[.cells #[Uw Rows.laid_strconv_ErrRange] 234,.cells #[Uw Rows.laid_strconv_ErrSyntax] 234],#[],[]⟩).heap
 let lay (g:Nat) (d:DataW Unit) (h:Array Obj):Array Obj:=h.modify g fun
  |.cells _ t frozen=>.cells (qR d) t frozen
  |o=>o
 let err (g:Nat) (b:Nat) (h:Array Obj):Array Obj:=h.modify g fun
  |.cells _ t frozen=>.cells #[.iface 232 (.pointer (some ⟨b,0,none⟩))] t frozen
  |o=>o
 {World.holding Tryz.prog os ⟨#[.cells #[Uw Rows.laid_strconv_ErrRange] 234,.cells #[Uw Rows.laid_strconv_ErrSyntax] 234],#[],[]⟩with heap:=lay 6 Rows.laid_math_bits_deBruijn32tab (lay 7 Rows.laid_math_bits_deBruijn64tab (lay 3 Rows.laid_internal_strconv_uint64pow10 (lay 2 Rows.laid_unicode_utf8_acceptRanges (lay 1 Rows.laid_unicode_utf8_first (err 5 lowB (err 4 (lowB+1) h0))))))}
theorem qN(os:Os):laidMet Tryz.prog Rows.parseJoinRow.laid ((Sk os).forCall (fun _ _=>0) ⟨#[],#[.slice none 0 0,.slice none 0 0],[]⟩).memory:=
 laidMet_of_run' 8 (by kernel_rfl) (by kernel_rfl)
theorem reads(os:Os){H:Type}(enc:TypeId ×Value→H):∃places,DataW.whole enc Tryz.prog ((Sk os).forCall (fun _ _=>0) ⟨#[],#[.slice none 0 0,.slice none 0 0],[]⟩).memory Tryz.f9.params.toList Rows.parseJoinSpec.vars false ((#[.slice none 0 0,.slice none 0 0]:Array Value).toList) 8=some ([.nil,.nil],[],places):=
 ⟨[],by kernel_rfl⟩
theorem lifted(os:Os)(started:os.Started)(H:Type)(enc:TypeId ×Value→H)(F:Stop.Interp):
  ReturnsInHanded {} Tryz.checked os 9 .any ((OpenSpec.ofChange Rows.parseJoinSpec).preRow enc Tryz.prog Tryz.f9 Rows.parseJoinRow.domain false Rows.parseJoinRow.laid) (((OpenSpec.ofChange Rows.parseJoinSpec).at F).post enc Tryz.prog Tryz.f9 false true false false):=by
 obtain⟨places,hx⟩:=reads os enc;refine returnsInHanded_of_row (C:=Tryz.checked) (s:=OpenSpec.ofChange Rows.parseJoinSpec) own started (by kernel_rfl) Tryz.func9
  (witness_row_at (enc:=enc) (C:=Tryz.checked) false (Sk os) #[.slice none 0 0,.slice none 0 0] rfl (by kernel_rfl) (by kernel_rfl) (by kernel_rfl)
   (OpenSpec.preRow_of_cond 8 hx (by kernel_rfl) (fun k hk=>by cases hk) (by kernel_rfl) (qN os))) ?_
 intro W base args ds gs before hval hW _ _ hsz hL hsh _;exact Vu H enc W base args ds gs before hval hW hsz hL hsh
theorem said:Rows.ParseJoinSaid:=
 OpenClaim.holds_of_cond 9 Tryz.f9 rfl rfl rfl rfl rfl rfl rfl ⟨rfl,rfl,rfl,rfl,rfl⟩ rfl rfl rfl rfl rfl (by kernel_rfl) Tryz.func9 (by kernel_rfl)
  (of_decide_eq_true (by kernel_rfl)) (by unfold Func.isWrapper;first|(rw[if_pos (by decide+kernel)];kernel_rfl)|(rw[if_neg (by decide+kernel)];exact⟨rfl,rfl⟩))
  (fun os started H enc _ F=>by rw[OpenClaim.pre_eq_preRow];exact lifted os started H enc F)
theorem plain(f:FuncId)(fn:Func)(hf:Tryz.pinned.checked.prog.funcNamed "counterproof/counterprooflaw04.ParseJoin" =some f)(hfn:Tryz.pinned.checked.prog.funcs[f]? =some fn):
  true=Tryz.pinned.checked.prog.looks []∧∀(j:Nat) t,fn.params[j]? =some t→Tryz.pinned.checked.prog.wantsStandIn t=false:=by
 obtain rfl:f=9:=Option.some.inj ((show Tryz.prog.funcNamed "counterproof/counterprooflaw04.ParseJoin" =some 9 by kernel_rfl).symm.trans hf)|>.symm;obtain rfl:fn=Tryz.f9:=(Option.some.inj (Tryz.func9.symm.trans hfn)).symm;refine⟨by kernel_rfl,fun j t ht=>?_⟩;rw[Tryz.params9]at ht;have hm:=Array.mem_of_getElem? ht;simp only[List.mem_toArray,List.mem_cons,List.not_mem_nil,or_false]at hm;rcases hm with rfl|rfl
 ·exact(show Tryz.prog.wantsStandIn 38=false by kernel_rfl)
 ·exact(show Tryz.prog.wantsStandIn 38=false by kernel_rfl)
end Go.Proofs.YtcfpfnoldgnloaaGreatDoor.wParseJoin
namespace Go.Proofs.YtcfpfnoldgnloaaGreatDoor
theorem parseJoin_card:Rows.ParseJoinCardSaid:=
 Claim7.holds_tied_plain_at .later [] _ _ _ _ wParseJoin.said (fun _ h=>by cases h) (by kernel_rfl) (fun _ h=>by cases h) parseJoin_row_tie rfl ⟨rfl,rfl⟩ (by kernel_rfl) rfl wParseJoin.plain (by kernel_rfl)
#print axioms parseJoin_card
end Go.Proofs.YtcfpfnoldgnloaaGreatDoor
