/-
  far of the reference 03: how deep statements are. Condition: the statements lie in memory.
-/
import Derived.Test.YthcpopmmlneneaaGreatDoorPt16
set_option linter.unusedVariables false
set_option linter.unusedSimpArgs false
namespace Go.Proofs.YthcpopmmlneneaaGreatDoor
open Go.RowKit Go.Proofs.Tryz
set_option maxHeartbeats 20000000
set_option maxRecDepth 100000
open Go.RowKit renaming Hid→Zr,Below→Zs,intOf→Zv
open Go renaming World→Zt,Calls→Zu,wpList_append_lies→Zw
open Go.Lib renaming hid→Za
open Go.Proofs.Tryz renaming prog→Zb,underlying80→Zo
open Nat renaming zero_le→Zc,le_refl→Zh,lt_succ_iff_lt_or_eq→Zq
open Bool renaming eq_iff_iff→Zd,and_eq_true→Zm
open Ad renaming new→Ze
open World renaming drewN_drewN→Zf
open IntWalk renaming i64_in→Zg
open List renaming length_drop→Zi,length_append→Zk,all_eq_true→Zl,sizeOf_lt_of_mem→Zn,getElem?_eq_getElem→Zp
open Calls renaming quiet_of→Zj
theorem Ql:∀(f:Nat) (s:Bs),(Dc f s).2.1+(Dc f s).1.length≤s.length
 |0,s=>Nat.le_of_eq (Nat.zero_add _)
 |f+1,s=>by
  have a:=congrArg List.length (Kr Bf s);rw[Zk,Rf]at a;have b:Cr (s.takeWhile Bf)≤(s.takeWhile Bf).length:=List.count_le_length;rw[Dc];split
  ·split
   ·have:=Ql f ((s.dropWhile Bf).drop (By (s.dropWhile Bf)).length)
    rw[Zi]at this;show Cr _+(Dc f _).2.1+(Dc f _).1.length≤_
    omega
   ·show Cr (s.takeWhile Bf)+(s.dropWhile Bf).length≤_;omega
  ·show Cr (s.takeWhile Bf)+(s.dropWhile Bf).length≤_;omega
def Tx(done:List Tk):Except Nat (List Tk)→Except Nat (List Tk)
 |.ok l=>.ok (done++l)
 |.error e=>.error e
theorem Wx(done:List Tk)(t:Tk)(a:Except Nat (List Tk)):Tx (done++[t]) a=Tx done (match a with|.error e=>.error e|.ok l=>.ok (t::l)):=by
 cases a with
 |error e=>rfl
 |ok l=>show Except.ok (done++[t]++l)=_;rw[List.append_assoc];rfl
def Jx(a:Except Nat (List Tk))(w:Zt)(e:Ending)(w':Zt):Prop:=Zs w.heap.size w w'∧match a with
 |.ok T=> ∃v,e=.returned (.tuple #[v,.int .i64 0,.int .i64 0])∧Fs w' w.heap.size T v
 |.error n=>e=.returned (.tuple #[.slice none 0 0,.int .i64 20,.int .i64 (n:Int)])
theorem Jx.okE {b:Except Nat (List Tk)}{w w':Zt}{e:Ending}{a:List Tk}(c:b=.ok a)(f:Zs w.heap.size w w')(d:∃v,e=.returned (.tuple #[v,.int .i64 0,.int .i64 0])∧Fs w' w.heap.size a v):Jx b w e w':=by subst c;exact⟨f,d⟩
theorem Jx.noE {a:Except Nat (List Tk)}{w w':Zt}{e:Ending}{n:Nat}(b:a=.error n)(d:Zs w.heap.size w w')(c:e=.returned (.tuple #[.slice none 0 0,.int .i64 20,.int .i64 (n:Int)])):Jx a w e w':=by subst b;exact⟨d,c⟩
theorem gM(r:Bs)(aD:r.length≤20000)(w:Zt)(az:Lu w):
  Zu Zb 57 #[.string (Aa r)] w (Jx (Hr (r.length+1) r 1) w):=by
 obtain⟨C,ae⟩:∃aV,Hr (r.length+1) r 1=aV:=⟨_,rfl⟩;rw[ae];obtain⟨aM,ap,aS⟩:=Y3 az aD ae;have bv:(r.length:Int)≤20000:=by omega
 obtain⟨aH,ay,aE,aF,aG⟩:=info_parts xA;obtain⟨aj,aq,ar,au⟩:=Y4 ay aE aF aG;clear ay aE aF aG az aD ae;go_enter func57,ntmps57;go_wp2
 go_loopw [0,2,5] (fun af bh bi wr=> ∃(q1:Bs) (n f:Nat) (done:List Tk),af= σ q1∧bi= ι n∧Fs wr w.heap.size done bh∧q1.length<f∧done.length+q1.length≤20000∧n+q1.length≤20001∧Zr (Tx done (Hr f q1 n)=C)∧Zs w.heap.size w wr) (fun af _ _ _=>match af with|.string s=>s.size|_=>0)
 case atStart=>exact⟨r,1,r.length+1,[],rfl,rfl,Fs.zero _ _,Nat.lt_succ_self _,by simpa using ap.o,by have:=ap.o;omega,by rw[aS.o];cases C<;>rfl,Below.refl _ _⟩
 case round=>
  obtain⟨q1,n,f,done,rfl,rfl,o,bt,bs,bw,H,ac⟩:=hrel;obtain⟨f,rfl⟩:∃g,f=g+1:=⟨f-1,by omega⟩;obtain⟨O,Q,rfl⟩:=Xn o;obtain⟨ak,y⟩:=Y2 (aM.o.old ac) ac;have J:=Ql (q1.length+1) q1;have B:=Za (vA q1 (by omega) wr ak.o);rw[Hr]at H;obtain⟨bj,aB⟩:∃q,Dc (q1.length+1) q1=q:=⟨_,rfl⟩;rw[aB]at J B H;obtain⟨rest,a,ok⟩:=bj;dsimp only at J B H;have am:=Za o;have V:Zr (∀k,(Value.slice O done.length Q).ownBlock=some k→w.heap.size≤k∧k<wr.heap.size):=fun k e=>o.ge e
  have E:=Za H;have bC:(n:Int)+(a:Int)≤1000000:=by omega
  have bD:(0:Int)≤(n:Int)+(a:Int):=by omega
  have av:(n:Int)+(a:Int)=((n+a:Nat):Int):=by omega
  have G:=Za av;clear o ac aB H av
  cases ok with
  |false=>
   have c:=E.o;rw[if_neg (by decide)]at c;have F:=Za (show C=.error (n+a)from c.symm);clear c E;go_wp2_with fail;refine B.o.mono ?_;rintro e b ⟨rfl,d⟩;have p:=Za (y.o.trans (d.mono y.o.size));have i:w.heap.size≤b.heap.size:=p.o.size;clear d;go_wp2
   go_ret3
   exact Jx.noE F.o (p.o.alloc i _) (by rw[←G.o];rfl)
  |true=>
   cases rest with
   |nil=>
    have c:=E.o;rw[if_pos rfl,if_pos rfl]at c;have F:=Za (show C=.ok (done++[⟨5,[],0,((n+a:Nat):Int)⟩])from c.symm);clear c E;go_wp2_with fail;refine B.o.mono ?_;rintro e b ⟨rfl,d⟩;obtain⟨p,W⟩:=Y2 (y.o.trans (d.mono y.o.size)) (Ih am.o d);have be:=d.size;have h:Zs b.heap.size b (b.alloc (.cells #[ι 5,ε,ι 0,ι ((n:Int)+(a:Int))] 87)):=bA;obtain⟨X,z,U⟩:=Y3 (Ih W.o h) (p.o.trans (h.mono p.o.size)) (Ze b [ι 5,ε,ι 0,ι ((n:Int)+(a:Int))] 87);clear d h;go_wp2_with (at_builtin;(refine Zw (P:=Zb) _ rfl _ _ 80 rfl w.heap.size 87 aH _ 4 40 Zo aj.o aq.o ar.o au.o rfl (by decide) (ρ O done Q) done.length (done.flatMap Hc) rfl X.o ⟨b.heap.size,0,none⟩ 1 1 (Hc ⟨5,[],0,(n:Int)+(a:Int)⟩) rfl rfl U.o.news (Mg) (by decide) (by unfold maxLen;omega) (by omega) (by have:=z.o.size;exact this) _ rfl ?_;intro g cap bk o v ab bb;obtain⟨R,A⟩:=Y2 (Md z.o v (fun k e=>(V.o k e).1) z.o.size) (Fs.snoc ⟨5,[],0,(n:Int)+(a:Int)⟩ o);clear o v ab))
    go_ret3
    refine Jx.okE F.o R.o ⟨_,rfl,?_⟩;have K:=A.o;rw[G.o]at K;have bu:(done++[(⟨5,[],0,((n+a:Nat):Int)⟩:Tk)]).length=done.length+1:=by simp
    exact K
   |cons D t0=>
    have ad:D::t0≠[]:=by simp
    have Y:=Za fun b aa=>oG (D::t0) ad (by omega) b aa
    have c:=E.o;rw[if_pos rfl,if_neg ad]at c;have N:=fun k x n (aa:Ln (D::t0)=some (k,x,n))=>Ux aa
    have bc:(D::t0).isEmpty=false:=rfl;obtain⟨l,aA⟩:∃l,D::t0=l:=⟨_,rfl⟩;rw[aA]at B Y c N bc J;obtain⟨aI,I⟩:∃aI,Ln l=aI:=⟨_,rfl⟩;rw[I]at Y c N;obtain⟨L,Z,an,aU⟩:=Y4 c N J (Nl l);clear aA I c ad N J;go_wp2_with fail;refine B.o.mono ?_;rintro e b ⟨rfl,d⟩;obtain⟨p,aN,W⟩:=Y3 (y.o.trans (d.mono y.o.size)) (ak.o.old d) (Ih am.o d);have be:=d.size;have aP:=Za (Ze b [ι 0,ε,ι 0,ι 0] 87);have h:Zs b.heap.size b (b.alloc (.cells #[ι 0,ε,ι 0,ι 0] 87)):=bA;obtain⟨aO,z,X⟩:=Y3 (aN.o.old h) (p.o.trans (h.mono p.o.size)) (Ih W.o h);have i:w.heap.size≤b.heap.size:=p.o.size;clear d h;go_wp2_with fail;refine(Y.o _ aO.o).mono ?_;rintro e bl ⟨⟨k,x,j,ok,rfl,I⟩,M⟩;unfold Fb;obtain⟨m,ag,aQ⟩:=Y3 (aP.o.old M) (z.o.trans (M.mono z.o.size)) (Ih X.o M);clear M;have q0:=m.o.at 0 _ rfl;have aW:=m.o.fz 0;have bg:=m.o.at 1 _ rfl;have aX:=m.o.fz 1;have q2:=m.o.at 2 _ rfl;have aY:=m.o.fz 2;have q3:=m.o.at 3 _ rfl;have aZ:=m.o.fz 3;have bf:=m.o.lt
    cases ok with
    |false=>
     subst I;have F:=Za (show C=.error (n+a)from L.o.symm);clear L Z;go_wp2
     go_ret3
     refine Jx.noE F.o ?_ (by rw[←G.o];rfl);exact Gc (Gc (Gc (Gc ag.o i _ _) i _ _) i _ _) i _ _
    |true=>
     subst I;obtain⟨aJ,aK,bm,bn⟩:=Z.o k x j rfl;have aC:=congrArg List.length aK;rw[Zk]at aC;have bB:0<x.length:=List.length_pos_iff.2 aJ;have c:=L.o;have ax:Tx (done++[⟨k,x,j,((n+a:Nat):Int)⟩]) (Hr f (l.drop x.length) (n+a))=C:=by rw[Wx];exact c
     have aL:=Za ax;have bx:(x.length:Int)≤(l.length:Int):=by omega
     have bz:x.length≤l.length:=by omega
     have ai:Zr ((l.drop x.length).length=l.length-x.length):=Za Zi;clear c ax aJ aK bm bn aC L Z;go_upto_region 14 with(fail);obtain⟨A,T⟩:=Y2 (((((m.o.set 0 (ι k)).set 1 (σ x)).set 2 (ι j)).set 3 (ι 0)).set 3 (ι ((n:Int)+(a:Int)))) (Gc (Gc (Gc (Gc (Gc ag.o i 0 (ι k)) i 1 (σ x)) i 2 (ι j)) i 3 (ι 0)) i 3 (ι ((n:Int)+(a:Int))));have u:(Value.slice O done.length Q).ownBlock≠some b.heap.size:=fun e=>by have:=(V.o _ e).2;omega
     obtain⟨ah,al⟩:=Y2 u (Na (Na (Na (Na (Na aQ.o u 0 (ι k)) u 1 (σ x)) u 2 (ι j)) u 3 (ι 0)) u 3 (ι ((n:Int)+(a:Int))));obtain⟨t,aw⟩:∃t,(((((bl.setCell ⟨b.heap.size,0,none⟩ (ι k)).setCell ⟨b.heap.size,1,none⟩ (σ x)).setCell ⟨b.heap.size,2,none⟩ (ι j)).setCell ⟨b.heap.size,3,none⟩ (ι 0)).setCell ⟨b.heap.size,3,none⟩ (ι ((n:Int)+(a:Int))))=t:=⟨_,rfl⟩;rw[aw]at A T al ⊢;clear aw q0 aW bg aX q2 aY q3 aZ bf u;have h:Zs t.heap.size t (t.alloc (.cells #[ι k,σ x,ι j,ι ((n:Int)+(a:Int))] 87)):=bA;obtain⟨ao,S,aR,U⟩:=Y4 (A.o.old h) (T.o.trans (h.mono T.o.size)) (Ih al.o h) (Ze t [ι k,σ x,ι j,ι ((n:Int)+(a:Int))] 87);obtain ⟨D, bo, bp, bq⟩ := τ4 A.o;have br:=A.o.lt;clear h;go_wp2_with (at_builtin;(refine Zw (P:=Zb) _ rfl _ _ 80 rfl w.heap.size 87 aH _ 4 40 Zo aj.o aq.o ar.o au.o rfl (by decide) (ρ O done Q) done.length (done.flatMap Hc) rfl aR.o ⟨t.heap.size,0,none⟩ 1 1 (Hc ⟨k,x,j,(n:Int)+(a:Int)⟩) rfl rfl U.o.news (Mg) (by decide) (by unfold maxLen;omega) (by omega) (by have:=S.o.size;exact this) _ rfl ?_;intro g cap bk o v ab bb;obtain⟨R,aT⟩:=Y2 (Md S.o v (fun k e=>(V.o k e).1) S.o.size) (Fs.snoc ⟨k,x,j,(n:Int)+(a:Int)⟩ o);have bE:=(ao.o.grow v ah.o).at 1 _ rfl;have bF:=(ao.o.grow v ah.o).lt;clear o v ab))
     rw[aU.o _ _ rfl];go_roundw
     case rel=>
      have bd:=an.o;have ba:=ai.o;refine⟨l.drop x.length,n+a,f,done++[⟨k,x,j,((n+a:Nat):Int)⟩],rfl,by rw[←G.o],?_,by omega,by rw[Zk,List.length_singleton];omega,by omega,aL,R.o⟩;have K:=aT.o;rw[G.o]at K;exact K
     case measure=>have bd:=an.o;have ba:=ai.o;show(l.drop x.length).length<q1.length;omega
theorem yF(a:Bs)(cp:a.length≤20000)(w:Zt):
  Zu Zb 29 #[.string (Aa a)] w (Jx (Hr (a.length+1) a 1) w):=by
 have co:(Aa a).size=a.length:=by show a.toArray.size=_;simp
 obtain⟨y,aq⟩:∃bB,Hr (a.length+1) a 1=bB:=⟨_,rfl⟩;rw[aq];have bs:=Za aq;have cj:(a.length:Int)≤20000:=by omega
 obtain⟨bw,bz⟩:=Y2 (fun b ap n bI B=>rcSpace a b ap (by omega) n bI B) (Nl a);obtain⟨bb,aO,aY,aZ,ba⟩:=info_parts xA;obtain⟨az,aH,aI,aJ⟩:=Y4 aO aY aZ ba;clear aO aY aZ ba aq;go_enter func29,ntmps29;go_wp2
 go_loopw [5,6,7,8,9,10,11,12] (fun bQ au _ _ _ _ _ _ G=> ∃(b f:Nat) (done:List Tk),au= ι (b:Int)∧b≤a.length∧Fs G w.heap.size done bQ∧a.length-b<f∧done.length+(a.length-b)≤20000∧Zr (Tx done (Hr f (a.drop b) (1+Cr (a.take b)))=y)∧Zs w.heap.size w G) (fun _ au _ _ _ _ _ _ _=>a.length-(Zv au).toNat)
 case atStart=>exact⟨0,a.length+1,[],rfl,Zc _,Fs.zero _ _,by omega,by simp;omega,by show Tx [] (Hr _ _ 1)=_;rw[List.drop_zero,bs.o];cases y<;>rfl,Below.refl _ _⟩
 case round=>
  obtain⟨b,f,done,rfl,ap,s,ch,cg,u,aK⟩:=hrel;obtain⟨f,rfl⟩:∃g,f=g+1:=⟨f-1,by omega⟩;obtain⟨E,F,rfl⟩:=Xn s;have Z:=Za aK;have u:=u.out;have bH:(a.drop b).length=a.length-b:=Zi;obtain⟨bd,be,bf,ar⟩:=dB ((a.drop b).length+1) (a.drop b) (by omega) ((a.drop b).length+1) (by omega);have C:=bw.o b ap ((a.drop b).length+1) (by omega) wr;rw[Hr,bd,be,bf]at u;obtain⟨⟨k,ok⟩,aP⟩:∃q,Hv ((a.drop b).length+1) (a.drop b)=q:=⟨_,rfl⟩;rw[aP]at u C ar;dsimp only at u C ar;have aM:1+Cr (a.take b)+Cr ((a.drop b).take k)=1+Cr (a.take (b+k)):=by rw[gT];omega
  rw[aM,List.drop_drop]at u;have aE:=Za s;have ag:Zr (∀k,(Value.slice E done.length F).ownBlock=some k→w.heap.size≤k∧k<wr.heap.size):=fun k e=>s.ge e
  obtain⟨v,C⟩:=Y2 u C;have cl:b+k≤a.length:=by omega
  have bD:IntKind.i64.wrap ((b:Int)+(k:Int))=(b:Int)+(k:Int):=Zg _ (by omega);have br:Zr ((b:Int)+(k:Int)=((b+k:Nat):Int)):=(by omega:(b:Int)+(k:Int)=((b+k:Nat):Int));clear s aK u aP bd be bf ar aM bH;obtain⟨bg,bJ⟩:∃bg,bg=wr:=⟨_,rfl⟩;subst bJ;go_wp2_with fail;refine C.o.mono ?_;rintro e B ⟨rfl,S⟩;obtain⟨H,aF⟩:=Y2 (Z.o.trans (S.mono Z.o.size)) (Ih aE.o S);have aT:=S.size;have ah:Zr (∀k,(Value.slice E done.length F).ownBlock=some k→w.heap.size≤k∧k<B.heap.size):=fun k e=>⟨(ag.o k e).1,Nat.lt_of_lt_of_le (ag.o k e).2 aT⟩
  clear S C Z aE ag aT
  go_upto_block 2 with(fail);rw[br.o];clear bD;have cm:b≤b+k:=Nat.le_add_right _ _;generalize b+k=p at*;go_cut [9] (fun l G=>l= ι ((1+Cr (a.take p):Nat):Int)∧G=B)
  case first=>
   go_wp2
   go_loopw [9,10] (fun l i G=> ∃j:Nat,l= ι ((1+Cr (a.take j):Nat):Int)∧i= ι (j:Int)∧j≤p∧G=B) (fun _ i _=>p-(Zv i).toNat)
   case atStart=>exact⟨0,rfl,rfl,Zc _,rfl⟩
   case round=>
    obtain⟨j,rfl,rfl,ci,rfl⟩:=hrel;have U:Cr (a.take j)≤j:=Nat.le_trans List.count_le_length (by rw[List.length_take];omega)
    by_cases hlt:j<p
    ·have bM:(j:Int)<(p:Int):=by omega
     have cq:(0:Int)≤(j:Int):=by omega
     have cr:(j:Int)<(a.length:Int):=by omega
     have bN:j<a.length:=by omega
     have cc:IntKind.i64.wrap ((j:Int)+1)=(j:Int)+1:=Zg _ (by omega);obtain⟨c,d⟩:∃c,a[j]? =some c:=⟨a[j],Zp bN⟩;have ce:∀r,(Aa a)[j]'r=c:=fun _=>(List.getElem?_eq_some_iff.1 d).2
     have W:=jH a j c d
     by_cases h10:c=10
     ·rw[if_pos h10]at W
      subst h10;obtain⟨q,M⟩:∃q,1+Cr (a.take j)=q:=⟨_,rfl⟩;have ai:Zr ((1+Cr (a.take (j+1)):Nat)=q+1):=(by omega:(1+Cr (a.take (j+1)):Nat)=q+1);have cd:IntKind.i64.wrap ((q:Int)+1)=(q:Int)+1:=Zg _ (by omega);rw[M];clear d W U M;go_wp2;go_roundw
      case rel=>exact⟨j+1,by rw[ai.o];go_num,by go_num,by omega,by first|trivial|rfl⟩
      case measure=>simp [Zv];omega
     ·rw[if_neg h10]at W
      have bc:((c.toNat:Int)==10)=false:=by rw[beq_eq_false_iff_ne];intro r;exact h10 (UInt8.toNat_inj.1 (by show _=10;omega))
      have cs:¬(c.toNat:Int)=10:=by rw[beq_eq_false_iff_ne]at bc;exact bc
      obtain⟨q,M⟩:∃q,1+Cr (a.take j)=q:=⟨_,rfl⟩;have ai:Zr ((1+Cr (a.take (j+1)):Nat)=q):=(by omega:(1+Cr (a.take (j+1)):Nat)=q);rw[M];clear d W U h10 M;go_wp2;go_roundw
      case rel=>exact⟨j+1,by rw[ai.o],by go_num,by omega,by first|trivial|rfl⟩
      case measure=>simp [Zv];omega
    ·have bM:¬(j:Int)<(p:Int):=by omega
     have bE:j=p:=by omega
     subst bE;go_wp2;go_meet;exact⟨rfl,by first|trivial|rfl⟩
  case rest=>
  obtain⟨rfl,bK⟩:=hcut;subst bK;have U:Cr (a.take p)≤p:=Nat.le_trans List.count_le_length (by rw[List.length_take];omega);have aA:Zr (1+Cr (a.take p)≤20001):=(by omega:1+Cr (a.take p)≤20001);have bq:Zr (∀q,a.take p=a.take q→Cr (a.take q)=Cr (a.take p)):=fun q r=>by rw[r]
  obtain⟨N,al⟩:∃N,1+Cr (a.take p)=N:=⟨_,rfl⟩;rw[al]at v aA ⊢;have bl:=Za al;have ct:(N:Int)≤1000000:=by have:=aA.o;omega
  clear U al bq
  cases ok with
  |false=>
   have d:=v.o;rw[if_neg (by decide)]at d;have I:=Za (show y=.error N from d.symm);clear d v;go_wp2
   go_ret3
   exact Jx.noE I.o H.o rfl
  |true=>
   by_cases hend:p=a.length
   ·have d:=v.o
    have aQ:a.drop p=[]:=by rw[hend];exact List.drop_length
    rw[if_pos rfl,if_pos aQ]at d;have I:=Za (show y=.ok (done++[⟨5,[],0,(N:Int)⟩])from d.symm);have bO:(a.length:Int)≤(p:Int):=by omega
    have z:Zs wc.heap.size wc (wc.alloc (.cells #[ι 5,ε,ι 0,ι (N:Int)] 87)):=bA;obtain⟨bm,ab,af⟩:=Y3 (Ih aF.o z) (H.o.trans (z.mono H.o.size)) (Ze wc [ι 5,ε,ι 0,ι (N:Int)] 87);clear d v z hend aQ;go_wp2_with (at_builtin;(refine Zw (P:=Zb) _ rfl _ _ 80 rfl w.heap.size 87 bb _ 4 40 Zo az.o aH.o aI.o aJ.o rfl (by decide) (ρ E done F) done.length (done.flatMap Hc) rfl bm.o ⟨wc.heap.size,0,none⟩ 1 1 (Hc ⟨5,[],0,(N:Int)⟩) rfl rfl af.o.news (Mg) (by decide) (by unfold maxLen;omega) (by omega) (by have:=ab.o.size;exact this) _ rfl ?_;intro g cap bS s L am bG;obtain⟨aa,bu⟩:=Y2 (Md ab.o L (fun k e=>(ah.o k e).1) ab.o.size) (Fs.snoc ⟨5,[],0,(N:Int)⟩ s);clear s L am))
    go_ret3
    exact Jx.okE I.o aa.o ⟨_,rfl,bu.o⟩
   ·have ao:a.drop p≠[]:=by
     intro r;have:=congrArg List.length r;rw[Zi,List.length_nil]at this;omega
    have d:=v.o;rw[if_pos rfl,if_neg ao]at d;have D:=fun B=>rcToken (a.drop p) ao (by rw[Zi];omega) B
    have A:=fun k x n (r:Ln (a.drop p)=some (k,x,n))=>Ux r
    have X:=fun k x n (r:Ln (a.drop p)=some (k,x,n))=>lH r
    have O:(a.drop p).length=a.length-p:=Zi;have bO:¬(a.length:Int)≤(p:Int):=by omega
    have cv:(p:Int)≤(a.length:Int):=by omega
    have cw:(0:Int)≤(p:Int):=by omega
    have aX:=bz.o p a.length rfl;have ax:Zr (∀x:Bs,(a.drop p).drop x.length=a.drop (p+x.length)):=fun x=>List.drop_drop
    have ay:=Za (fun k=>gT a p k);obtain⟨Y,aS⟩:∃Y,a.drop p=Y:=⟨_,rfl⟩;rw[aS]at D d A X O aX ax ay;obtain⟨cu,aR⟩:∃b,Ln Y=b:=⟨_,rfl⟩;rw[aR]at D d A X;obtain⟨R,ak,aj,bt,D⟩:=Y5 d A X O D;clear aS aR d ao A X O v hend;go_wp2_with fail;refine(D.o _).mono ?_;rintro e t ⟨⟨h,x,o,m,rfl,V⟩,T⟩;unfold Fb;obtain⟨ac,bn⟩:=Y2 (H.o.trans (T.mono H.o.size)) (Ih aF.o T);have aU:=T.size;have aD:Zr (∀k,(Value.slice E done.length F).ownBlock=some k→w.heap.size≤k∧k<t.heap.size):=fun k e=>⟨(ah.o k e).1,Nat.lt_of_lt_of_le (ah.o k e).2 aU⟩
    clear T aX D aU;have z:Zs t.heap.size t (t.alloc (.cells #[ι h,σ x,ι o,ι 0] 87)):=bA;obtain⟨ad,aG,J⟩:=Y3 (ac.o.trans (z.mono ac.o.size)) (Ih bn.o z) (Ze t [ι h,σ x,ι o,ι 0] 87);clear z;go_upto_region 18 with(fail);generalize t.alloc (.cells #[ι h,σ x,ι o,ι 0] 87)=bT at*;have bx:Zr (w.heap.size≤t.heap.size):=ac.o.size;have bi:Zr ((Value.slice E done.length F).ownBlock≠some t.heap.size):=fun e=>by have:=(aD.o _ e).2;omega
    generalize t.heap.size=bR at*;rcases V with⟨rfl,rfl⟩|⟨V,rfl⟩
    ·have I:=Za (show y=.error N from R.o.symm)
     clear R ak aj;go_wp2
     go_ret3
     exact Jx.noE I.o ad.o rfl
    ·obtain⟨bh,av,bU,bV⟩:=ak.o h x o rfl
     have aV:=aj.o h x o rfl;have aW:=congrArg List.length av;rw[Zk]at aW;have bL:0<x.length:=List.length_pos_iff.2 bh;have O:=bt.o;have A:Y.take x.length=x:=by
      have:=congrArg (List.take x.length) av;rw[List.take_left]at this;exact this
     have aN:1+Cr (a.take (p+x.length))=N:=by
      have K:=ay.o x.length;have cb:=bl.o;rw[A,aV]at K;omega
     have d:=R.o;dsimp only at d;rw[ax.o x]at d;have aL:Tx (done++[⟨h,x,o,(N:Int)⟩]) (Hr f (a.drop (p+x.length)) (1+Cr (a.take (p+x.length))))=y:=by rw[Wx,aN];exact d
     have bj:=Za aL;have ck:((m:Int)==0)=false:=by rw[beq_eq_false_iff_ne];omega
     have cn:IntKind.i64.wrap ((p:Int)+(m:Int))=((p+m:Nat):Int):=by rw[Int.natCast_add];exact Zg _ (by omega)
     have bF:p+m≤a.length:=by omega
     have bk:Zr (m=x.length):=V;have aB:Zr (1≤m∧done.length+1+(a.length-(p+m))≤20000∧a.length-(p+m)<f):=⟨by omega,by omega,by omega⟩;have cf:done.length≤20000:=by omega
     clear d aL bh av bU bV aW bL O A aN aV V R ak aj;obtain⟨aC,aw,bo⟩:=Y3 (J.o.set 3 (ι (N:Int))) (Gc ad.o bx.o 3 (ι (N:Int))) (Na aG.o bi.o 3 (ι (N:Int)));have q3:=J.o.at 3 _ rfl;have bC:=J.o.fz 3;have bP:=J.o.lt;go_upto_region 21 with(fail);clear q3 bC bP J ad aG;generalize bT.setCell ⟨bR,3,none⟩ (ι (N:Int))=Q at*;have an:Zs Q.heap.size Q (Q.alloc (.cells #[ι h,σ x,ι o,ι (N:Int)] 87)):=bA;obtain⟨ae,bp,af⟩:=Y3 (aw.o.trans (an.mono aw.o.size)) (Ih bo.o an) (Ze Q [ι h,σ x,ι o,ι (N:Int)] 87);obtain ⟨bW, bX, bY, bZ⟩ := τ4 aC.o;have ca:=aC.o.lt;clear an;go_wp2_with (at_builtin;(refine Zw (P:=Zb) _ rfl _ _ 80 rfl w.heap.size 87 bb _ 4 40 Zo az.o aH.o aI.o aJ.o rfl (by decide) (ρ E done F) done.length (done.flatMap Hc) rfl bp.o ⟨Q.heap.size,0,none⟩ 1 1 (Hc ⟨h,x,o,(N:Int)⟩) rfl rfl af.o.news (Mg) (by decide) (by unfold maxLen;omega) (by omega) (by have:=ae.o.size;exact this) _ rfl ?_;intro g cap bS s L am bG;obtain⟨aa,bv⟩:=Y2 (Md ae.o L (fun k e=>(aD.o k e).1) ae.o.size) (Fs.snoc ⟨h,x,o,(N:Int)⟩ s);clear s L am))
     go_roundw
     case rel=>
      have K:=aB.o;refine⟨p+m,f,done++[⟨h,x,o,(N:Int)⟩],rfl,bF,bv.o,K.2.2,by rw[Zk,List.length_singleton];exact K.2.1,?_,aa.o⟩;show Zr (Tx _ (Hr f (a.drop (p+m)) (1+Cr (a.take (p+m))))=y)
      rw[bk.o];exact bj
     case measure=>have K:=aB.o;simp [Zv];omega
def Is:Nat→Ex→Nat
 |0,_=>1
 |m+1,e=>e.args.foldl (fun n a=>max n (Is m a)) 0+1
theorem Po {α:Type}(f:α→Nat):∀(l:List α) (n k:Nat),l.foldl (fun n a=>max n (f a)) n≤k↔n≤k∧∀a,a∈l→f a≤k
 |[],n,k=>by simp
 |x::l,n,k=>by
  rw[List.foldl_cons,Po f l];constructor
  ·rintro⟨d,c⟩
   exact⟨by omega,fun a b=>by rcases List.mem_cons.1 b with rfl|b;omega;exact c a b⟩
  ·rintro⟨d,c⟩
   exact⟨by have:=c x List.mem_cons_self;omega,fun a b=>c a (List.mem_cons_of_mem _ b)⟩
theorem Xm:∀(k b:Nat) (e:Ex),k≤b→(Is b e≤k↔Ic k e=true)
 |0,b,e,_=>by cases b<;>simp [Is,Ic]
 |k+1,0,e,h=>absurd h (by omega)
 |k+1,b+1,e,h=>by
  rw[Is,Ic,Zl,Nat.add_le_add_iff_right,Po];constructor
  ·exact fun c a d=>(Xm k b a (by omega)).1 (c.2 a d)
  ·exact fun c=>⟨Zc _,fun a d=>(Xm k b a (by omega)).2 (c a d)⟩
theorem Vh:∀(b:Nat) (e:Ex),Is b e≤b+1
 |0,e=>Zh _
 |b+1,e=>by rw[Is,Nat.add_le_add_iff_right,Po];exact⟨Zc _,fun a _=>Vh b a⟩
theorem iV(e:Ex):(decide ((Is 41 e:Int)≤40) && Cc e)=Cf e:=by
 unfold Cf;congr 1
 rw[Zd,decide_eq_true_iff,←Xm 40 41 e (by omega)];omega
def Kx:Nat→List St→Nat
 |0,_=>0
 |m+1,l=>l.foldl (fun n x=>max n (max (1+Kx m x.thn) (1+Kx m x.els))) 0
def Ou(x:St):Bool:=
 let name:=Ak x.name
 let none:=x.name==[]
 let blocks:=x.thn.length==0 && x.els.length==0
 let fine:=if x.kind=1∨x.kind=2 then name && blocks else if x.kind=3 then none else if x.kind=4 then none && x.els.length==0
  else if x.kind=5∨x.kind=6 then none && blocks else if x.kind=7∨x.kind=8∨x.kind=9 then none && blocks
  else if x.kind=10 then none && blocks && x.args.length==1 && (x.args.headD (.mk 0 0 0 [] [])).kind==5 else false
 fine && x.args.length==(if x.kind=2 then 2 else if x.kind=5∨x.kind=6 then 0 else 1)
mutual
def Ly:St→Bool
 |.mk k nm args thn els=>args.all Cf && Fl thn && Fl els && Ou (.mk k nm args thn els)
def Fl:List St→Bool
 |[]=>true
 |x::l=>Ly x && Fl l
end
theorem Pp:∀l,Fl l=l.all Ly
 |[]=>rfl
 |x::l=>by simp [Fl,Pp l]
theorem Vz(x:St):Ly x=(x.args.all Cf && Fl x.thn && Fl x.els && Ou x):=by cases x;rw[Ly];rfl
theorem yB(f:Nat)(x:St):(!Io ((f+1:Nat):Int) x && !Nn x)=Ou x:=by
 have u:(((f+1:Nat):Int)==0)=false:=by rw[beq_eq_false_iff_ne];omega
 have d:∀(l:List St),l.isEmpty=(l.length==0):=fun l=>by cases l<;>rfl
 have v:Ak []=false:=rfl;obtain⟨k,nm,args,thn,els⟩:=x;unfold Io Nn Ou;dsimp only[St.kind,St.name,St.args,St.thn,St.els];rw[u,d,d];generalize (thn.length==0)=h;generalize (els.length==0)=g;generalize ((args.headD (.mk 0 0 0 [] [])).kind==5)=t;generalize args.length=n
 by_cases hk:1≤k∧k≤10
 ·have s:k=1∨k=2∨k=3∨k=4∨k=5∨k=6∨k=7∨k=8∨k=9∨k=10:=by omega
  have i:((n:Int)==0)=(n==0):=by rw[Zd,beq_iff_eq,beq_iff_eq];omega
  have m:((n:Int)==1)=(n==1):=by rw[Zd,beq_iff_eq,beq_iff_eq];omega
  have o:((n:Int)==2)=(n==2):=by rw[Zd,beq_iff_eq,beq_iff_eq];omega
  have p:(nm==[])=true→Ak nm=false:=fun q=>by rw[beq_iff_eq.1 q];rfl
  rcases s with rfl|rfl|rfl|rfl|rfl|rfl|rfl|rfl|rfl|rfl
  all_goals
   simp only[fOk,Ey,Ji,Jn,En,Int.reduceLE,Int.reduceEq,and_self,or_self,or_true,true_or,decide_true,decide_false,Bool.not_true,Bool.not_false,Bool.false_or,Bool.true_and,Bool.false_and,Bool.or_false,if_true,if_false,Bool.true_beq,Bool.false_beq,i,m,o,Int.reduceBEq]
   revert p
   cases Ak nm<;>cases nm==[]<;>cases h<;>cases g<;>cases t<;>simp<;>(try(cases n==1<;>simp))
 ·have r:fOk k=false:=decide_eq_false hk
  rw[r];have c:∀j:Int,1≤j→j≤10→k≠j:=fun j a b e=>hk ⟨by omega,by omega⟩
  simp [c 1 (by decide) (by decide),c 2 (by decide) (by decide),c 3 (by decide) (by decide),c 4 (by decide) (by decide),c 5 (by decide) (by decide),c 6 (by decide) (by decide),c 7 (by decide) (by decide),c 8 (by decide) (by decide),c 9 (by decide) (by decide),c 10 (by decide) (by decide)]
theorem jO:∀(k f:Nat) (l:List St),k<f→((Kx f l≤k∧Fl l=true)↔l.all (Dy k)=true)
 |k,0,l,h=>absurd h (by omega)
 |0,f+1,l,_=>by
  cases l with
  |nil=>simp [Kx,Fl]
  |cons x l=>
   rw[Kx,Po];simp only[List.all_cons,Dy,Bool.false_and,Bool.false_eq_true,iff_false];rintro⟨⟨_,h⟩,_⟩;have:=h x List.mem_cons_self;omega
 |k+1,f+1,l,h=>by
  rw[Kx,Po,Pp,Zl,Zl];have j:∀x:St,(max (1+Kx f x.thn) (1+Kx f x.els)≤k+1∧Ly x=true)↔Dy (k+1) x=true:=by
   intro x;have g:=jO k f x.thn (by omega);have i:=jO k f x.els (by omega);have m:Dy (k+1) x=(!Io ((k+1:Nat):Int) x && !Nn x && x.args.all Cf && x.thn.all (Dy k) && x.els.all (Dy k)):=by rw[Dy];rfl
   rw[m,yB,Vz];simp only[Zm];rw[←g,←i];constructor
   ·rintro⟨a,⟨⟨b,c⟩,d⟩,e⟩;exact⟨⟨⟨e,b⟩,by omega,c⟩,by omega,d⟩
   ·rintro⟨⟨⟨e,b⟩,n,c⟩,o,d⟩;exact⟨by omega,⟨⟨b,c⟩,d⟩,e⟩
  constructor
  ·rintro⟨⟨_,g⟩,i⟩ x hx;exact(j x).1 ⟨g x hx,i x hx⟩
  ·intro g;exact⟨⟨Zc _,fun x hx=>((j x).2 (g x hx)).1⟩,fun x hx=>((j x).2 (g x hx)).2⟩
theorem Qy:∀(a:Nat) (l:List St),Kx a l≤a
 |0,l=>Zh _
 |a+1,l=>by
  rw[Kx,Po];exact⟨Zc _,fun x _=>by have b:=Qy a x.thn;have c:=Qy a x.els;omega⟩
theorem qI(l:List St):(decide ((Kx 42 l:Int)≤40) && Fl l)=l.all (Dy 40):=by
 rw[Zd,Zm,decide_eq_true_iff,←jO 40 42 l (by omega)];constructor
 ·rintro⟨a,b⟩;exact⟨by omega,b⟩
 ·rintro⟨a,b⟩;exact⟨by omega,b⟩
def Vc(a:List Ex):Prop:= ∀(b:List Ex) (D:Nat→Prop) (c d:Value) (w:Zt),Ag D w a c→Ag D w b d→
 Zu Zb 15 #[c,d] w fun e w'=>e=.returned (.bool (Dd a b))∧∃n,w'=w.drewN n
theorem Ag.drewN {D:Nat→Prop}{w:Zt}{l:List Ex}{v:Value}(a:Ag D w l v)(n:Nat):Ag D (w.drewN n) l v:=Ag.keep (w:=w) (w':=w.drewN n) (fun _ _ _ _ hx=>hx) a
theorem dQ(x y:Ex):Hn x y=(x.kind==y.kind && x.op==y.op && x.n==y.n && x.name==y.name && Dd x.args y.args):=by
 cases x;cases y;rw[Hn];rfl
theorem oS(x y:Ex):(Hn x y=false∧(x.kind !=y.kind)=true)∨(Hn x y=false∧(x.kind !=y.kind)=false∧(x.op !=y.op)=true)∨(Hn x y=false∧(x.kind !=y.kind)=false∧(x.op !=y.op)=false∧(x.n !=y.n)=true)
  ∨(Hn x y=false∧(x.kind !=y.kind)=false∧(x.op !=y.op)=false∧(x.n !=y.n)=false∧(x.name==y.name)=false)
  ∨(Hn x y=false∧(x.kind !=y.kind)=false∧(x.op !=y.op)=false∧(x.n !=y.n)=false∧(x.name==y.name)=true∧Dd x.args y.args=false)
  ∨(Hn x y=true∧(x.kind !=y.kind)=false∧(x.op !=y.op)=false∧(x.n !=y.n)=false∧(x.name==y.name)=true∧Dd x.args y.args=true):=by
 rw[dQ];simp only[bne]
 cases x.kind==y.kind<;>cases x.op==y.op<;>cases x.n==y.n<;>cases x.name==y.name<;>cases Dd x.args y.args<;>simp
theorem tP(a:List Ex)(y:∀x,x∈a→Vc x.args):Vc a:=by
 intro b D aB aC w f c;obtain⟨I,J,rfl⟩:=f.shape;obtain⟨K,L,rfl⟩:=c.shape;have az:=f.fits.lt;have aj:=c.fits.lt;rw[Ty]
 by_cases hl:b.length=a.length
 ·rw[hl]at c ⊢
  obtain⟨S,U,aa,p⟩:=Y4 f c y hl;clear f c y hl aj;go_enter func15,ntmps15;go_wp2
  go_loopw [5] (fun z wr=> ∃k:Nat,k≤a.length∧z= ι k∧(∀i,i<k→Hn (a.getD i Ex.nil) (b.getD i Ex.nil)=true)∧∃n,wr=w.drewN n) (fun z _=>a.length-(Zv z).toNat)
  case atStart=>exact⟨0,Zc _,rfl,fun i u=>by omega,0,rfl⟩
  case round=>
   obtain⟨k,av,rfl,O,j⟩:=hrel;obtain⟨H,q⟩:=Y2 O j;have A:Zr (Ag D wr a (ρ I a J)):=by obtain⟨n,rfl⟩:=j;exact S.o.drewN n
   have B:Zr (Ag D wr b (ρ K a L)):=by obtain⟨n,rfl⟩:=j;exact U.o.drewN n
   clear O j
   by_cases hlt:k<a.length
   ·obtain⟨aD,aE,aF,rfl,al,an,I,J,ao,ap,r,ae⟩:=Ag.cellAt A.o k hlt
    obtain⟨aG,aH,aI,rfl,am,aq,K,L,ar,au,s,ah⟩:=Ag.cellAt B.o k (by rw[p.o];exact hlt);obtain⟨ac,ad,rfl⟩:=r.shape;obtain⟨af,ag,rfl⟩:=s.shape;obtain⟨T,V⟩:=Y2 r s;clear r s ae ah al am A B;obtain⟨ab,X⟩:=Y2 (aa.out _ (Cs hlt)) hlt;have N:=oS (Bx a k) (Bx b k);generalize P:Bx a k=l at*;generalize Q:Bx b k=m at*;obtain⟨Y,Z⟩:=Y2 P Q;clear P Q;have C:=Za N;clear N;have ax:(0:Int)≤(k:Int):=by omega
    have ay:(k:Int)<(a.length:Int):=by omega
    have W:Zr (∀g,Zu Zb 15 #[ρ ac l.args ad,ρ af m.args ag] (wr.drewN g) fun e w'=>e=.returned (.bool (Dd l.args m.args))∧∃n,w'=(wr.drewN g).drewN n):=fun g=>ab.out _ D _ _ _ (T.o.drewN g) (V.o.drewN g)
    generalize Dd l.args m.args=aA at*;go_wp2_with fail;go_quiet ((go_at_call 15;exact Zj (W.o _)));have E:=Za C.o;rcases E.o with⟨e,d⟩|⟨e,d,h⟩|⟨e,d,h,t⟩|⟨e,d,h,t,M⟩|⟨e,d,h,t,M,rfl⟩|⟨e,d,h,t,M,rfl⟩
    all_goals
     have F:Zr (Hn (Bx a k) (Bx b k)=Hn l m):=by show _=_;rw[Y.o,Z.o]
     have G:=Za e;clear C E e;go_wp2_with fail;go_quiet (fail);go_wp2_with fail
    iterate 5
     ·go_ret
      obtain⟨ak,v⟩:=q.o;exact⟨Ae (Ii Hn Ex.nil a b k p.o.symm X.o (F.o.trans G.o)).symm,_,by rw[v,Zf,Zf]⟩
    ·go_roundw
     case rel=>exact⟨k+1,by omega,by go_num,fun i u=>by rcases Zq.1 u with ai|rfl;exact H.o i ai;exact F.o.trans G.o,by obtain⟨ak,v⟩:=q.o;exact⟨_,by rw[v,Zf]⟩⟩
     case measure=>simp [Zv];omega
   ·go_wp2
    go_ret
    exact⟨Ae (Jm Hn Ex.nil a b p.o.symm (fun i u=>H.o i (by omega))).symm,q.o⟩
 ·have aw:((a.length:Int) !=(b.length:Int))=true:=by rw[bne_iff_ne];omega
  have R:Zr (Cb Hn a b=false):=Nf _ _ _ (by omega);clear f c y hl;go_enter func15,ntmps15;go_wp2;go_ret
  exact⟨Ae R.out.symm,0,rfl⟩
theorem nE:∀(n:Nat) (l:List Ex),SizeOf.sizeOf l≤n→Vc l
 |0,l,h=>by cases l<;>simp at h
 |n+1,l,h=>tP l fun x hx=>nE n x.args (by
  have a:=Zn hx
  cases x with
  |mk k o m nm args=>show SizeOf.sizeOf args≤n;simp at a;omega)
theorem mP(l:List Ex):Vc l:=nE _ l (Zh _)
theorem bX {α:Type}{f:α→Nat}(d:α){l:List α}{k:Nat}(b:k<l.length):(l.take (k+1)).foldl (fun n a=>max n (f a)) 0=max ((l.take k).foldl (fun n a=>max n (f a)) 0) (f (l.getD k d)):=by
 rw[List.take_add_one,List.foldl_append,Zp b];simp [Zp b]
def eE(e:Ex):Prop:= ∀(a:Nat),a≤41→∀(D:Nat→Prop) (s:Value) (w:Zt),Ag D w e.args s→
 Zu Zb 81 #[exV e s,.int .i64 a] w fun b w'=>b=.returned (.int .i64 (Is a e))∧Zs w.heap.size w w'
theorem jB(e:Ex)(J:∀x,x∈e.args→eE x):eE e:=by
 intro b ah D s w g;obtain⟨a,c,rfl⟩:=g.shape;have an:=g.fits.lt;obtain⟨N,p⟩:=Y2 g J;clear g J;have r:Zs w.heap.size w (w.alloc (ξ e (ρ a e.args c))):=bA;obtain⟨y,E,A⟩:=Y3 r (Ze w (χ e (ρ a e.args c)) 35) (N.out.old r);clear r;have l:Zr (Is 0 e=1):=by cases e;rfl
 have m:Zr (0<b→Is b e=e.args.foldl (fun n a=>max n (Is (b-1) a)) 0+1):=by
  intro ae;obtain⟨q,rfl⟩:∃q,b=q+1:=⟨b-1,by omega⟩;rw[Is];rfl
 have ai:(b:Int)≤41:=by omega
 go_enter func81,ntmps81;go_upto_region 1 with(fail);generalize w.alloc (ξ e (ρ a e.args c))=ac at*;go_wp2
 go_loopw [5,6] (fun ab v wr=> ∃k n:Nat,k≤e.args.length∧v= ι k∧ab= ι n∧n=(e.args.take k).foldl (fun n a=>max n (Is (b-1) a)) 0∧n≤41∧(b=0→k=0)∧Zr (Zs w.heap.size w wr)∧Zr (Ad wr w.heap.size (χ e (ρ a e.args c)) 35)∧Zr (Ag D wr e.args (ρ a e.args c))) (fun _ v _=>e.args.length-(Zv v).toNat)
 case atStart=>exact⟨0,0,Zc _,rfl,rfl,by simp,by omega,fun _=>rfl,y,E,A⟩
 case round=>
  obtain⟨k,n,af,rfl,rfl,d,Z,t,f,j,i⟩:=hrel;clear y E A;have q4:=j.out.at 4 _ rfl
  by_cases hlt:k<e.args.length
  ·have ag:(k:Int)<(e.args.length:Int):=by omega
   by_cases hm0:0<b
   ·have aj:(b:Int)>0:=by omega
    have ak:(0:Int)<(b:Int):=by omega
    obtain⟨ad,ao,V,rfl,W,Q,R,S,T,U,I,aa⟩:=i.out.cellAt k hlt;obtain⟨C,B⟩:=Y2 (p.out (Bx e.args k) (Cs hlt) (b-1) (by omega) D V) I;have O:Zr (max n (Is (b-1) (Bx e.args k))=(e.args.take (k+1)).foldl (fun n a=>max n (Is (b-1) a)) 0):=by show _=_;rw[bX Ex.nil hlt,←d]
    have X:=Vh (b-1) (Bx e.args k);have Y:Is (b-1) (Bx e.args k)≤41:=by omega
    have F:IntKind.i64.wrap ((b:Int)-1)=((b-1:Nat):Int):=by rw[show((b-1:Nat):Int)=(b:Int)-1 by omega];exact Zg _ (by omega)
    clear I aa W d X;generalize Bx e.args k=x at*;have z:=Za (C.o wr B.o);clear C B;clear t;go_wp2_with fail;refine z.o.mono ?_;rintro ap w2 ⟨rfl,h⟩;obtain⟨K,M,L⟩:=Y3 (f.out.trans (h.mono f.out.size)) (j.out.old h) (i.out.old h);have al:n≤41∧Is (b-1) x≤41:=⟨Z,Y⟩;clear h q4 Q R S T U z f j i F;go_wp2;go_roundw
    case rel=>exact⟨k+1,max n (Is (b-1) x),by omega,by go_num,by go_num,O.o,by omega,fun g=>absurd hm0 (by omega),K,M,L⟩
    case measure=>simp [Zv];omega
   ·obtain rfl:b=0:=by omega
    obtain rfl:=t rfl;have u:n=0:=by rw[d];simp
    subst u;clear d p m;have am:¬(((0:Nat):Int)>0):=by omega
    go_wp2;go_ret
    exact⟨by rw[l.o];rfl,f.out⟩
  ·have G:e.args.take k=e.args:=List.take_of_length_le (by omega)
   rw[G]at d;have H:Is b e=n+1:=by
    by_cases hm0:0<b
    ·rw[m.o hm0,d]
    ·obtain rfl:b=0:=by omega
     obtain rfl:=t rfl;have u:n=0:=by
      have:e.args=[]:=List.length_eq_zero_iff.1 (by omega);rw[d,this];rfl
     rw[u,l.o]
   have F:IntKind.i64.wrap ((n:Int)+1)=((n+1:Nat):Int):=by rw[show((n+1:Nat):Int)=(n:Int)+1 by omega];exact Zg _ (by omega)
   have P:=Za H;clear H d G l m p;go_wp2;go_ret
   exact⟨by rw[P.o];rfl,f.out⟩
theorem aZ:∀(n:Nat) (e:Ex),SizeOf.sizeOf e≤n→eE e
 |0,e,h=>by cases e;simp at h
 |n+1,e,h=>jB e fun x hx=>aZ n x (by have:=Ex.size_lt hx;omega)
theorem pZ(e:Ex):eE e:=aZ _ e (Zh _)
def Hf(e:Ex)(op n nm:Bool)(k:Int):Bool:=(op||e.op==0) && (n||e.n==0) && (nm||e.name==[]) && ((e.args.length:Int)==k)
theorem yR(e:Ex)(op n nm:Bool)(k:Int)(a:Option Addr)(c:Nat)(w:Zt):
  Zu Zb 120 #[exV e (.slice a e.args.length c),.bool op,.bool n,.bool nm,.int .i64 k] w fun d w'=>d=.returned (.bool (Hf e op n nm k))∧Zs w.heap.size w w':=by
 have b:=Za (Ze w (χ e (.slice a e.args.length c)) 35);have q1:=b.o.at 1 _ rfl;have q2:=b.o.at 2 _ rfl;have q3:=b.o.at 3 _ rfl;have q4:=b.o.at 4 _ rfl;unfold Hf;show Zu _ _ #[.agg #[ι e.kind,ι e.op,ι e.n,σ e.name,.slice a e.args.length c],.bool op,.bool n,.bool nm,ι k] _ _
 generalize e.args.length=f at*;generalize e.kind=kd at*;generalize e.op=h at*;generalize e.n=g at*;generalize e.name=s at*;clear b
 cases op<;>cases n<;>cases nm
 all_goals
  go_enter func120,ntmps120;go_wp2_with fail
 all_goals
  go_ret
  exact⟨Ae (by simp_all),bA⟩
def RrOf(e:Ex):Prop:= ∀(D:Nat→Prop) (s:Value) (w:Zt),Ag D w e.args s→
 Zu Zb 82 #[exV e s] w fun a w'=>a=.returned (.bool (Cc e))∧Zs w.heap.size w w'
def swB(e:Ex):Bool:=
 if e.kind=1 then Hf e false true false 0 && decide (0≤e.n)
 else if e.kind=2 then Hf e false false true 0 && Ak e.name
 else if e.kind=3 then Hf e true false false 1 && decide (17≤e.op) && decide (e.op≤19)
 else if e.kind=4 then Hf e true false false 2 && decide (1≤e.op) && decide (e.op≤16)
 else if e.kind=5 then Hf e false false true e.args.length && Ak e.name && decide ((e.args.length:Int)≤6)
 else if e.kind=6 then Hf e false false true 1 && Ak e.name
 else if e.kind=7 then Hf e false false false 0 else false
theorem eN(c:Int):decide (0<Ao c)=(decide (1≤c) && decide (c≤16)):=by
 by_cases h:1≤c∧c≤16
 ·have:c=1∨c=2∨c=3∨c=4∨c=5∨c=6∨c=7∨c=8∨c=9∨c=10∨c=11∨c=12∨c=13∨c=14∨c=15∨c=16:=by omega
  rcases this with rfl|rfl|rfl|rfl|rfl|rfl|rfl|rfl|rfl|rfl|rfl|rfl|rfl|rfl|rfl|rfl<;>decide+kernel
 ·have d:∀j:Int,1≤j→j≤16→c≠j:=fun j a b e=>h ⟨by omega,by omega⟩
  have f:Ao c=0:=by
   unfold Ao;rw[if_neg (d 1 (by decide) (by decide)),if_neg (d 2 (by decide) (by decide)),if_neg (d 3 (by decide) (by decide)),if_neg (d 4 (by decide) (by decide)),if_neg (d 5 (by decide) (by decide)),if_neg (d 6 (by decide) (by decide)),if_neg (d 7 (by decide) (by decide)),if_neg (d 8 (by decide) (by decide)),if_neg (d 9 (by decide) (by decide)),if_neg (d 10 (by decide) (by decide)),if_neg (d 11 (by decide) (by decide)),if_neg (d 12 (by decide) (by decide)),if_neg (d 13 (by decide) (by decide)),if_neg (d 14 (by decide) (by decide)),if_neg (d 15 (by decide) (by decide)),if_neg (d 16 (by decide) (by decide))]
  rw[f];rw[show decide ((0:Int)<0)=false from rfl]
  symm
  rw[Bool.and_eq_false_iff,decide_eq_false_iff_not,decide_eq_false_iff_not];omega
theorem swB_eq(e:Ex):swB e=Cl e:=by
 obtain⟨k,c,n,nm,args⟩:=e;unfold swB Cl Gr De Iq Lb Ez Hf;dsimp only[Ex.kind,Ex.op,Ex.n,Ex.name,Ex.args];have g:((0:Int)==c)=(c==0):=by rw[Zd,beq_iff_eq,beq_iff_eq];omega
 have h:((0:Int)==n)=(n==0):=by rw[Zd,beq_iff_eq,beq_iff_eq];omega
 have i:(([]:Bs)==nm)=(nm==[]):=by rw[Zd,beq_iff_eq,beq_iff_eq];exact eq_comm
 by_cases hk:1≤k∧k≤7
 ·have l:k=1∨k=2∨k=3∨k=4∨k=5∨k=6∨k=7:=by omega
  rcases l with rfl|rfl|rfl|rfl|rfl|rfl|rfl
  all_goals
   simp only[Int.reduceEq,or_self,or_true,true_or,if_true,if_false,beq_self_eq_true,Bool.and_true,Bool.true_and,Bool.false_or,Bool.true_or,decide_true,g,h,i,eN]
  ·cases(c==0)<;>cases(n==0)<;>cases(nm==[])<;>cases((args.length:Int)==0)<;>simp
  ·cases(c==0)<;>cases(n==0)<;>cases Ak nm<;>cases((args.length:Int)==0)<;>simp
  ·have:(c=17∨c=18∨c=19)↔(17≤c∧c≤19):=by omega
   cases(n==0)<;>cases(nm==[])<;>cases((args.length:Int)==1)<;>simp [this]<;>(rw[Zd];simp only[Zm,decide_eq_true_eq];exact⟨fun d=>⟨of_decide_eq_true d.1,of_decide_eq_true d.2⟩,fun d=>⟨decide_eq_true d.1,decide_eq_true d.2⟩⟩)
  ·have m:0<Ao c↔(1≤c∧c≤16):=by have:=eN c;rw[Zd,Zm,decide_eq_true_iff,decide_eq_true_iff,decide_eq_true_iff]at this;exact this
   cases(n==0)<;>cases(nm==[])<;>cases((args.length:Int)==2)<;>simp<;>(rw[Zd];simp only[Zm,decide_eq_true_eq,m];exact⟨fun d=>⟨of_decide_eq_true d.1,of_decide_eq_true d.2⟩,fun d=>⟨decide_eq_true d.1,decide_eq_true d.2⟩⟩)
  ·cases(c==0)<;>cases(n==0)<;>cases Ak nm<;>simp
  ·cases(c==0)<;>cases(n==0)<;>cases Ak nm<;>cases((args.length:Int)==1)<;>simp
  ·cases(c==0)<;>cases(n==0)<;>cases(nm==[])<;>cases((args.length:Int)==0)<;>simp
 ·have f:∀j:Int,1≤j→j≤7→k≠j:=fun j a b e=>hk ⟨by omega,by omega⟩
  simp [f 1 (by decide) (by decide),f 2 (by decide) (by decide),f 3 (by decide) (by decide),f 4 (by decide) (by decide),f 5 (by decide) (by decide),f 6 (by decide) (by decide),f 7 (by decide) (by decide)]
theorem fD(e:Ex)(am:∀x,x∈e.args→RrOf x):RrOf e:=by
 intro D s w B;obtain⟨a,c,rfl⟩:=B.shape;have aL:=B.fits.lt;obtain⟨O,X⟩:=Y2 B am;clear B am;have M:Zs w.heap.size w (w.alloc (ξ e (ρ a e.args c))):=bA;obtain⟨P,V,R⟩:=Y3 M (Ze w [ι e.kind,ι e.op,ι e.n,σ e.name,ρ a e.args c] 35) (O.out.old M);clear M;have L:Zr (Cc e=(Cl e && e.args.all Cc)):=Lh e;go_enter func82,ntmps82;go_upto_region 1 with(fail);generalize w.alloc (ξ e (ρ a e.args c))=aA at*;go_wp2
 go_loopw [3] (fun N wr=> ∃k:Nat,k≤e.args.length∧N= ι k∧Zr (∀i,i<k→Cc (Bx e.args i)=true)∧Zr (Zs w.heap.size w wr)∧Zr (Ad wr w.heap.size [ι e.kind,ι e.op,ι e.n,σ e.name,ρ a e.args c] 35)∧Zr (Ag D wr e.args (ρ a e.args c))) (fun N _=>e.args.length-(Zv N).toNat)
 case atStart=>exact⟨0,Zc _,rfl,fun i H=>absurd H (by omega),P,V,R⟩
 case round=>
  obtain⟨k,aJ,rfl,K,l,j,J⟩:=hrel;clear P V R;have q4:=j.out.at 4 _ rfl
  by_cases hlt:k<e.args.length
  ·have aK:(k:Int)<(e.args.length:Int):=by omega
   obtain⟨aI,aM,au,rfl,av,Y,Z,aa,ab,ac,al,ax⟩:=J.out.cellAt k hlt;obtain⟨T,S,ap⟩:=Y3 (X.out (Bx e.args k) (Cs hlt) D au) al hlt;clear al ax av;generalize hx:Bx e.args k=x at*;have W:=Za hx;clear hx;have d:=Za (T.o wr S.o);clear T S
   cases hr:Cc x
   ·rw[hr]at d
    have aq:=Za hr;clear hr;go_wp2_with fail;refine d.o.mono ?_;rintro u w2 ⟨rfl,A⟩;have I:=Za (l.out.trans (A.mono l.out.size));clear A q4 Y Z aa ab ac d;go_wp2;go_ret
    exact⟨Ae (by
     rw[L.o]
     cases q:e.args.all Cc
     ·simp
     ·have:=Zl.1 q _ (Cs ap.o)
      rw[W.o,aq.o]at this;cases this),I.out⟩
   ·rw[hr]at d
    have ar:=Za hr;clear hr;go_wp2_with fail;refine d.o.mono ?_;rintro u w2 ⟨rfl,A⟩;obtain⟨I,ao,an⟩:=Y3 (l.out.trans (A.mono l.out.size)) (j.out.old A) (J.out.old A);clear A q4 Y Z aa ab ac d l j J;go_wp2;go_roundw
    case rel=>exact⟨k+1,by omega,by go_num,fun i H=>by rcases Zq.1 H with B|rfl;exact K.o i B;rw[W.o];exact ar.o,I,ao,an⟩
    case measure=>simp [Zv];omega
  ·have aj:e.args.all Cc=true:=Zl.2 (fun x hx=>by
    obtain⟨i,H,rfl⟩:=List.getElem_of_mem hx;have:=K.o i (by omega)
    rwa[Ro H]at this)
   have ak:Cc e=swB e:=by rw[L.o,aj,swB_eq];simp
   have y:=Za ak;clear ak aj K L X;have q0:=j.out.at 0 _ rfl;have q3:=j.out.at 3 _ rfl;obtain⟨U,Q⟩:=Y2 (Ie e.name wr) (fun op n nm k w=>yR e op n nm k a c w);go_wp2_with fail;refine U.o.mono ?_;rintro u w2 ⟨rfl,ay⟩;subst ay;have q1:=j.out.at 1 _ rfl;have q2:=j.out.at 2 _ rfl;clear U O;have az:=Za q0;have h:Zr (swB e=swB e):=rfl;have r:Zr (∀op n nm k (w:Zt),Zu Zb 120 #[.agg #[ι e.kind,ι e.op,ι e.n,σ e.name,ρ a e.args c],.bool op,.bool n,.bool nm,ι k] w fun u w'=>u=.returned (.bool (Hf e op n nm k))∧Zs w.heap.size w w'):=Q.o;clear Q h az;have aw:(e.kind=1∨e.kind=2∨e.kind=3∨e.kind=4∨e.kind=5∨e.kind=6∨e.kind=7)∨(e.kind≠1∧e.kind≠2∧e.kind≠3∧e.kind≠4∧e.kind≠5∧e.kind≠6∧e.kind≠7):=by omega
   rcases aw with(f|f|f|f|f|f|f)|⟨f,ad,ae,af,ag,ah,ai⟩
   ·have h:Zr (swB e=(Hf e false true false 0 && decide (0≤e.n))):=by show _=_;unfold swB;rw[if_pos f]
    have d:=Za (fun w=>r.o false true false 0 w);rw[f]at q0 d j;obtain⟨b,m⟩:∃b,Hf e false true false 0=b:=⟨_,rfl⟩;rw[m]at d h;clear r f m
    cases b<;>by_cases t0:0≤e.n
    all_goals
     go_wp2_with fail;refine(d.o _).mono ?_;rintro u G ⟨rfl,p⟩;obtain⟨t,g⟩:=Y2 (l.out.trans (p.mono l.out.size)) (j.out.old p);have C:=g.out.at 1 _ rfl;have E:=g.out.at 2 _ rfl;have F:=g.out.at 4 _ rfl;go_wp2;go_ret
     exact⟨Ae (by rw[y.o,h.o];try simp_all),t.out⟩
   ·have h:Zr (swB e=(Hf e false false true 0 && Ak e.name)):=by show _=_;unfold swB;rw[if_neg (by omega)];rw[if_pos f]
    have d:=Za (fun w=>r.o false false true 0 w);rw[f]at q0 d j;obtain⟨b,m⟩:∃b,Hf e false false true 0=b:=⟨_,rfl⟩;rw[m]at d h;clear r f m;obtain⟨v,z⟩:∃v,Ak e.name=v:=⟨_,rfl⟩;rw[z]at h ⊢;clear z
    cases b
    all_goals
     go_wp2_with fail;refine(d.o _).mono ?_;rintro u G ⟨rfl,p⟩;obtain⟨t,g⟩:=Y2 (l.out.trans (p.mono l.out.size)) (j.out.old p);have C:=g.out.at 1 _ rfl;have E:=g.out.at 2 _ rfl;have F:=g.out.at 4 _ rfl;go_wp2;go_ret
     exact⟨Ae (by rw[y.o,h.o];try simp_all),t.out⟩
   ·have h:Zr (swB e=(Hf e true false false 1 && decide (17≤e.op) && decide (e.op≤19))):=by show _=_;unfold swB;rw[if_neg (by omega)];rw[if_neg (by omega)];rw[if_pos f]
    have d:=Za (fun w=>r.o true false false 1 w);rw[f]at q0 d j;obtain⟨b,m⟩:∃b,Hf e true false false 1=b:=⟨_,rfl⟩;rw[m]at d h;clear r f m
    cases b<;>by_cases t0:17≤e.op<;>by_cases t1:e.op≤19
    all_goals try(exfalso;omega)
    all_goals
     go_wp2_with fail;refine(d.o _).mono ?_;rintro u G ⟨rfl,p⟩;obtain⟨t,g⟩:=Y2 (l.out.trans (p.mono l.out.size)) (j.out.old p);have C:=g.out.at 1 _ rfl;have E:=g.out.at 2 _ rfl;have F:=g.out.at 4 _ rfl;go_wp2;go_ret
     exact⟨Ae (by rw[y.o,h.o];try simp_all),t.out⟩
   ·have h:Zr (swB e=(Hf e true false false 2 && decide (1≤e.op) && decide (e.op≤16))):=by show _=_;unfold swB;rw[if_neg (by omega)];rw[if_neg (by omega)];rw[if_neg (by omega)];rw[if_pos f]
    have d:=Za (fun w=>r.o true false false 2 w);rw[f]at q0 d j;obtain⟨b,m⟩:∃b,Hf e true false false 2=b:=⟨_,rfl⟩;rw[m]at d h;clear r f m
    cases b<;>by_cases t0:1≤e.op<;>by_cases t1:e.op≤16
    all_goals try(exfalso;omega)
    all_goals
     go_wp2_with fail;refine(d.o _).mono ?_;rintro u G ⟨rfl,p⟩;obtain⟨t,g⟩:=Y2 (l.out.trans (p.mono l.out.size)) (j.out.old p);have C:=g.out.at 1 _ rfl;have E:=g.out.at 2 _ rfl;have F:=g.out.at 4 _ rfl;go_wp2;go_ret
     exact⟨Ae (by rw[y.o,h.o];try simp_all),t.out⟩
   ·have h:Zr (swB e=(Hf e false false true e.args.length && Ak e.name && decide ((e.args.length:Int)≤6))):=by show _=_;unfold swB;rw[if_neg (by omega)];rw[if_neg (by omega)];rw[if_neg (by omega)];rw[if_neg (by omega)];rw[if_pos f]
    have d:=Za (fun w=>r.o false false true (e.args.length:Int) w);rw[f]at q0 d j;obtain⟨b,m⟩:∃b,Hf e false false true e.args.length=b:=⟨_,rfl⟩;rw[m]at d h;clear r f m;obtain⟨v,z⟩:∃v,Ak e.name=v:=⟨_,rfl⟩;rw[z]at h ⊢;clear z
    cases b<;>cases v<;>by_cases t0:(e.args.length:Int)≤6
    all_goals
     go_wp2_with fail;refine(d.o _).mono ?_;rintro u G ⟨rfl,p⟩;obtain⟨t,g⟩:=Y2 (l.out.trans (p.mono l.out.size)) (j.out.old p);have C:=g.out.at 1 _ rfl;have E:=g.out.at 2 _ rfl;have F:=g.out.at 4 _ rfl;go_wp2;go_ret
     exact⟨Ae (by rw[y.o,h.o];try simp_all),t.out⟩
   ·have h:Zr (swB e=(Hf e false false true 1 && Ak e.name)):=by show _=_;unfold swB;rw[if_neg (by omega)];rw[if_neg (by omega)];rw[if_neg (by omega)];rw[if_neg (by omega)];rw[if_neg (by omega)];rw[if_pos f]
    have d:=Za (fun w=>r.o false false true 1 w);rw[f]at q0 d j;obtain⟨b,m⟩:∃b,Hf e false false true 1=b:=⟨_,rfl⟩;rw[m]at d h;clear r f m;obtain⟨v,z⟩:∃v,Ak e.name=v:=⟨_,rfl⟩;rw[z]at h ⊢;clear z
    cases b
    all_goals
     go_wp2_with fail;refine(d.o _).mono ?_;rintro u G ⟨rfl,p⟩;obtain⟨t,g⟩:=Y2 (l.out.trans (p.mono l.out.size)) (j.out.old p);have C:=g.out.at 1 _ rfl;have E:=g.out.at 2 _ rfl;have F:=g.out.at 4 _ rfl;go_wp2;go_ret
     exact⟨Ae (by rw[y.o,h.o];try simp_all),t.out⟩
   ·have h:Zr (swB e=(Hf e false false false 0)):=by show _=_;unfold swB;rw[if_neg (by omega)];rw[if_neg (by omega)];rw[if_neg (by omega)];rw[if_neg (by omega)];rw[if_neg (by omega)];rw[if_neg (by omega)];rw[if_pos f]
    have d:=Za (fun w=>r.o false false false 0 w);rw[f]at q0 d j;obtain⟨b,m⟩:∃b,Hf e false false false 0=b:=⟨_,rfl⟩;rw[m]at d h;clear r f m
    cases b
    all_goals
     go_wp2_with fail;refine(d.o _).mono ?_;rintro u G ⟨rfl,p⟩;obtain⟨t,g⟩:=Y2 (l.out.trans (p.mono l.out.size)) (j.out.old p);have C:=g.out.at 1 _ rfl;have E:=g.out.at 2 _ rfl;have F:=g.out.at 4 _ rfl;go_wp2;go_ret
     exact⟨Ae (by rw[y.o,h.o];try simp_all),t.out⟩
   ·have h:Zr (swB e=false):=by show _=_;unfold swB;rw[if_neg f,if_neg ad,if_neg ae,if_neg af,if_neg ag,if_neg ah,if_neg ai]
    have aB:(e.kind==1)=false:=by rw[beq_eq_false_iff_ne];exact f
    have aC:(e.kind==2)=false:=by rw[beq_eq_false_iff_ne];exact ad
    have aD:(e.kind==3)=false:=by rw[beq_eq_false_iff_ne];exact ae
    have aE:(e.kind==4)=false:=by rw[beq_eq_false_iff_ne];exact af
    have aF:(e.kind==5)=false:=by rw[beq_eq_false_iff_ne];exact ag
    have aG:(e.kind==6)=false:=by rw[beq_eq_false_iff_ne];exact ah
    have aH:(e.kind==7)=false:=by rw[beq_eq_false_iff_ne];exact ai
    go_wp2;go_ret
    exact⟨Ae (by rw[y.o,h.o]),l.out⟩
theorem Vk:∀(n:Nat) (e:Ex),SizeOf.sizeOf e≤n→RrOf e
 |0,e,h=>by cases e;simp at h
 |n+1,e,h=>fD e fun x hx=>Vk n x (by have:=Ex.size_lt hx;omega)
theorem kH(e:Ex):RrOf e:=Vk _ e (Zh _)
theorem Pc(e:Ex)(D:Nat→Prop)(s:Value)(w:Zt)(b:Ag D w e.args s):
  Zu Zb 35 #[exV e s] w fun l w'=>l=.returned (.bool (Cf e))∧Zs w.heap.size w w':=by
 obtain⟨a,c,rfl⟩:=b.shape;obtain⟨v,m,p⟩:=Y3 b (fun(w:Zt) b=>pZ e 41 (by omega) D (ρ a e.args c) w b) (fun(w:Zt) b=>kH e D (ρ a e.args c) w b);have A:=Vh 41 e;have g:Zr ((decide ((Is 41 e:Int)≤40) && Cc e)=Cf e):=iV e;have q:Zs w.heap.size w (w.alloc (ξ e (ρ a e.args c))):=bA;obtain⟨f,k,j⟩:=Y3 q (Ze w [ι e.kind,ι e.op,ι e.n,σ e.name,ρ a e.args c] 35) (v.out.old q);clear q b;go_enter func35,ntmps35;go_upto_region 1 with(fail);generalize w.alloc (ξ e (ρ a e.args c))=y at*;generalize Is 41 e=z at*;obtain ⟨q0, q1, q2, q3, q4⟩ := τ5 k.o;have i:=Za (m.o y j.o)
 by_cases ht:(z:Int)≤40
 ·rw[decide_eq_true ht]at g
  go_wp2_with fail;refine i.o.mono ?_;rintro l w2 ⟨rfl,d⟩;obtain⟨h,u,x⟩:=Y3 (f.o.trans (d.mono f.o.size)) (k.o.old d) (p.o w2 (j.o.old d));clear d q0 q1 q2 q3 q4 i m p j k f;obtain ⟨q0, q1, q2, q3, q4⟩ := τ5 u.out;go_wp2_with fail;refine x.o.mono ?_;rintro l B ⟨rfl,r⟩;have t:=Za (h.out.trans (r.mono h.out.size));clear r q0 q1 q2 q3 q4;go_wp2;go_ret
  exact⟨Ae g.out,t.out⟩
 ·rw[decide_eq_false ht]at g
  go_wp2_with fail;refine i.o.mono ?_;rintro l w2 ⟨rfl,d⟩;have h:=Za (f.o.trans (d.mono f.o.size));clear d q0 q1 q2 q3 q4 i m p j k f;go_wp2;go_ret
  exact⟨Ae g.out,h.out⟩
theorem Ec {D:Nat→Prop}{w:Zt}{l:List St}{v:Value}(a:Au D w l v)(n:Nat):Au D (w.drewN n) l v:=Au.keep (w:=w) (w':=w.drewN n) (fun _ _ _ _ hx=>hx) a
def Xk(a:List St):Prop:= ∀(b:List St) (D:Nat→Prop) (c d:Value) (w:Zt),Au D w a c→Au D w b d→
 Zu Zb 37 #[c,d] w fun e w'=>e=.returned (.bool (Cb Da a b))∧∃n,w'=w.drewN n
theorem dC(x y:St):Da x y=(x.kind==y.kind && x.name==y.name && Dd x.args y.args && Cb Da x.thn y.thn && Cb Da x.els y.els):=by
 cases x;cases y;rw[Da,Mi,Mi];rfl
theorem lD(x y:St):(Da x y=false∧(x.kind !=y.kind)=true)∨(Da x y=false∧(x.kind !=y.kind)=false∧(x.name==y.name)=false)
  ∨(Da x y=false∧(x.kind !=y.kind)=false∧(x.name==y.name)=true∧Dd x.args y.args=false)
  ∨(Da x y=false∧(x.kind !=y.kind)=false∧(x.name==y.name)=true∧Dd x.args y.args=true∧Cb Da x.thn y.thn=false)
  ∨(Da x y=false∧(x.kind !=y.kind)=false∧(x.name==y.name)=true∧Dd x.args y.args=true∧Cb Da x.thn y.thn=true∧Cb Da x.els y.els=false)
  ∨(Da x y=true∧(x.kind !=y.kind)=false∧(x.name==y.name)=true∧Dd x.args y.args=true∧Cb Da x.thn y.thn=true∧Cb Da x.els y.els=true):=by
 rw[dC];simp only[bne]
 cases x.kind==y.kind<;>cases x.name==y.name<;>cases Dd x.args y.args<;>cases Cb Da x.thn y.thn<;>cases Cb Da x.els y.els<;>simp
theorem nX(d:List St)(am:∀x,x∈d→Xk x.thn)(al:∀x,x∈d→Xk x.els):Xk d:=by
 intro r D bn bo w F B;obtain⟨p,Z,rfl⟩:=F.shape;obtain⟨q,ad,rfl⟩:=B.shape;have bj:=F.fits.lt;have aZ:=B.fits.lt
 by_cases hl:r.length=d.length
 ·rw[hl]at B ⊢
  obtain⟨aF,aJ,aS,aQ,U⟩:=Y5 F B am al hl;clear F B am al hl aZ;go_enter func37,ntmps37;go_wp2
  go_loopw [5] (fun an wr=> ∃k:Nat,k≤d.length∧an= ι k∧(∀i,i<k→Da (d.getD i St.nil) (r.getD i St.nil)=true)∧∃n,wr=w.drewN n) (fun an _=>d.length-(Zv an).toNat)
  case atStart=>exact⟨0,Zc _,rfl,fun i aj=>by omega,0,rfl⟩
  case round=>
   obtain⟨k,bf,rfl,aB,S⟩:=hrel;obtain⟨az,V⟩:=Y2 aB S;have ao:Zr (Au D wr d (ρ p d Z)):=by obtain⟨n,rfl⟩:=S;exact Ec aF.o n
   have ap:Zr (Au D wr r (ρ q d ad)):=by obtain⟨n,rfl⟩:=S;exact Ec aJ.o n
   clear aB S
   by_cases hlt:k<d.length
   ·obtain⟨g,h,bq,br,bp,rfl,bb,bc,t,p,Z,u,v,ab,ac,aa⟩:=Au.cellAt ao.o k hlt
    obtain⟨j,l,bt,bu,bs,rfl,bd,be,y,q,ad,z,A,af,ag,ae⟩:=Au.cellAt ap.o k (by rw[U.o];exact hlt);obtain⟨aU,aV,rfl⟩:=ab.shape;obtain⟨aW,aX,rfl⟩:=af.shape;obtain⟨J,K,rfl⟩:=ac.shape;obtain⟨N,O,rfl⟩:=ag.shape;obtain⟨L,I,rfl⟩:=aa.shape;obtain⟨P,M,rfl⟩:=ae.shape;obtain⟨aH,aL,aI,aM,aG,aK⟩:=Y6 ab af ac ag aa ae;clear ab af ac ag aa ae bb bd bc be ao ap;obtain⟨aT,aR,aN⟩:=Y3 (aS.out _ (Jy hlt)) (aQ.out _ (Jy hlt)) hlt;have aA:=lD (Fk d k) (Fk r k);generalize aC:Fk d k=b at*;generalize aD:Fk r k=c at*;obtain⟨aO,aP⟩:=Y2 aC aD;clear aC aD;have aq:=Za aA;clear aA;have bh:(0:Int)≤(k:Int):=by omega
    have bi:(k:Int)<(d.length:Int):=by omega
    have ar:Zr (∀a,Zu Zb 15 #[ρ aU b.args aV,ρ aW c.args aX] (wr.drewN a) fun e w'=>e=.returned (.bool (Dd b.args c.args))∧∃n,w'=(wr.drewN a).drewN n):=fun a=>mP _ _ D _ _ _ (aH.o.drewN a) (aL.o.drewN a)
    have C:Zr (∀f,(∃a,f=wr.drewN a)→∀a,Zu Zb 37 #[ρ J b.thn K,ρ N c.thn O] (f.drewN a) fun e w'=>e=.returned (.bool (Cb Da b.thn c.thn))∧∃n,w'=(f.drewN a).drewN n):=by
     rintro f ⟨G,rfl⟩ a;exact aT.out _ D _ _ _ (Ec (Ec aI.o G) a) (Ec (Ec aM.o G) a)
    have au:Zr (∀f,(∃a,f=wr.drewN a)→∀a,Zu Zb 37 #[ρ L b.els I,ρ P c.els M] (f.drewN a) fun e w'=>e=.returned (.bool (Cb Da b.els c.els))∧∃n,w'=(f.drewN a).drewN n):=by
     rintro f ⟨G,rfl⟩ a;exact aR.out _ D _ _ _ (Ec (Ec aG.o G) a) (Ec (Ec aK.o G) a)
    have T:Zr (∀a,(wr.drewN a).cell? ⟨g,h+k*5,none⟩=some (ι b.kind)∧(wr.drewN a).cell? ⟨g,h+k*5+1,none⟩=some (σ b.name)∧(wr.drewN a).cell? ⟨g,h+k*5+3,none⟩=some (ρ J b.thn K)∧(wr.drewN a).cell? ⟨g,h+k*5+4,none⟩=some (ρ L b.els I)
     ∧(wr.drewN a).cell? ⟨j,l+k*5,none⟩=some (ι c.kind)∧(wr.drewN a).cell? ⟨j,l+k*5+1,none⟩=some (σ c.name)∧(wr.drewN a).cell? ⟨j,l+k*5+3,none⟩=some (ρ N c.thn O)∧(wr.drewN a).cell? ⟨j,l+k*5+4,none⟩=some (ρ P c.els M)):=fun a=>⟨t,p,u,v,y,q,z,A⟩
    generalize Dd b.args c.args=bk at*;generalize Cb Da b.thn c.thn=bm at*;generalize Cb Da b.els c.els=bl at*;go_wp2_with fail;go_quiet ((go_at_call 15;exact Zj (ar.o _)));clear t p Z u v y q ad z A ar;obtain⟨Y,R⟩:∃f,wr.drewN nq=f:=⟨_,rfl⟩;have W:Zr (∃a,Y=wr.drewN a):=⟨nq,R.symm⟩;rw[R];obtain⟨t,p,u,v,y,q,z,A⟩:=T.o nq;rw[R]at t p u v y q z A;have av:=Za (C.o Y W.o);clear C R;go_wp2_with fail;go_quiet ((go_at_call 37;exact Zj (av.o _)));clear t p u v y q z A av;obtain⟨m,ah⟩:∃f,Y.drewN nq=f:=⟨_,rfl⟩;have H:Zr (∃a,m=wr.drewN a):=by obtain⟨a,o⟩:=W.o;exact⟨a+nq,by rw[←ah,o,Zf]⟩
    rw[ah];clear ah W;obtain⟨t,p,u,v,y,q,z,A⟩:m.cell? ⟨g,h+k*5,none⟩=some (ι b.kind)∧m.cell? ⟨g,h+k*5+1,none⟩=some (σ b.name)∧m.cell? ⟨g,h+k*5+3,none⟩=some (ρ J b.thn K)∧m.cell? ⟨g,h+k*5+4,none⟩=some (ρ L b.els I)
     ∧m.cell? ⟨j,l+k*5,none⟩=some (ι c.kind)∧m.cell? ⟨j,l+k*5+1,none⟩=some (σ c.name)∧m.cell? ⟨j,l+k*5+3,none⟩=some (ρ N c.thn O)∧m.cell? ⟨j,l+k*5+4,none⟩=some (ρ P c.els M):=by
     obtain⟨a,o⟩:=H.o;rw[o];exact T.o a
    have aw:=Za (au.o m H.o);clear au;go_wp2_with fail;go_quiet ((go_at_call 37;exact Zj (aw.o _)));clear t p u v y q z A aw;obtain⟨s,ai⟩:∃f,m.drewN nq=f:=⟨_,rfl⟩;have X:Zr (∃a,s=wr.drewN a):=by obtain⟨a,o⟩:=H.o;exact⟨a+nq,by rw[←ai,o,Zf]⟩
    rw[ai];clear ai H;obtain⟨t,p,u,v,y,q,z,A⟩:s.cell? ⟨g,h+k*5,none⟩=some (ι b.kind)∧s.cell? ⟨g,h+k*5+1,none⟩=some (σ b.name)∧s.cell? ⟨g,h+k*5+3,none⟩=some (ρ J b.thn K)∧s.cell? ⟨g,h+k*5+4,none⟩=some (ρ L b.els I)
     ∧s.cell? ⟨j,l+k*5,none⟩=some (ι c.kind)∧s.cell? ⟨j,l+k*5+1,none⟩=some (σ c.name)∧s.cell? ⟨j,l+k*5+3,none⟩=some (ρ N c.thn O)∧s.cell? ⟨j,l+k*5+4,none⟩=some (ρ P c.els M):=by
     obtain⟨a,o⟩:=X.o;rw[o];exact T.o a
    have C:=Za aq.o;rcases C.o with⟨e,E⟩|⟨e,E,Q⟩|⟨e,E,Q,rfl⟩|⟨e,E,Q,rfl,rfl⟩|⟨e,E,Q,rfl,rfl,rfl⟩|⟨e,E,Q,rfl,rfl,rfl⟩
    all_goals
     have ax:Zr (Da (Fk d k) (Fk r k)=Da b c):=by show _=_;rw[aO.o,aP.o]
     have ay:=Za e;clear aq C e;go_wp2_with fail;go_quiet (fail);go_wp2_with fail
    iterate 5
     ·go_ret
      obtain⟨ba,ak⟩:=V.o;obtain⟨a,o⟩:=X.o;exact⟨Ae (Ii Da St.nil d r k U.o.symm aN.o (ax.o.trans ay.o)).symm,_,by rw[o,ak,Zf,Zf]⟩
    ·go_roundw
     case rel=>exact⟨k+1,by omega,by go_num,fun i aj=>by rcases Zq.1 aj with aY|rfl;exact az.o i aY;exact ax.o.trans ay.o,by obtain⟨ba,ak⟩:=V.o;obtain⟨a,o⟩:=X.o;exact⟨_,by rw[o,ak,Zf,Zf]⟩⟩
     case measure=>simp [Zv];omega
   ·go_wp2
    go_ret
    exact⟨Ae (Jm Da St.nil d r U.o.symm (fun i aj=>az.o i (by omega))).symm,V.o⟩
 ·have bg:((d.length:Int) !=(r.length:Int))=true:=by rw[bne_iff_ne];omega
  have aE:Zr (Cb Da d r=false):=Nf _ _ _ (by omega);clear F B am al hl;go_enter func37,ntmps37;go_wp2;go_ret
  exact⟨Ae aE.out.symm,0,rfl⟩
theorem Wm:∀(n:Nat) (l:List St),SizeOf.sizeOf l≤n→Xk l
 |0,l,h=>by cases l<;>simp at h
 |n+1,l,h=>nX l
  (fun x hx=>Wm n x.thn (by
   have a:=Zn hx
   cases x with
   |mk k nm us t e=>show SizeOf.sizeOf t≤n;simp at a;omega))
  (fun x hx=>Wm n x.els (by
   have a:=Zn hx
   cases x with
   |mk k nm us t e=>show SizeOf.sizeOf e≤n;simp at a;omega))
theorem tC(l:List St):Xk l:=Wm _ l (Zh _)
def fC(l:List St):Prop:= ∀(a:Nat),a≤42→∀(D:Nat→Prop) (v:Value) (w:Zt),Au D w l v→
 Zu Zb 75 #[v,.int .i64 a] w fun e w'=>e=.returned (.int .i64 (Kx a l))∧∃n,w'=w.drewN n
abbrev tO(m:Nat)(x:St):Nat:=max (1+Kx m x.thn) (1+Kx m x.els)
theorem rY(l:List St)(P:∀x,x∈l→fC x.thn)(O:∀x,x∈l→fC x.els):fC l:=by
 intro b av D v w h;obtain⟨a,c,rfl⟩:=h.shape;have aD:=h.fits.lt;obtain⟨Q,m,i⟩:=Y3 h P O;clear h P O;have r:Zr (Kx 0 l=0):=by show _=_;rw[Kx]
 have s:Zr (0<b→Kx b l=l.foldl (fun n x=>max n (tO (b-1) x)) 0):=by
  intro aq;obtain⟨q,rfl⟩:∃q,b=q+1:=⟨b-1,by omega⟩;rw[Kx];rfl
 have aw:(b:Int)≤42:=by omega
 go_enter func75,ntmps75;go_wp2
 go_loopw [5,6] (fun ae C wr=> ∃k n:Nat,k≤l.length∧C= ι k∧ae= ι n∧n=(l.take k).foldl (fun n x=>max n (tO (b-1) x)) 0∧n≤43∧(b=0→k=0)∧∃j,wr=w.drewN j) (fun _ C _=>l.length-(Zv C).toNat)
 case atStart=>exact⟨0,0,Zc _,rfl,rfl,by simp,by omega,fun _=>rfl,0,rfl⟩
 case round=>
  obtain⟨k,n,ar,rfl,rfl,d,az,A,z⟩:=hrel;have p:=Za z;have E:Zr (Au D wr l (ρ a l c)):=by obtain⟨n,rfl⟩:=z;exact Ec Q.out n
  clear z
  by_cases hlt:k<l.length
  ·have au:(k:Int)<(l.length:Int):=by omega
   by_cases hm0:0<b
   ·have ax:(b:Int)>0:=by omega
    have ay:(0:Int)<(b:Int):=by omega
    obtain⟨am,aE,ao,ap,an,rfl,ab,ac,W,X,Y,Z,aa,ad,y,t⟩:=Au.cellAt E.o k hlt;obtain⟨af,ag,rfl⟩:=y.shape;obtain⟨u1,u2,rfl⟩:=t.shape;obtain⟨I,H,L,K⟩:=Y4 y t (m.out _ (Jy hlt) (b-1) (by omega)) (i.out _ (Jy hlt) (b-1) (by omega));have J:Zr (max n (tO (b-1) (Fk l k))=(l.take (k+1)).foldl (fun n x=>max n (tO (b-1) x)) 0):=by show _=_;rw[bX St.nil hlt,←d]
    have aA:=Qy (b-1) (Fk l k).thn;have aB:=Qy (b-1) (Fk l k).els;clear ad y t ab ac E m i d;have F:Zr (∀q,Zu Zb 75 #[.slice af (Fk l k).thn.length ag,ι ((b-1:Nat):Int)] (wr.drewN q) fun e w'=>e=.returned (ι (Kx (b-1) (Fk l k).thn))∧∃n,w'=(wr.drewN q).drewN n):=fun q=>L.out D _ _ (Ec I.o q)
    have G:Zr (∀q,Zu Zb 75 #[.slice u1 (Fk l k).els.length u2,ι ((b-1:Nat):Int)] (wr.drewN q) fun e w'=>e=.returned (ι (Kx (b-1) (Fk l k).els))∧∃n,w'=(wr.drewN q).drewN n):=fun q=>K.out D _ _ (Ec H.o q)
    clear L K I H;have T:IntKind.i64.wrap ((b:Int)-1)=((b-1:Nat):Int):=by rw[show((b-1:Nat):Int)=(b:Int)-1 by omega];exact Zg _ (by omega)
    unfold tO at J;generalize Fk l k=x at*;generalize Kx (b-1) x.thn=g at*;generalize Kx (b-1) x.els=f at*;generalize x.els.length=u at*;generalize x.thn.length=aF at*;have ai:(g:Int)≤42:=by omega
    have aj:(f:Int)≤42:=by omega
    have ak:(0:Int)≤(g:Int):=by omega
    have al:(0:Int)≤(f:Int):=by omega
    have U:IntKind.i64.wrap (1+(g:Int))=1+(g:Int):=Zg _ (by omega);have V:IntKind.i64.wrap (1+(f:Int))=1+(f:Int):=Zg _ (by omega);have ah:=Za hlt;clear A;go_wp2_with fail;go_quiet ((go_at_call 75;first|(with_reducible exact Zj (F.o _))|(with_reducible exact Zj (G.o _))));have R:Zr (∃n,wr.drewN nq=w.drewN n):=by obtain⟨n,d⟩:=p.o;exact⟨_,by rw[d,Zf]⟩
    clear W X Y Z aa F G T U V;go_wp2;go_roundw
    case rel=>exact⟨k+1,max n (max (1+g) (1+f)),by omega,by go_num,by first|go_num|(congr 1;omega),J.o,by omega,fun h=>absurd hm0 (by omega),R.o⟩
    case measure=>simp [Zv];omega
   ·obtain rfl:b=0:=by omega
    obtain rfl:=A rfl;have B:n=0:=by rw[d];simp
    subst B;clear d m i s;have aC:¬(((0:Nat):Int)>0):=by omega
    go_wp2;go_ret
    exact⟨by rw[r.o];rfl,p.o⟩
  ·have M:l.take k=l:=List.take_of_length_le (by omega)
   rw[M]at d;have N:Kx b l=n:=by
    by_cases hm0:0<b
    ·rw[s.o hm0,d]
    ·obtain rfl:b=0:=by omega
     obtain rfl:=A rfl;have B:n=0:=by
      have:l=[]:=List.length_eq_zero_iff.1 (by omega);rw[d,this];rfl
     rw[B,r.o]
   have S:=Za N;clear N d M r s m i;go_wp2;go_ret
   exact⟨by rw[S.o];rfl,p.o⟩
theorem dR:∀(n:Nat) (l:List St),SizeOf.sizeOf l≤n→fC l
 |0,l,h=>by cases l<;>simp at h
 |n+1,l,h=>rY l
  (fun x hx=>dR n x.thn (by
   have a:=Zn hx
   cases x with
   |mk k nm us t e=>show SizeOf.sizeOf t≤n;simp at a;omega))
  (fun x hx=>dR n x.els (by
   have a:=Zn hx
   cases x with
   |mk k nm us t e=>show SizeOf.sizeOf e≤n;simp at a;omega))
theorem far_any(l:List St):fC l:=dR _ l (Zh _)
end Go.Proofs.YthcpopmmlneneaaGreatDoor
