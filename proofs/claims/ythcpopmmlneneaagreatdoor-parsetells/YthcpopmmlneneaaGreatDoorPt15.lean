/-
  Plain functions: are two programs the same; how many statements and expressions there are. No program in sight.
-/
import Derived.Test.YthcpopmmlneneaaGreatDoorRows
import Derived.ProofKit
import Derived.OpenShut
import Derived.Deep.DeepHandedRow
import Derived.Lib.LaidTab
import Derived.ChangeSame
import Derived.Lib.ItoaLen
import Derived.Lib.AtoiTie
import Derived.Test.YthcpopmmlneneaaGreatDoorPt11
import Derived.Lib.ValidU
import Derived.Lib.IndexMore
import Derived.WideLaws
import Derived.Lib.SmallJoins
import Derived.ChangeSlices
import Derived.WideKeyArgs
import Derived.Lib.LaidU8T
import Derived.PinnedBridge
import Derived.Shelf.Vars
import Derived.SizedLaws
import Derived.Test.YthcpopmmlneneaaGreatDoorPt14
import Derived.BigRegion
import Derived.Test.YthcpopmmlneneaaGreatDoorPt12
import Derived.Lib.MapLaws
import Derived.Lib.TrimUEq
import Derived.Laws.RangeString
import Derived.Lib.ItoaMem
set_option linter.unusedVariables false
set_option linter.unusedSimpArgs false
namespace Go.Proofs.YthcpopmmlneneaaGreatDoor
open Go.ChangeShapes Go.WideShapes Go.ChangeAt Go.RowKit
theorem Re {P:Program}{x:String ×DataW Unit}{l:List (String ×DataW Unit)}{a:World}(c:laidMet P (x::l) a):laidMet P l a:=by
 obtain⟨n,d⟩:=x;obtain⟨v,⟨g,t,k,m,p,q,r,s,u,o,i,rfl⟩,h,e⟩:=c;refine⟨q,i,(List.nodup_append.1 h).2.1,fun b j f=>e b j (List.mem_append_right _ f)⟩
theorem jT {i:Type}{enc:TypeId ×Value→i}{P:Program}{f:Func}{s:ChangeSpec}{o D G C:Bool}{g h:World}{args:Array Value}{v:Value}{l gs:List (DataW i)}{a pa pv:List MemPlace}
  (n:DataW.Whole enc P f.params.toList s.vars o g args.toList l gs a)
  (w:∀(b:Nat) (d:Nat→Bool) (H:Bool),DataW.TrodAll enc P h b d H f.resultTypes.toList (v.resultList f.resultTypes.size) (s.fn i (l++gs)).results [])
  (q:∀d:Nat→Bool,(∀p∈a,d p.block=true)→DataW.TrodAll enc P h 0 d true f.params.toList args.toList (s.fn i (l++gs)).args pa)
  (x:∀d:Nat→Bool,(∀p∈a,d p.block=true)→DataW.TrodVars enc P h d s.vars (s.fn i (l++gs)).vars pv)
  (m:a=pa++pv) (r:Below g.heap.size g h)
  (I:∀(j:Nat) (t:TypeId) (B:Value),f.resultTypes[j]? =some t→(v.resultList f.resultTypes.size)[j]? =some B→Value.okWide P h .any 0 t B):
  s.post enc P f o D G C g args v h:=by
 have y:∀p∈a,p.block<g.heap.size:=n.lt;have A:∀p∈a,(fun k=>decide (k<g.heap.size)) p.block=true:=fun p c=>decide_eq_true (y p c)
 refine⟨l,gs,a,[],pa,pv,n,w _ _ _,q _ A,x _ A,World.keptBut_mono (fun p c=>⟨c,.inr (by rw[m]at c;exact List.mem_append.1 c)⟩) (r.frame (· ∈a)),fun _=>?_⟩;obtain⟨_,_,_,_,_,E,J⟩:=n;refine⟨I,_,_,([]++pa)++pv,⟨[]++pa,pv,trodAll_append (q _ (fun _ _=>rfl)) (w _ _ _),x _ (fun _ _=>rfl),rfl,fun b z c=>?_,fun F=>?_⟩,fun p c _=>?_⟩
 ·have u:MemPlace.cell b z∈a:=by rw[m];exact c
  have e:=E b z u;rw[←r.frozen (y _ u)]at e;exact e
 ·have e:=J F
  rw[m]at e;exact e
 ·rw[m];exact c
end Go.Proofs.YthcpopmmlneneaaGreatDoor
namespace Go.Proofs.YthcpopmmlneneaaGreatDoor
open Go.RowKit Go.Proofs.Tryz
set_option maxHeartbeats 20000000
set_option maxRecDepth 100000
open Go renaming World→Zh,Calls→Zi,bodyPost_ret→Zj
open Go.Lib renaming hid→Za,decodeGo→Zc,itoa→Zd,hasPrefix→Ze,atoiAll→Zf
open Go.Proofs.Tryz renaming prog→Zb
open List renaming takeWhile_cons→Zg
theorem aD(u:Nat):Lib.decDigits u≠[]:=by
 rw[Lib.decDigits];split
 ·exact List.cons_ne_nil _ _
 ·simp
def Nv(a:Int):Bool:=decide (a=32∨a=9∨a=10∨a=13)
def Bf(c:UInt8):Bool:=c==32||c==9||c==10||c==13
def Fi(c:UInt8):Bool:=Bu c||Ax c
theorem It(p:UInt8→Bool)(l:Bs):l=l.takeWhile p++l.dropWhile p∧(∀c,c∈l.takeWhile p→p c=true)∧(l.dropWhile p=[]∨∃c d,l.dropWhile p=c::d∧p c=false):=by
 refine⟨(List.takeWhile_append_dropWhile).symm,fun c b=>?_,?_⟩
 ·induction l with
  |nil=>cases b
  |cons a l ih=>
   rw[Zg]at b;split at b
   ·rcases List.mem_cons.1 b with rfl|b
    ·assumption
    ·exact ih b
   ·cases b
 ·induction l with
  |nil=>exact .inl rfl
  |cons a l ih=>
   rw[List.dropWhile_cons]
   cases h:p a with
   |true=>rw[if_pos rfl];exact ih
   |false=>exact .inr ⟨a,l,rfl,h⟩
theorem oU(a:Int)(w:Zh):Zi Zb 159 #[.int .i32 a] w fun e w'=>e=.returned (.bool (Nv a))∧w=w':=by
 go_enter func159,ntmps159
 go_wp2
 all_goals go_ret
 all_goals(refine⟨Ae ?_,rfl⟩;rw[Bool.eq_iff_iff];simp [Nv];try omega)
theorem pR(a:Int)(w:Zh):Zi Zb 183 #[.int .i32 a] w fun e w'=>e=.returned (.bool (Gz a||Jd a))∧w=w':=by
 cases hl:Gz a
 ·go_enter func183,ntmps183
  go_wp2_with fail;refine(Iw).mono ?_;rw[hl];rintro e b ⟨rfl,rfl⟩;go_wp2_with fail;refine(Mu _ _).mono ?_;rintro e b ⟨rfl,rfl⟩;go_wp2;go_ret
  exact⟨rfl,rfl⟩
 ·go_enter func183,ntmps183
  go_wp2_with fail;refine(Iw).mono ?_;rw[hl];rintro e b ⟨rfl,rfl⟩;go_wp2;go_ret
  exact⟨rfl,rfl⟩
def Ut(b:Int→Bool)(c:UInt8→Bool):Prop:= ∀(l:Bs) (k:Nat) (e:k<l.length),∃a d,Utf8.decode (Aa l) k=(a,d)∧b a=c l[k]∧(b a=true→d=1)∧a≤2147483647
theorem on_word:Ut (fun a=>Gz a||Jd a) Fi:=fun l k b=>by
 obtain⟨a,d,e,j,f,g,c,h⟩:=decode_at l k b;refine⟨a,d,e,(by show(Gz a||Jd a)=(Bu l[k]||Ax l[k]);rw[f,g]),fun i=>?_,h⟩;rcases(Bool.or_eq_true _ _).mp i with b|b
 ·exact(c (Tu b)).2
 ·exact(c (Qd b)).2
theorem vF:Ut Jd Ax:=fun l k a=>by
 obtain⟨h,d,b,i,j,c,e,f⟩:=decode_at l k a;exact⟨h,d,b,c,fun g=>(e (Qd g)).2,f⟩
theorem bO{c:UInt8}:Nv (c.toNat:Nat)=Bf c:=by
 rw[Bool.eq_iff_iff];simp [Nv,Bf,←UInt8.toNat_inj];omega
theorem tH:Ut Nv Bf:=fun l k b=>by
 obtain⟨a,d,c,n,o,p,f,i⟩:=decode_at l k b;have e:∀a:Nat,Nv a=true→a<128:=fun a b=>by simp [Nv]at b;omega
 refine⟨a,d,c,?_,fun m=>(f (e a m)).2,i⟩
 by_cases hr:a<128
 ·rw[(f hr).1];exact bO
 ·have j:Nv a=false:=by cases hq:Nv (a:Nat)with|false=>rfl|true=>exact absurd (e a hq) hr
  rw[j];have h:k<(Aa l).size:=b;have g:(Aa l)[k]'h=l[k]:=rfl
  cases hq:Bf l[k]with
  |false=>rfl
  |true=>
   rw[←bO]at hq;have:=e _ hq;rw[decode_ascii (Aa l) k h (by rw[g];exact this)]at c
   cases c
   exact absurd (by rw[g];exact this) hr
theorem cF{n:Nat}{r:Int→Bool}{j:UInt8→Bool}(C:∀(m:Int) (w:Zh),Zi Zb n #[.int .i32 m] w fun e w'=>e=.returned (.bool (r m))∧w=w')(I:Ut r j)(B:∀(args:Array Value) (w:Zh),Sem.run Zb (callFunc n args) w=.ok (.enter n args) w)(l:Bs)(w:Zh):
  Zi Zb 158 #[.string (Aa l),.func (.func n) #[] #[]] w fun e w'=>e=.returned (.int .i64 (l.takeWhile j).length)∧Below w.heap.size w w':=by
 obtain⟨z,M,y⟩:=Y3 C I B;obtain⟨i,u,f⟩:=It j l;obtain⟨a,D⟩:∃a,l.takeWhile j=a:=⟨_,rfl⟩;obtain⟨b,E⟩:∃b,l.dropWhile j=b:=⟨_,rfl⟩;rw[D]at i u ⊢;rw[E]at i f;obtain⟨A,J,K⟩:=Y3 i u f;have G:l.length=a.length+b.length:=by rw[i,List.length_append]
 have T:a.length≤l.length:=by omega
 clear C I B i u f D E;have L:=Za G;clear G;go_enter func158,ntmps158;go_wp2
 go_loopw [5,6] (fun _ _ wr=> ∃k:Nat,k≤a.length∧wr=w.iter (Aa l) k) (fun _ _ wr=>a.length+1-wr.iterPos w.heap.size)
 case atStart=>exact⟨0,Nat.zero_le _,rfl⟩
 case round=>
  obtain⟨k,S,rfl⟩:=hrel
  by_cases hlt:k<l.length
  ·have H:=fun x=>run_next_any (P:=Zb) w (Aa l) k x hlt
   obtain⟨m,d,v,p,t,R⟩:=M.o l k hlt;rw[v]at H
   by_cases hka:k<a.length
   ·have h:l[k]=a[k]:=by have:=A.o;subst this;exact List.getElem_append_left hka
    have g:r m=true:=by rw[p,h];exact J.o _ (List.getElem_mem hka)
    obtain rfl:=t g;have s:=Za g;clear h g p t v;go_wp2_with fail;rw[y.o,Oper.upon_enter];refine(z.o _ _).mono ?_;rw[s.o];rintro e Q ⟨rfl,rfl⟩;go_wp2;go_roundw
    case rel=>exact⟨k+1,hka,rfl⟩
    case measure=>simp;omega
   ·have O:k=a.length:=by omega
    subst O;have N:b≠[]:=by intro e;have:=L.o;rw[e]at this;simp at this;omega
    obtain⟨c,q,f,F⟩:=K.o.resolve_left N;have h:l[a.length]=c:=by have:=A.o;subst this;subst f;simp
    have g:r m=false:=by rw[p,h];exact F
    have s:=Za g;clear h F f p t v g;go_wp2_with fail;rw[y.o,Oper.upon_enter];refine(z.o _ _).mono ?_;rw[s.o];rintro e Q ⟨rfl,rfl⟩;go_wp2;go_ret
    exact⟨rfl,bA⟩
  ·have H:=fun x=>run_next_end (P:=Zb) w (Aa l) k x hlt
   have U:l.length=a.length:=by omega
   go_wp2;go_ret
   exact⟨Iv (by omega),bA⟩
theorem qP(l:Bs)(w:Zh):Zi Zb 158 #[.string (Aa l),.func (.func 159) #[] #[]] w fun e w'=>e=.returned (.int .i64 (l.takeWhile Bf).length)∧Below w.heap.size w w':=cF oU tH (fun _ _=>rfl) l w
theorem sW(l:Bs)(w:Zh):Zi Zb 158 #[.string (Aa l),.func (.func 183) #[] #[]] w fun e w'=>e=.returned (.int .i64 (l.takeWhile Fi).length)∧Below w.heap.size w w':=cF pR on_word (fun _ _=>rfl) l w
theorem pW(l:Bs)(w:Zh):Zi Zb 158 #[.string (Aa l),.func (.func 124) #[] #[]] w fun e w'=>e=.returned (.int .i64 (l.takeWhile Ax).length)∧Below w.heap.size w w':=cF Mu vF (fun _ _=>rfl) l w
def Pa:List Bs:=[[61,61],[33,61],[60,61],[62,61],[60,60],[62,62],[40],[41],[123],[125],[91],[93],[44],[59],[61],[124],[94],[38],[43],[45],[42],[47],[37],[33],[126],[60],[62]]
def Ga(l:Bs):Bool:=Pa.contains l
theorem Vy {t:Bs}(a:Ga t=true):t=[61,61]∨t=[33,61]∨t=[60,61]∨t=[62,61]∨t=[60,60]∨t=[62,62]∨t=[40]∨t=[41]∨t=[123]∨t=[125]∨t=[91]∨t=[93]∨t=[44]∨t=[59]∨t=[61]∨t=[124]∨t=[94]∨t=[38]∨t=[43]∨t=[45]∨t=[42]∨t=[47]∨t=[37]∨t=[33]∨t=[126]∨t=[60]∨t=[62]:=by
 simpa [Ga,Pa]using a
def Cr(l:Bs):Nat:=l.count 10
abbrev T4:=Int ×Bs ×Int
def Nw(s:Bs):Option T4:=if Es (s.takeWhile Fi)=true then some (2,s.takeWhile Fi,0)else if Ak (s.takeWhile Fi)=true then some (1,s.takeWhile Fi,0)else none
def Sw(s:Bs):Option T4:=match Zf (s.takeWhile Ax)with
 |.ok n=>if Zd n=s.takeWhile Ax then some (3,s.takeWhile Ax,n)else none
 |_=>none
def Ny(a:Nat):Bool:=decide (a<32∨a=39∨a=92∨a=65533)
def Oq(s:Bs):Option T4:=if Ny (Zc (Aa (s.drop 1))).1=true then none else if Ze (s.drop (1+(Zc (Aa (s.drop 1))).2)) [39]=true then some (3,s.take ((Zc (Aa (s.drop 1))).2+2),((Zc (Aa (s.drop 1))).1:Int))else none
def Hq(s:Bs):Option T4:=if Ga (s.take 2)=true then some (4,s.take 2,0)else if Ga (s.take 1)=true then some (4,s.take 1,0)else none
def Ln(s:Bs):Option T4:=match s with
 |[]=>none
 |c::_=>if Bu c=true then Nw s else if Ax c=true then Sw s else if c=39 then Oq s else Hq s
def By(s:Bs):Bs:=(Lib.cut s [10]).1
def bS(s:Bs):Bool:=Lib.validD (By s) && !Lib.contains (By s) [239,191,189]
def Dc:Nat→Bs→Bs ×Nat ×Bool
 |0,s=>(s,0,true)
 |f+1,s=>if Ze (s.dropWhile Bf) [47,47]=true then
   (if bS (s.dropWhile Bf)=true then((Dc f ((s.dropWhile Bf).drop (By (s.dropWhile Bf)).length)).1,Cr (s.takeWhile Bf)+(Dc f ((s.dropWhile Bf).drop (By (s.dropWhile Bf)).length)).2.1,(Dc f ((s.dropWhile Bf).drop (By (s.dropWhile Bf)).length)).2.2)
   else(s.dropWhile Bf,Cr (s.takeWhile Bf),false))
  else(s.dropWhile Bf,Cr (s.takeWhile Bf),true)
def Hr:Nat→Bs→Nat→Except Nat (List Tk)
 |0,_,line=>.error line
 |f+1,s,line=>
  if(Dc (s.length+1) s).2.2=true then
   (if(Dc (s.length+1) s).1=[]then .ok [⟨5,[],0,((line+(Dc (s.length+1) s).2.1:Nat):Int)⟩]
   else match Ln (Dc (s.length+1) s).1 with
    |none=>.error (line+(Dc (s.length+1) s).2.1)
    |some (k,x,n)=>match Hr f ((Dc (s.length+1) s).1.drop x.length) (line+(Dc (s.length+1) s).2.1)with
     |.error e=>.error e
     |.ok l=>.ok (⟨k,x,n,((line+(Dc (s.length+1) s).2.1:Nat):Int)⟩::l))
  else .error (line+(Dc (s.length+1) s).2.1)
theorem gL(n a b c d:Nat)(e:1≤n):(Lib.decodeN n a b c d).2≤n∧(Lib.decodeN n a b c d).2≤4:=by
 unfold Lib.decodeN
 repeat' split
 all_goals(simp only;omega)
theorem eW(s:Bs):(Zc (Aa s)).2≤s.length∧(Zc (Aa s)).2≤4:=by
 have a:(Aa s).size=s.length:=by show s.toArray.size=_;simp
 unfold Zc;split
 ·simp
 ·rw[Lib.decode_at]
  have:=gL ((Aa s).size-0) ((Aa s).get! 0).toNat ((Aa s).get! (0+1)).toNat ((Aa s).get! (0+2)).toNat ((Aa s).get! (0+3)).toNat (by omega);rw[←a];omega
theorem Jl(s:Bs):(Zc (Aa s)).1≤2147483647:=by
 unfold Zc;split
 ·decide
 ·exact decode_le _ _
theorem gN {l:Bs}{n:Int}(a:Zf l=.ok n):I64 n:=by
 unfold Zf at a
 cases l with
 |nil=>cases a
 |cons c r=>
  dsimp only at a;split at a
  ·cases a
  ·cases a
  ·rename_i u g
   split at a
   ·cases a
   ·split at a
    ·cases a
    ·rename_i e f
     cases a
     show _∧_
     split
     ·rename_i b;have:¬9223372036854775808<u:=fun d=>f ⟨b,d⟩;constructor<;>omega
     ·rename_i b;have:¬9223372036854775808≤u:=fun d=>e ⟨b,d⟩;constructor<;>omega
theorem Rf(p:UInt8→Bool)(s:Bs):s.drop (s.takeWhile p).length=s.dropWhile p:=by
 have c:=(It p s).1;obtain⟨a,d⟩:∃a,s.takeWhile p=a:=⟨_,rfl⟩;obtain⟨b,e⟩:∃b,s.dropWhile p=b:=⟨_,rfl⟩;rw[d,e]at c ⊢;rw[c];exact List.drop_left
theorem Kr(p:UInt8→Bool)(s:Bs):s=s.takeWhile p++s.drop (s.takeWhile p).length:=by
 rw[Rf];exact(It p s).1
theorem Ov(p:UInt8→Bool)(s:Bs):(s.takeWhile p).length≤s.length:=by
 have:=congrArg List.length (Kr p s);rw[List.length_append]at this;omega
theorem Ux {s:Bs}{k:Int}{x:Bs}{n:Int}(a:Ln s=some (k,x,n)):x≠[]∧s=x++s.drop x.length∧I64 n∧(1≤k∧k≤4):=by
 have g:I64 0:=⟨by decide,by decide⟩;have e:∀d,s≠[]→s.take (d+1)≠[]∧s=s.take (d+1)++s.drop (s.take (d+1)).length:=by
  intro d b;constructor
  ·cases s with
   |nil=>exact absurd rfl b
   |cons c t=>simp
  ·rw[List.length_take]
   rcases Nat.le_total (d+1) s.length with a|a
   ·rw[Nat.min_eq_left a,List.take_append_drop]
   ·rw[Nat.min_eq_right a,List.drop_length,List.append_nil,List.take_of_length_le a]
 cases s with
 |nil=>cases a
 |cons c t=>
  have b:c::t≠[]:=by simp
  unfold Ln at a;dsimp only at a;split at a
  ·rename_i h
   have f:(c::t).takeWhile Fi≠[]:=by rw[Zg,show Fi c=true by unfold Fi;rw[h];rfl];simp
   unfold Nw at a;split at a
   ·cases a;exact⟨f,Kr _ _,g,by decide,by decide⟩
   ·split at a
    ·cases a;exact⟨f,Kr _ _,g,by decide,by decide⟩
    ·cases a
  ·split at a
   ·rename_i i
    have f:(c::t).takeWhile Ax≠[]:=by rw[Zg,i];simp
    unfold Sw at a;split at a
    ·rename_i d j
     split at a
     ·cases a;exact⟨f,Kr _ _,gN j,by decide,by decide⟩
     ·cases a
    ·cases a
   ·split at a
    ·unfold Oq at a
     split at a
     ·cases a
     ·split at a
      ·cases a
       have l:=Jl ((c::t).drop 1);exact⟨(e _ b).1,(e _ b).2,⟨by omega,by omega⟩,by decide,by decide⟩
      ·cases a
    ·unfold Hq at a
     split at a
     ·cases a;exact⟨(e 1 b).1,(e 1 b).2,g,by decide,by decide⟩
     ·split at a
      ·cases a;exact⟨(e 0 b).1,(e 0 b).2,g,by decide,by decide⟩
      ·cases a
theorem tZ(c:Bs)(s:Bs)(a:(10:UInt8) ∉ c):Lib.index (c++10::s) [10]=(c.length:Int):=by
 induction c with
 |nil=>simp [Lib.index]
 |cons x c ih=>
  have hx:x≠10:=fun e=>a (by rw[e];exact List.mem_cons_self)
  have i:=ih (fun b=>a (List.mem_cons_of_mem _ b));rw[List.cons_append,Lib.index];have d:([10]:List UInt8).isPrefixOf (x::(c++10::s))=false:=by
   simp [List.isPrefixOf];exact fun e=>hx e.symm
  rw[d,i];have:((c.length:Int)== -1)=false:=by rw[beq_eq_false_iff_ne];omega
  rw[this];simp
theorem gP:∀c:Bs,(10:UInt8) ∉ c→Lib.index c [10]= -1
 |[],_=>by simp [Lib.index]
 |x::c,h=>by
  have hx:x≠10:=fun e=>h (by rw[e];exact List.mem_cons_self)
  have i:=gP c (fun a=>h (List.mem_cons_of_mem _ a));rw[Lib.index];have b:([10]:List UInt8).isPrefixOf (x::c)=false:=by
   simp [List.isPrefixOf];exact fun e=>hx e.symm
  rw[b,i];rfl
theorem Oj(s:Bs):By s=s.takeWhile (fun c=>c !=10):=by
 obtain⟨d,e,f⟩:=It (fun c=>c !=10) s;obtain⟨a,h⟩:∃a,s.takeWhile (fun c=>c !=10)=a:=⟨_,rfl⟩;obtain⟨b,i⟩:∃b,s.dropWhile (fun c=>c !=10)=b:=⟨_,rfl⟩;rw[h]at d e ⊢;rw[i]at d f;have g:(10:UInt8) ∉ a:=fun k=>absurd (e 10 k) (by decide)
 unfold By;rw[d];rcases f with rfl|⟨c,l,rfl,j⟩
 ·rw[List.append_nil]
  unfold Lib.cut;rw[gP a g,if_neg (by decide)]
 ·have:c=10:=by simpa using j
  subst this;unfold Lib.cut;rw[tZ a l g,if_pos (by omega)];simp
theorem eG {s:Bs}(c:Ze s [47,47]=true):2≤(By s).length:=by
 rw[Oj]
 match s,c with
 |[],c=>exact absurd c (by decide)
 |[a],c=>simp [Ze]at c
 |a::b::t,c=>
  have:a=47∧b=47:=by simp [Ze]at c;exact⟨c.1.symm,c.2.symm⟩
  obtain⟨rfl,rfl⟩:=this;rw[Zg,if_pos (by decide),Zg,if_pos (by decide)];simp
theorem Uz(s:Bs):(By s).length≤s.length:=by rw[Oj];exact Ov _ _
def rP(w:Zh):Prop:=Lib.TabIs Zb w "internal/strconv.uint64pow10" .u64 Lib.pow10Tab
theorem rP.keep {w w':Zh}(a:rP w)(b:w'.heap[0]? =w.heap[0]?):rP w':=by
 have c:Tryz.prog.globalNamed "internal/strconv.uint64pow10" =some 0:=by kernel_rfl
 unfold rP Lib.TabIs World.var? at*;simp only[c,Option.bind_eq_bind,Option.bind_some]at*;rw[b];exact a
structure Lu (w:Zh):Prop where
 pow:rP w
 max:∃m,w.cell? ⟨1,0,none⟩=some (.int .i64 m)
 utf:Lib.Utf8Tabs 2 3 w
 syn:∃te pe,w.cell? ⟨6,0,none⟩=some (.iface te pe)
 ran:∃te pe,w.cell? ⟨7,0,none⟩=some (.iface te pe)
theorem Lu.lt {w:Zh}(b:Lu w):0<w.heap.size:=by
 have a:Tryz.prog.globalNamed "internal/strconv.uint64pow10" =some 0:=by kernel_rfl
 exact World.block_lt_of_cell? _ _ (Lib.TabIs.cell b.pow a 0 (by decide))
theorem Lu.old {w w':Zh}(a:Lu w)(b:Below w.heap.size w w'):Lu w':=
 ⟨a.pow.keep (b.block _ a.lt),by obtain⟨d,c⟩:=a.max;exact⟨d,Ac b c⟩,Utf8Tabs_below a.utf b,by obtain⟨d,p,c⟩:=a.syn;exact⟨d,p,Ac b c⟩,by obtain⟨d,p,c⟩:=a.ran;exact⟨d,p,Ac b c⟩⟩
theorem qU(n:Int)(a: -9223372036854775808≤n)(b:n≤9223372036854775807)(w:Zh)(d:rP w):
  Zi Zb 18 #[.int .i64 n] w fun e w'=>e=.returned (.string (Aa (Zd n)))∧Below w.heap.size w w':=by
 refine(Tryz.strconv_Itoa n a b w d).mono ?_;rintro e w' ⟨rfl,k,f,rfl⟩;exact⟨rfl,rfl,rfl,rfl,by simp,fun i c=>by simp [Sort.grow,World.drewN,Array.getElem?_append_left c]⟩
theorem qJ(t:Bs)(j:t.length≤1000000)(w:Zh)(f:Lu w):
  Zi Zb 184 #[.string (Aa t)] w fun e w'=>(match Zf t with|.ok n=>e=.returned (.tuple #[.int .i64 n,.nilIface])|_=> ∃n g p,e=.returned (.tuple #[.int .i64 n,.iface g p]))∧Below w.heap.size w w':=by
 have i:(Aa t).size=t.length:=by show t.toArray.size=_;simp
 cases ha:Zf t
 ·rename_i v
  refine(Tryz.strconv_Atoi_ok (Aa t) (by omega) v ha w).mono ?_;rintro e w' ⟨rfl,h⟩;refine⟨rfl,?_⟩;rcases h with rfl|⟨u,rfl⟩
  ·exact Below.refl _ _
  ·exact Joins.below_bytesWorld _ w 5 u (Nat.le_refl _)
 ·obtain⟨d,c,b⟩:=f.syn
  refine(Any.strconv_Atoi_syntax Tryz.laysC172 (Aa t) (by omega) ha _ w b (.inr ⟨d,c,rfl⟩)).mono ?_;rintro e w' ⟨N,rfl,_,_,a⟩;exact⟨⟨_,_,_,rfl⟩,a⟩
 ·obtain⟨d,c,b⟩:=f.ran
  refine(Any.strconv_Atoi_range Tryz.laysC172 (Aa t) (by omega) ha _ w b (.inr ⟨d,c,rfl⟩)).mono ?_;rintro e w' ⟨N,rfl,_,_,a⟩;exact⟨⟨_,_,_,rfl⟩,a⟩
def Fb(kind:Int)(b:Bs)(n a:Int):Value:=.agg #[.int .i64 kind,.string (Aa b),.int .i64 n,.int .i64 a]
theorem Lp(a:Zh){w:Zh}(b:Below a.heap.size a w){c d e f:Value}:Below a.heap.size a ((((w.setCell ⟨a.heap.size,0,none⟩ c).setCell ⟨a.heap.size,1,none⟩ d).setCell ⟨a.heap.size,2,none⟩ e).setCell ⟨a.heap.size,3,none⟩ f):=
 have st:∀(v:Zh) (i:Nat) (x:Value),Below a.heap.size v (v.setCell ⟨a.heap.size,i,none⟩ x):=fun v i x=>(Below.refl _ _).setCell (p:=⟨a.heap.size,i,none⟩) (Nat.le_refl _) x
 (((b.trans (st _ _ _)).trans (st _ _ _)).trans (st _ _ _)).trans (st _ _ _)
theorem Kp(s:Bs)(n:Nat):(Aa s).extract 0 n=Aa (s.take n):=by
 apply ByteArray.ext
 rw[ByteArray.data_extract];simp [Aa]
theorem Nl(s:Bs)(a n:Nat)(b:n=s.length):(Aa s).extract a n=Aa (s.drop a):=by
 subst b;apply ByteArray.ext
 rw[ByteArray.data_extract];simp [Aa,List.take_of_length_le]
def Xq(a:Option T4)(w:Zh)(e:Ending)(w':Zh):Prop:=(∃k x n ok,e=.returned (.tuple #[Fb k x n 0,.bool ok])∧a=if ok=true then some (k,x,n)else none)∧Below w.heap.size w w'
theorem Ls(p:UInt8→Bool)(s:Bs):s.take (s.takeWhile p).length=s.takeWhile p:=by
 have b:=Kr p s;obtain⟨a,c⟩:∃a,s.takeWhile p=a:=⟨_,rfl⟩;rw[c]at b ⊢;rw[b];exact List.take_left
theorem xF(s:Bs)(w:Zh):Zi Zb 162 #[.string (Aa s)] w (Xq (Nw s) w):=by
 obtain⟨r,t⟩:=Y2 (fun f=>sW s f) ((Kp s (s.takeWhile Fi).length).trans (congrArg Aa (Ls Fi s)));have J:(s.takeWhile Fi).length≤s.length:=Ov _ _;have d:Hid (∀A B,Es (s.takeWhile Fi)=A→Ak (s.takeWhile Fi)=B→Nw s=if A=true then some (2,s.takeWhile Fi,0)else if B=true then some (1,s.takeWhile Fi,0)else none):=Za (by rintro _ _ rfl rfl;rfl);obtain⟨a,x⟩:∃a,s.takeWhile Fi=a:=⟨_,rfl⟩;rw[x]at r t d J;have L:(a.length:Int)≤(s.length:Int):=by omega
 obtain⟨z,y⟩:∃z,Nw s=z:=⟨_,rfl⟩;rw[y]at d ⊢;obtain⟨D,q⟩:=Y2 (Ad.new w [ι 0,ε,ι 0,ι 0] 87) ((Below.refl w.heap.size w).alloc (Nat.le_refl _) (.cells #[ι 0,ε,ι 0,ι 0] 87));clear x y;go_enter func162,ntmps162;go_wp2_with fail;refine(r.o _).mono ?_;rintro e f ⟨rfl,n⟩;obtain⟨b,g⟩:=Y2 (D.o.old n) (q.o.trans (n.mono q.o.size));clear n;go_wp2_with fail;rw[t.o];refine(Wi a).mono ?_
 cases hw:Es a
 ·rintro e w2 ⟨rfl,p⟩
  obtain rfl:f=w2:=p;have E:=Za hw;clear hw;go_wp2_with fail;refine(Lm a _).mono ?_;rintro e w2 ⟨rfl,o⟩;obtain⟨c,C⟩:=Y2 (b.o.old o) (g.o.trans (o.mono g.o.size));have u:=d.out _ (Ak a) E.o rfl;have h:=Za u;clear o u;generalize Ak a=ok at*;obtain ⟨q0, q1, q2, q3⟩ := τ4 c.o;have F:=c.o.fz 0;have G:=c.o.fz 1;have H:=c.o.fz 2;have I:=c.o.fz 3;have K:=c.o.lt;go_wp2_with fail;have i:=Za ((((c.o.set 0 (ι 1)).set 1 (σ a)).set 2 (ι 0)).set 3 (ι 0));obtain ⟨j, k, l, m⟩ := τ4 i.o;exact Zj (v:=.tuple #[Fb 1 a 0 0,.bool ok]) (by simp [results,results162,go_sem,Fb,j,k,l,m]) rfl ⟨⟨_,_,_,_,rfl,by rw[h.o];rfl⟩,Lp w C.o⟩
 ·rintro e w2 ⟨rfl,p⟩
  obtain rfl:f=w2:=p;have h:=Za (d.out _ (Ak a) hw rfl);clear hw;obtain ⟨q0, q1, q2, q3⟩ := τ4 b.o;have F:=b.o.fz 0;have G:=b.o.fz 1;have H:=b.o.fz 2;have I:=b.o.fz 3;have K:=b.o.lt;go_wp2_with fail;have i:=Za ((((b.o.set 0 (ι 2)).set 1 (σ a)).set 2 (ι 0)).set 3 (ι 0));obtain ⟨j, k, l, m⟩ := τ4 i.o;exact Zj (v:=.tuple #[Fb 2 a 0 0,.bool true]) (by simp [results,results162,go_sem,Fb,j,k,l,m]) rfl ⟨⟨_,_,_,_,rfl,h.o⟩,Lp w g.o⟩
theorem mA(s:Bs)(S:s.length≤1000000){w:Zh}(J:Lu w):Zi Zb 163 #[.string (Aa s)] w (Xq (Sw s) w):=by
 obtain⟨C,B,D⟩:=Y3 (fun y=>pW s y) J ((Kp s (s.takeWhile Ax).length).trans (congrArg Aa (Ls Ax s)));have R:(s.takeWhile Ax).length≤s.length:=Ov _ _;have c:Hid (Sw s=match Zf (s.takeWhile Ax)with|.ok n=>if Zd n=s.takeWhile Ax then some (3,s.takeWhile Ax,n)else none|_=>none):=rfl;obtain⟨a,I⟩:∃a,s.takeWhile Ax=a:=⟨_,rfl⟩;rw[I]at C D c R;have W:(a.length:Int)≤(s.length:Int):=by omega
 have P:=Za (show a.length≤1000000 by omega);obtain⟨L,K⟩:∃L,Sw s=L:=⟨_,rfl⟩;rw[K]at c ⊢;obtain⟨N,z⟩:=Y2 (Ad.new w [ι 0,ε,ι 0,ι 0] 87) ((Below.refl w.heap.size w).alloc (Nat.le_refl _) (.cells #[ι 0,ε,ι 0,ι 0] 87));clear I K J S;go_enter func163,ntmps163;go_wp2_with fail;refine(C.o _).mono ?_;rintro e y ⟨rfl,r⟩;obtain⟨O,o⟩:=Y2 (N.o.old r) (z.o.trans (r.mono z.o.size));clear r;go_wp2_with fail;rw[D.o];refine(qJ a P.o y (B.o.old o.o)).mono ?_;rintro e w2 ⟨k,t⟩;obtain⟨d,l⟩:=Y2 (O.o.old t) (o.o.trans (t.mono o.o.size));clear t
 cases hat:Zf a
 ·rename_i n
  rw[hat]at k c;dsimp only at k c;subst k;obtain⟨T,U⟩:=gN hat;have m:=Za c;clear c hat;go_wp2_with fail;refine(qU n T U w2 (B.o.old l.o).pow).mono ?_;rintro e X ⟨rfl,x⟩;obtain⟨b,A⟩:=Y2 (d.o.old x) (l.o.trans (x.mono l.o.size));clear x
  cases hq:(Zd n==a)
  ·have q:=Za (show ¬Zd n=a by intro Q;rw[Q]at hq;simp at hq)
   generalize Zd n=u at*;obtain ⟨q0, q1, q2, q3⟩ := τ4 b.o;have E:=b.o.fz 0;have F:=b.o.fz 1;have G:=b.o.fz 2;have H:=b.o.fz 3;have M:=b.o.lt;go_wp2_with fail;have f:=Za ((((b.o.set 0 (ι 3)).set 1 (σ a)).set 2 (ι n)).set 3 (ι 0));obtain ⟨g, h, i, j⟩ := τ4 f.o;exact Zj (v:=.tuple #[Fb 3 a n 0,.bool false]) (by simp [results,results163,go_sem,Fb,g,h,i,j]) rfl ⟨⟨_,_,_,_,rfl,by rw[m.o,if_neg q.o];rfl⟩,Lp w A.o⟩
  ·have q:=Za (show Zd n=a by simpa using hq)
   generalize Zd n=u at*;obtain ⟨q0, q1, q2, q3⟩ := τ4 b.o;have E:=b.o.fz 0;have F:=b.o.fz 1;have G:=b.o.fz 2;have H:=b.o.fz 3;have M:=b.o.lt;go_wp2_with fail;have f:=Za ((((b.o.set 0 (ι 3)).set 1 (σ a)).set 2 (ι n)).set 3 (ι 0));obtain ⟨g, h, i, j⟩ := τ4 f.o;exact Zj (v:=.tuple #[Fb 3 a n 0,.bool true]) (by simp [results,results163,go_sem,Fb,g,h,i,j]) rfl ⟨⟨_,_,_,_,rfl,by rw[m.o,if_pos q.o];rfl⟩,Lp w A.o⟩
 all_goals
  rw[hat]at k c;obtain⟨n,V,p,rfl⟩:=k;have m:=Za c;clear c hat;obtain ⟨q0, q1, q2, q3⟩ := τ4 d.o;have E:=d.o.fz 0;have F:=d.o.fz 1;have G:=d.o.fz 2;have H:=d.o.fz 3;have M:=d.o.lt;go_wp2_with fail;have f:=Za ((((d.o.set 0 (ι 3)).set 1 (σ a)).set 2 (ι n)).set 3 (ι 0));obtain ⟨g, h, i, j⟩ := τ4 f.o;exact Zj (v:=.tuple #[Fb 3 a n 0,.bool false]) (by simp [results,results163,go_sem,Fb,g,h,i,j]) rfl ⟨⟨_,_,_,_,rfl,m.o⟩,Lp w l.o⟩
theorem lF(s:Bs)(J:s≠[])(N:s.length≤1000000){w:Zh}(L:Lu w):Zi Zb 164 #[.string (Aa s)] w (Xq (Oq s) w):=by
 have af:1≤s.length:=List.length_pos_iff.2 J;have T:=Za (Nl s 1);obtain⟨x,D⟩:=eW (s.drop 1);have E:=Jl (s.drop 1);rw[List.length_drop]at x;have f:Hid (Oq s=if Ny (Zc (Aa (s.drop 1))).1=true then none else if Ze (s.drop (1+(Zc (Aa (s.drop 1))).2)) [39]=true then some (3,s.take ((Zc (Aa (s.drop 1))).2+2),((Zc (Aa (s.drop 1))).1:Int))else none):=rfl;obtain⟨a,A⟩:∃a,(Zc (Aa (s.drop 1))).1=a:=⟨_,rfl⟩;obtain⟨d,z⟩:∃d,(Zc (Aa (s.drop 1))).2=d:=⟨_,rfl⟩;have K:Zc (Aa (s.drop 1))=(a,d):=by rw[←A,←z]
 rw[A]at f E;rw[z]at f x D;obtain⟨Q,R,U,V⟩:=Y4 K L (Nl s (1+d)) (Kp s (d+2));obtain⟨p,M⟩:∃p,Oq s=p:=⟨_,rfl⟩;rw[M]at f ⊢;obtain⟨S,r⟩:=Y2 (Ad.new w [ι 0,ε,ι 0,ι 0] 87) ((Below.refl w.heap.size w).alloc (Nat.le_refl _) (.cells #[ι 0,ε,ι 0,ι 0] 87));have aj:(1:Int)≤(s.length:Int):=by omega
 have ak:(a:Int)≤2147483647:=by omega
 have al:(0:Int)≤(a:Int):=by omega
 have ab:(d:Int)≤4:=by omega
 have ac:(0:Int)≤(d:Int):=by omega
 have ad:1+(d:Int)≤(s.length:Int):=by omega
 have ae:1+d≤s.length:=by omega
 have aa:=Za N;clear A z K M L J x D E N;go_enter func164,ntmps164;go_wp2_with fail;rw[T.o _ rfl];refine(Tryz.utf8_DecodeRuneInString (Aa (s.drop 1)) _ (R.o.old r.o).utf).mono ?_;rw[Q.o];rintro e P ⟨rfl,y⟩;obtain⟨b,t⟩:=Y2 (S.o.old y) (r.o.trans (y.mono r.o.size));clear y;have g:Ny a=true↔a<32∨a=39∨a=92∨a=65533:=by unfold Ny;exact decide_eq_true_iff
 by_cases hb:Ny a=true
 ·have i:Hid (p=none):=by show _=_;rw[f.out,if_pos hb]
  have X:(a:Int)<32∨(¬(a:Int)<32∧((a:Int)==39)=true)∨(¬(a:Int)<32∧((a:Int)==39)=false∧((a:Int)==92)=true)∨(¬(a:Int)<32∧((a:Int)==39)=false∧((a:Int)==92)=false∧((a:Int)==65533)=true):=by
   simp only[beq_iff_eq,beq_eq_false_iff_ne];rcases g.1 hb with c|c|c|c<;>omega
  clear hb g f;rcases X with q|⟨q,u⟩|⟨q,u,C⟩|⟨q,u,C,W⟩
  all_goals
   obtain ⟨q0, q1, q2, q3⟩ := τ4 b.o;have F:=b.o.fz 0;have G:=b.o.fz 1;have H:=b.o.fz 2;have I:=b.o.fz 3;have O:=b.o.lt;go_wp2_with fail;have j:=Za ((((b.o.set 0 (ι 0)).set 1 (.string (Aa []))).set 2 (ι 0)).set 3 (ι 0));obtain ⟨l, m, n, o⟩ := τ4 j.o;exact Zj (v:=.tuple #[Fb 0 [] 0 0,.bool false]) (by simp [results,results164,go_sem,Fb,l,m,n,o]) rfl ⟨⟨_,_,_,_,rfl,i.o⟩,Lp w t.o⟩
 ·have q:¬(a:Int)<32:=fun c=>hb (g.2 (.inl (by omega)))
  have u:((a:Int)==39)=false:=by rw[beq_eq_false_iff_ne];exact fun c=>hb (g.2 (.inr (.inl (by omega))))
  have C:((a:Int)==92)=false:=by rw[beq_eq_false_iff_ne];exact fun c=>hb (g.2 (.inr (.inr (.inl (by omega)))))
  have W:((a:Int)==65533)=false:=by rw[beq_eq_false_iff_ne];exact fun c=>hb (g.2 (.inr (.inr (.inr (by omega)))))
  have B:=Za hb;clear hb g;go_wp2_with fail;rw[U.o _ rfl];refine(Tryz.strings_HasPrefix (Aa (s.drop (1+d))) (Aa [39]) P).mono ?_;rintro e w2 ⟨h,Z⟩;replace h:e=.returned (.bool (Ze (s.drop (1+d)) [39])):=h;obtain rfl:P=w2:=Z.symm
  cases hp:Ze (s.drop (1+d)) [39]
  ·rw[hp]at h
   subst h;have i:Hid (p=none):=by show _=_;rw[f.out,if_neg B.o,if_neg (by rw[hp];decide)]
   clear hp f;obtain ⟨q0, q1, q2, q3⟩ := τ4 b.o;have F:=b.o.fz 0;have G:=b.o.fz 1;have H:=b.o.fz 2;have I:=b.o.fz 3;have O:=b.o.lt;go_wp2_with fail;have j:=Za ((((b.o.set 0 (ι 0)).set 1 (.string (Aa []))).set 2 (ι 0)).set 3 (ι 0));obtain ⟨l, m, n, o⟩ := τ4 j.o;exact Zj (v:=.tuple #[Fb 0 [] 0 0,.bool false]) (by simp [results,results164,go_sem,Fb,l,m,n,o]) rfl ⟨⟨_,_,_,_,rfl,i.o⟩,Lp w t.o⟩
  ·rw[hp]at h
   subst h;have i:Hid (p=some (3,s.take (d+2),(a:Int))):=by show _=_;rw[f.out,if_neg B.o,if_pos hp]
   have Y:2+d≤s.length:=by
    have:(s.drop (1+d))≠[]:=by intro c;rw[c]at hp;exact absurd hp (by decide)
    have:=List.length_pos_iff.2 this;rw[List.length_drop]at this;omega
   have ag:(d:Int)+2≤(s.length:Int):=by omega
   have ah:d+2≤s.length:=by omega
   have ai:=V.o;generalize s.take (d+2)=k at*;clear hp f Y;obtain ⟨q0, q1, q2, q3⟩ := τ4 b.o;have F:=b.o.fz 0;have G:=b.o.fz 1;have H:=b.o.fz 2;have I:=b.o.fz 3;have O:=b.o.lt;go_wp2_with fail;have j:=Za ((((b.o.set 0 (ι 3)).set 1 (σ k)).set 2 (ι a)).set 3 (ι 0));obtain ⟨l, m, n, o⟩ := τ4 j.o;exact Zj (v:=.tuple #[Fb 3 k a 0,.bool true]) (by simp [results,results164,go_sem,Fb,l,m,n,o]) rfl ⟨⟨_,_,_,_,rfl,i.o⟩,Lp w t.o⟩
end Go.Proofs.YthcpopmmlneneaaGreatDoor
namespace Go.Proofs.YthcpopmmlneneaaGreatDoor
open Go.ChangeShapes Go.WideShapes Go.ChangeAt Go.RowKit
set_option maxHeartbeats 4000000
set_option maxRecDepth 100000
theorem zi64 {n:Int}(a:(Lit.int .i64 n).wf=true):I64 n:=by
 simp only[Lit.wf,Bool.and_eq_true,decide_eq_true_eq]at a;exact a
theorem cO {a:Type}{enc:TypeId ×Value→a}{b:World}{c:Nat}{x:Value}{d:DataW a}{p:List MemPlace}(h:Value.okWide Tryz.prog b .any c 3 x)(f:DataW.Trod enc Tryz.prog b 0 (fun _=>true) true 3 x d p):∃n,x=.int .i64 n∧I64 n:=by
 obtain⟨n,rfl⟩:=okWide_int Tryz.underlying3 h;obtain⟨j,g⟩:=f;obtain⟨k,e,_,i⟩:=DataW.trod_int Tryz.underlying3 g;simp [Value.cells]at e;subst e;exact⟨_,rfl,zi64 i⟩
theorem zgTab:Tryz.prog.globalNamed "internal/strconv.uint64pow10" =some 0:=by kernel_rfl
theorem nR:(Tryz.prog.globals[0]?).map (·.type)=some 189:=by kernel_rfl
theorem rC:Tryz.prog.cellsOf 189=20:=by kernel_rfl
theorem zcellsU:Tryz.prog.cellsOf 171=1:=by kernel_rfl
theorem zU8:U8Extra Tryz.prog Tryz.lays196_ren:=⟨by kernel_rfl,by kernel_rfl,by kernel_rfl,by kernel_rfl,by kernel_rfl,by kernel_rfl,by kernel_rfl⟩
theorem zaccept:Rows.laid_unicode_utf8_acceptRanges=Lib.acceptData:=by kernel_rfl
theorem cH {c:Type}{enc:TypeId ×Value→c}{P:Program}{w:World}{f:Nat}{j:Nat→Bool}{g:Bool}{b:Nat}{t:TypeId}{i:Array (String ×TypeId)}{e:List Value}{nm:String}{d:DataW c}{p:List MemPlace}(h:P.underlying t=some (.interface i))
  (a:DataW.trod enc P w f j g b t e=some (.iface nm d,p)):∃u v,e=[.iface u v]:=by
 cases b with
 |zero=>simp [DataW.trod]at a
 |succ b=>
  unfold DataW.trod at a;rw[h]at a;split at a<;>simp_all
theorem eS {w:World}{n:String}{g:Nat}{nm:String}{d:DataW Unit}(f:Tryz.prog.globalNamed n=some g)(k:(Tryz.prog.globals[g]?).map (·.type)=some 132)(i:Lib.VarReads Tryz.prog w n (.iface nm d)):∃m l,w.cell? ⟨g,0,none⟩=some (.iface m l):=by
 obtain⟨s,t,q,r,p,b,c,a,j⟩:=i;rw[f]at b
 cases b
 rw[k]at c
 cases c
 obtain⟨u,v,e⟩:=cH Tryz.underlying132 j;refine⟨u,v,?_⟩;unfold World.var? at a;rw[f]at a;simp only[Option.bind_some]at a;unfold World.cell?
 cases hh:w.heap[g]? with
 |none=>rw[hh]at a;cases a
 |some o=>
  rw[hh]at a
  cases o with
  |cells cs' T fz=>
   simp at a;subst a;have h:cs'= #[.iface u v]:=by rw[←Array.toArray_toList (xs:=cs'),e]
   simp [h]
  |_=>cases a
theorem zlib_of {b:World}(c:laidMetH Tryz.prog Rows.parseTellsRow.laid b)(e:b.ShapedOpen Tryz.prog):Lu b:=by
 have a:laidMet Tryz.prog Rows.parseTellsRow.laid b:=c;refine⟨?_,?_,?_,?_,?_⟩
 ·exact Lib.tabIs_of_head (rest:=_) zgTab nR Tryz.underlying189 Tryz.underlying171 zcellsU rC (Re (Re a))
 ·exact cell_of_shapedOpen_int (zero:= #[ι 0]) (t:=3) e (of_decide_eq_true (by kernel_rfl)) (by kernel_rfl) rfl (by kernel_rfl) (by kernel_rfl) Tryz.underlying3
 ·refine utf8Tabs_of_readsT (U8Types.of196 Tryz.lays196) zU8 ?_ ?_
  ·have:=Lib.laidMet.reads a (n:= "unicode/utf8.first") (d:=Rows.laid_unicode_utf8_first) (.tail _ (.tail _ (.tail _ (.tail _ (.tail _ (.tail _ (.head _)))))))
   rw[←Pinned.utf8First_eq];exact this
  ·have:=Lib.laidMet.reads a (n:= "unicode/utf8.acceptRanges") (d:=Rows.laid_unicode_utf8_acceptRanges) (.tail _ (.tail _ (.tail _ (.head _))))
   rw[←zaccept];exact this
 ·exact eS (n:= "strconv.ErrSyntax") (by kernel_rfl) (by kernel_rfl) (Lib.laidMet.reads a (n:= "strconv.ErrSyntax") (d:=Rows.laid_strconv_ErrSyntax) (.tail _ (.tail _ (.tail _ (.tail _ (.tail _ (.head _)))))))
 ·exact eS (n:= "strconv.ErrRange") (by kernel_rfl) (by kernel_rfl) (Lib.laidMet.reads a (n:= "strconv.ErrRange") (d:=Rows.laid_strconv_ErrRange) (.tail _ (.tail _ (.tail _ (.tail _ (.head _))))))
theorem yM:laidOutB Tryz.prog=true:=by kernel_rfl
theorem iL {b:Type}{enc:TypeId ×Value→b}{t:TypeId}(l:Tryz.prog.readableRec t=true)(m:t<Tryz.prog.types.size){a c:World}{x:Value}{d:DataW b}{p:List MemPlace}(h:DataW.Trod enc Tryz.prog a 0 (fun _=>true) true t x d p)(i:Below a.heap.size a c)(f:Nat→Bool)(n:∀q,q∈p→f q.block=true):DataW.Trod enc Tryz.prog c 0 f true t x d p:=by
 obtain⟨g,e⟩:=h;have j:=DataW.trod_lt _ _ _ _ e;exact WideElems.Trod_stays yM l m ⟨g,e⟩ (fun q k=>i.same (j q k)) n
end Go.Proofs.YthcpopmmlneneaaGreatDoor
namespace Go.Proofs.YthcpopmmlneneaaGreatDoor
open Go.ChangeShapes Go.WideShapes Go.ChangeAt Go.RowKit
set_option maxHeartbeats 4000000
set_option maxRecDepth 100000
theorem bH {a:Type}{enc:TypeId ×Value→a}{b:World}{c:Nat}{x:Value}{d:DataW a}{p:List MemPlace}(i:Value.okWide Tryz.prog b .any c 9 x)(f:DataW.Trod enc Tryz.prog b 0 (fun _=>true) true 9 x d p):∃l:Bs,x=.string (Aa l)∧d=.lit (.string l):=by
 obtain⟨s,rfl⟩:=okWide_string Tryz.underlying9 i;obtain⟨j,h⟩:=f;obtain⟨m,e,g,k⟩:=DataW.trod_string Tryz.underlying9 h;simp [Value.cells]at e;subst e;exact⟨s.data.toList,rfl,congrArg Prod.fst g⟩
end Go.Proofs.YthcpopmmlneneaaGreatDoor
namespace Go.Proofs.YthcpopmmlneneaaGreatDoor
open Go.RowKit Go.Proofs.Tryz
set_option maxHeartbeats 20000000
set_option maxRecDepth 100000
open Go renaming World→Yg,Value→Yi,bodyPost_ret→Yk,Calls→Yl,wpList_append_lies→Ym
open Go.RowKit renaming Hid→Yh,Below→Yj
open Go.Lib renaming hid→Za,decodeL→Zc,occAt→Zi,hasPrefix→Zj,decDigits→Zn,decodeL_N→Zo,validGoD→Zt
open Calls renaming mono→Zb
open Go.Proofs.Tryz renaming prog→Zd,underlying33→Zz
open Ad renaming new→Ze
open List renaming length_drop→Zf,length_pos_iff→Zm,length_append→Zp,drop_drop→Zs,mem_cons_self→Zx,getElem?_drop→Ya,length_cons→Yc,length_eq_zero_iff→Yd,getElem?_eq_getElem→Ye,getElem?_eq_some_iff→Yf
open Nat renaming le_refl→Zg,zero_le→Zk,zero_add→Zr,lt_of_le_of_lt→Zu
open SFr renaming of_below→Zh
open Au renaming zero→Zl
open Go.RowKit.Below renaming refl→Zq
open IntWalk renaming i64_in→Zv
open Bool renaming and_eq_true→Zw
open Ending renaming returned→Zy
open World renaming iterPos_iter→Yb
theorem nW(I:Bs)(n:Nat)(w:Yg)(z:Yh (∀c,Yj w.heap.size w c→Yl Zd 57 #[.string (Aa I)] c fun e w'=>Yj c.heap.size c w'∧e=.returned (.tuple #[.slice none 0 0,.int .i64 20,.int .i64 (n:Int)]))):
  Yl Zd 27 #[.string (Aa I),.func (.func 28) #[] #[]] w (WhP w ((⟨[],[]⟩:Pr),20,(n:Int))):=by
 obtain⟨a,b⟩:∃a,(((w.alloc (.cells #[ν,ν] 30)).alloc (.cells #[ι 0] 24)).alloc (.cells #[ι 0] 3))=a:=⟨_,rfl⟩;have j:Yj w.heap.size w a:=b ▸ ((bA).alloc (by simp) _).alloc (by simp;omega) _;have K:a.heap.size=w.heap.size+3:=by rw[←b];simp
 have B:Ad a w.heap.size [ν,ν] 30:=b ▸ ((Ze w [ν,ν] 30).alloc _).alloc _;have C:Ad a (w.heap.size+1) [ι 0] 24:=by
  have:=(Ze (w.alloc (.cells #[ν,ν] 30)) [ι 0] 24).alloc (.cells #[ι 0] 3);rw[show(w.alloc (.cells #[ν,ν] 30)).heap.size=w.heap.size+1 by simp]at this;exact b ▸ this
 have D:Ad a (w.heap.size+2) [ι 0] 3:=by
  have:=Ze ((w.alloc (.cells #[ν,ν] 30)).alloc (.cells #[ι 0] 24)) [ι 0] 3;rw[show((w.alloc (.cells #[ν,ν] 30)).alloc (.cells #[ι 0] 24)).heap.size=w.heap.size+2 by simp]at this;exact b ▸ this
 obtain⟨y,i,k,l,m,A⟩:=Y6 (z.o a j) j B C D b;clear j K B C D b
 go_enter_defers func27,ntmps27
 go_upto_region 1 with(fail);rw[A.o];rw[show w.heap.size+1+1=w.heap.size+2 from rfl];clear A;go_wp2_with fail;refine y.o.mono ?_;rintro e c ⟨d,rfl⟩;have t:=Za (i.o.trans (d.mono i.o.size));have f:=l.o.old d;have g:=m.o.old d;obtain⟨q,r,s⟩:=Y3 (k.o.old d) f g;have L:=f.at 0 _ rfl;have N:=g.at 0 _ rfl;have M:=f.fz 0;have O:=g.fz 0;have P:=f.lt;have Q:=g.lt;clear d f g y z i k l m;go_upto_region 2 with(fail);obtain⟨h,u,x,J⟩:=Y4 ((q.o.other (show w.heap.size≠w.heap.size+1 by omega) 0 (ι 20)).other (show w.heap.size≠w.heap.size+2 by omega) 0 (ι (n:Int))) ((r.o.set 0 (ι 20)).other (show w.heap.size+1≠w.heap.size+2 by omega) 0 (ι (n:Int))) ((s.o.other (show w.heap.size+2≠w.heap.size+1 by omega) 0 (ι 20)).set 0 (ι (n:Int))) ((t.o.setCell (p:=⟨w.heap.size+1,0,none⟩) (Nat.le_succ _) (ι 20)).setCell (p:=⟨w.heap.size+2,0,none⟩) (by show w.heap.size≤w.heap.size+2;omega) (ι (n:Int)));generalize (c.setCell ⟨w.heap.size+1,0,none⟩ (ι 20)).setCell ⟨w.heap.size+2,0,none⟩ (ι (n:Int))=w2 at*;clear L N M O P Q q r s t;have E:=h.o.at 0 _ rfl;have V:=h.o.fz 0;have G:=u.o.at 0 _ rfl;have X:=u.o.fz 0;have H:=x.o.at 0 _ rfl;have Y:=x.o.fz 0;have F:=h.o.at 1 _ rfl;have W:=h.o.fz 1;go_upto_region 3 with(fail)
 go_region;rw[Af E,Af F,Af G,Af H];go_wp2_with fail;have R:w2.drew.cell? ⟨w.heap.size,0,none⟩=some (ν):=E;have S:w2.drew.cell? ⟨w.heap.size,1,none⟩=some (ν):=F;have T:w2.drew.cell? ⟨w.heap.size+1,0,none⟩=some (ι 20):=G;have U:w2.drew.cell? ⟨w.heap.size+2,0,none⟩=some (ι (n:Int)):=H;show ∃v,(results Tryz.f27 _).run Zd w2.drew=.ok v w2.drew∧_
 refine⟨.tuple #[.agg #[ν,ν],ι 20,ι (n:Int)],by simp [results,results27,go_sem,R,S,T,U],?_⟩;exact⟨J.o.drew,_,rfl,⟨_,_,rfl,Cd.zero,Bw.zero⟩⟩
theorem pU(N:Bs)(n:Nat)(w:Yg)(B:Yh (∀f,Yj w.heap.size w f→Yl Zd 57 #[.string (Aa N)] f fun e w'=>Yj f.heap.size f w'∧e=.returned (.tuple #[.slice none 0 0,.int .i64 20,.int .i64 (n:Int)]))):
  Yl Zd 32 #[.string (Aa N),.func (.func 33) #[] #[]] w (WhE w (exZ,20,(n:Int))):=by
 obtain⟨c,d⟩:∃c,(((w.alloc (ζ)).alloc (.cells #[ι 0] 24)).alloc (.cells #[ι 0] 3))=c:=⟨_,rfl⟩;have l:Yj w.heap.size w c:=d ▸ ((bA).alloc (by simp) _).alloc (by simp;omega) _;have P:c.heap.size=w.heap.size+3:=by rw[←d];simp
 have D:Ad c w.heap.size η 35:=d ▸ ((Ze w η 35).alloc _).alloc _;have E:Ad c (w.heap.size+1) [ι 0] 24:=by
  have:=(Ze (w.alloc (ζ)) [ι 0] 24).alloc (.cells #[ι 0] 3);rw[show(w.alloc (ζ)).heap.size=w.heap.size+1 by simp]at this;exact d ▸ this
 have F:Ad c (w.heap.size+2) [ι 0] 3:=by
  have:=Ze ((w.alloc (ζ)).alloc (.cells #[ι 0] 24)) [ι 0] 3;rw[show((w.alloc (ζ)).alloc (.cells #[ι 0] 24)).heap.size=w.heap.size+2 by simp]at this;exact d ▸ this
 obtain⟨A,k,m,q,r,C⟩:=Y6 (B.o c l) l D E F d;clear l P D E F d
 go_enter_defers func32,ntmps32
 go_upto_region 1 with(fail);rw[C.o];rw[show w.heap.size+1+1=w.heap.size+2 from rfl];clear C;go_wp2_with fail;refine A.o.mono ?_;rintro e f ⟨h,rfl⟩;have x:=Za (k.o.trans (h.mono k.o.size));have i:=q.o.old h;have j:=r.o.old h;obtain⟨s,t,u⟩:=Y3 (m.o.old h) i j;have Q:=i.at 0 _ rfl;have S:=j.at 0 _ rfl;have R:=i.fz 0;have T:=j.fz 0;have U:=i.lt;have V:=j.lt;clear h i j A B k m q r;go_upto_region 2 with(fail);obtain⟨b,y,z,O⟩:=Y4 ((s.o.other (show w.heap.size≠w.heap.size+1 by omega) 0 (ι 20)).other (show w.heap.size≠w.heap.size+2 by omega) 0 (ι (n:Int))) ((t.o.set 0 (ι 20)).other (show w.heap.size+1≠w.heap.size+2 by omega) 0 (ι (n:Int))) ((u.o.other (show w.heap.size+2≠w.heap.size+1 by omega) 0 (ι 20)).set 0 (ι (n:Int))) ((x.o.setCell (p:=⟨w.heap.size+1,0,none⟩) (Nat.le_succ _) (ι 20)).setCell (p:=⟨w.heap.size+2,0,none⟩) (by show w.heap.size≤w.heap.size+2;omega) (ι (n:Int)));generalize (f.setCell ⟨w.heap.size+1,0,none⟩ (ι 20)).setCell ⟨w.heap.size+2,0,none⟩ (ι (n:Int))=w2 at*;clear Q S R T U V s t u x;have G:=b.o.at 0 _ rfl;have ad:=b.o.fz 0;have L:=y.o.at 0 _ rfl;have ai:=y.o.fz 0;have M:=z.o.at 0 _ rfl;have aj:=z.o.fz 0;have H:=b.o.at 1 _ rfl;have ae:=b.o.fz 1;have I:=b.o.at 2 _ rfl;have af:=b.o.fz 2;have J:=b.o.at 3 _ rfl;have ag:=b.o.fz 3;have K:=b.o.at 4 _ rfl;have ah:=b.o.fz 4
 go_upto_region 3 with(fail)
 go_region;rw[Af G,Af H,Af I,Af J,Af K,Af L,Af M];go_wp2_with fail;have g:∀a,w2.drew.cell? a=w2.cell? a:=fun _=>rfl
 have W:=(g ⟨w.heap.size,0,none⟩).trans G;have X:=(g ⟨w.heap.size,1,none⟩).trans H;have Y:=(g ⟨w.heap.size,2,none⟩).trans I;have Z:=(g ⟨w.heap.size,3,none⟩).trans J;have aa:=(g ⟨w.heap.size,4,none⟩).trans K;have ab:w2.drew.cell? ⟨w.heap.size+1,0,none⟩=some (ι 20):=L;have ac:w2.drew.cell? ⟨w.heap.size+2,0,none⟩=some (ι (n:Int)):=M;show ∃v,(results Tryz.f32 _).run Zd w2.drew=.ok v w2.drew∧_
 refine⟨.tuple #[.agg #[ι 0,ι 0,ι 0,ε,ν],ι 20,ι (n:Int)],by simp [results,results32,go_sem,W,X,Y,Z,aa,ab,ac],?_⟩;exact⟨O.o.drew,_,rfl,⟨_,rfl,Ag.zero,Eo⟩⟩
theorem tM:∀f:Nat,(∀l,14*l.length+14≤f→Rel (stT f (false,l)) (Fa f l))∧(∀a l,14*l.length+15≤f→Rel (ssT f a (false,l)) (Ep f a l))
 |0=>⟨fun _ I=>(by omega),fun _ _ I=>(by omega)⟩
 |f+1=>by
  obtain⟨O,t⟩:=tM f;obtain⟨Q,m⟩:=aY f;refine⟨fun l M=>?_,fun a l M=>?_⟩
  ·rw[stT,Fa]
   cases h1:Bi [105,102] l with
   |some r=>
    have N:=Bn h1;rw[if_pos (Bj h1).1,(Bj h1).2];dsimp only;rcases Ck (Us f r (by omega))with⟨x,u,d,j⟩|⟨n,d,e,k⟩
    ·have D:=Fx d
     rw[d,j];dsimp only;rcases Ek (s:=[123]) (l:=u)with⟨v,g,o,E⟩|⟨n,g,i,p⟩
     ·rw[g,o]
      dsimp only;rcases Ck (t [] v (by omega))with⟨a,F,h,w⟩|⟨n,h,q,B⟩
      ·have T:=(Jj f).2 _ _ _ _ h
       rw[h,w];dsimp only
       cases h9:Bi [101,108,115,101] F with
       |none=>
        rw[if_neg (by rw[Ct h9];decide)];rfl
       |some y=>
        have S:=Bn h9;rw[if_pos (Bj h9).1,(Bj h9).2];dsimp only;rcases Ek (s:=[123]) (l:=y)with⟨P,z,G,R⟩|⟨n,z,C,J⟩
        ·rw[z,G]
         dsimp only;rcases Ck (t [] P (by omega))with⟨b,c,A,H⟩|⟨n,A,K,L⟩
         ·rw[A,H];rfl
         ·rw[A];exact⟨K,L⟩
        ·rw[z];exact Ds C J (m [] _ C)
      ·rw[h,if_neg (by rw[Dq q];decide)];exact⟨q,B⟩
     ·rw[g,m [] _ i,if_neg (by rw[Dq i];decide)]
      exact Ds i p rfl
    ·rw[d,Ch e,m [] _ e,if_neg (by rw[Dq e];decide)]
     exact Ds e k rfl
   |none=>
    rw[if_neg (by rw[Ct h1];decide)];dsimp only
    cases h2:Bi [119,104,105,108,101] l with
    |some r=>
     have N:=Bn h2;rw[if_pos (Bj h2).1,(Bj h2).2];dsimp only;rcases Ck (Us f r (by omega))with⟨x,u,d,j⟩|⟨n,d,e,k⟩
     ·have D:=Fx d
      rw[d,j];dsimp only;rcases Ek (s:=[123]) (l:=u)with⟨v,g,o,E⟩|⟨n,g,i,p⟩
      ·rw[g,o]
       dsimp only;rcases Ck (t [] v (by omega))with⟨a,F,h,w⟩|⟨n,h,q,B⟩
       ·rw[h,w];rfl
       ·rw[h];exact⟨q,B⟩
      ·rw[g];exact Ds i p (m [] _ i)
     ·rw[d,Ch e];exact Ds e k (m [] _ e)
    |none=>
     rw[if_neg (by rw[Ct h2];decide)];dsimp only;rcases Ck (si_law f l (by omega))with⟨x,u,d,j⟩|⟨n,d,e,k⟩
     ·rw[d,j]
      dsimp only;rcases Ek (s:=[59]) (l:=u)with⟨v,g,o,E⟩|⟨n,g,i,p⟩
      ·rw[g,o];rfl
      ·rw[g];exact⟨i,p⟩
     ·rw[d,Ch e];exact⟨e,k⟩
  ·rw[ssT,Ep]
   cases h1:Bi [125] l with
   |some r=>rw[if_pos (Bj h1).1,(Bj h1).2];rfl
   |none=>
    rw[if_neg (by rw[Ct h1];decide),if_neg (show ¬(false=true)by decide)];dsimp only;rcases Ck (O l (by omega))with⟨x,u,d,j⟩|⟨n,d,e,k⟩
    ·have D:=(Jj f).1 _ _ _ d
     rw[d,j];exact t _ u (by omega)
    ·rw[d];exact Ds e k (m _ _ e)
theorem yG:∀(f:Nat) (a:List Bs) (l:List Tk),Rel (paT f a (false,l)) (Mc f a l)
 |0,_,_=>⟨rfl,rfl⟩
 |f+1,a,l=>by
  rw[paT,Mc,if_neg (show ¬(false=true)by decide)];rcases Ek (s:=[105,110,116]) (l:=l)with⟨v,d,i,q⟩|⟨n,d,b,m⟩
  ·rw[d,i]
   dsimp only;rcases Ck (Rd v)with⟨s,u,c,h⟩|⟨n,c,g,k⟩
   ·rw[c,h]
    dsimp only
    cases h1:Bi [44] u with
    |some r=>rw[if_pos (Bj h1).1,(Bj h1).2];exact yG f _ r
    |none=>
     rw[if_neg (by rw[Ct h1];decide)];dsimp only;rcases Ek (s:=[41]) (l:=u)with⟨w,e,j,t⟩|⟨n,e,o,p⟩
     ·rw[e,j];rfl
     ·rw[e];exact⟨o,p⟩
   ·rw[c,if_neg (by rw[Dq g];decide),Ch g];exact⟨g,k⟩
  ·rw[d,Ms b,if_neg (by rw[Dq b];decide),Ch b];exact⟨b,m⟩
theorem yD:∀(f:Nat) (a:List Bs) (l:List Tk),Rel (loT f a (false,l)) (Js f a l)
 |0,_,_=>⟨rfl,rfl⟩
 |f+1,a,l=>by
  rw[loT,Js]
  cases h1:Bi [105,110,116] l with
  |none=>rw[if_neg (by rw[Ct h1];decide)];rfl
  |some r=>
   rw[if_pos (Bj h1).1,(Bj h1).2];dsimp only;rcases Ck (Rd r)with⟨s,u,b,g⟩|⟨n,b,d,i⟩
   ·rw[b,g]
    dsimp only;rcases Ek (s:=[59]) (l:=u)with⟨k,c,h,m⟩|⟨n,c,e,j⟩
    ·rw[c,h];exact yD f _ k
    ·rw[c];exact Ds e j (Su e)
   ·rw[b,Ch d];exact Ds d i (Su d)
theorem pas_law(f:Nat)(l:List Tk):Rel (Mx f (false,l)) (Jc f l):=by
 unfold Mx Jc
 cases h1:Bi [41] l with
 |some r=>rw[if_pos (Bj h1).1,(Bj h1).2];rfl
 |none=>rw[if_neg (by rw[Ct h1];decide)];exact yG f [] l
theorem fn_law(f:Nat)(s:Bs)(l:List Tk)(F:14*l.length+15≤f):Rel (fnT f s (false,l)) (match An [40] l with
  |.error e=>.error e
  |.ok r=>Hm f s r):=by
 unfold fnT;rcases Ek (s:=[40]) (l:=l)with⟨v,h,p,H⟩|⟨n,h,a,z⟩
 ·rw[h,p]
  dsimp only;rw[Ob];rcases Ck (pas_law f v)with⟨M,u,c,o⟩|⟨n,c,g,x⟩
  ·have G:=bB c
   rw[c,o];dsimp only;rcases Ek (s:=[123]) (l:=u)with⟨E,i,q,J⟩|⟨n,i,k,A⟩
   ·rw[i,q]
    unfold Of;dsimp only;rcases Ck (yD f [] E)with⟨K,y,d,t⟩|⟨n,d,m,B⟩
    ·have I:=Ox _ _ _ _ _ d
     rw[d,t];dsimp only;rcases Ck ((tM f).2 [] y (by omega))with⟨b,L,j,w⟩|⟨n,j,C,D⟩
     ·rw[j,w];rfl
     ·rw[j];exact⟨C,D⟩
    ·rw[d];exact Ds m B ((aY f).2 [] _ m)
   ·rw[i]
    exact Ds k A (by rw[Su k];exact(aY f).2 [] _ k)
  ·rw[c]
   exact Ds g x (by rw[Ch g,Su g];exact(aY f).2 [] _ g)
 ·rw[h]
  exact Ds a z (by rw[mY a,Ch a,Su a];exact(aY f).2 [] _ a)
theorem kM:∀(f:Nat) (p:Pr) (l:List Tk),14*l.length+16≤f→Rel (prT f p (false,l)) (Kg f p l)
 |0,_,_,a=>by omega
 |f+1,p,l,a=>by
  rw[prT,Kg];have C:(Ub (false,l)).kind=(l.head?.map (·.kind)).getD 0:=by cases l<;>rfl
  by_cases c:(l.head?.map (·.kind)).getD 0=5
  ·rw[if_pos (.inr (C.trans c)),if_pos c];rfl
  ·rw[if_neg (by rintro(a|a);cases a;exact c (C.symm.trans a)),if_neg c]
   rcases Ek (s:=[105,110,116]) (l:=l)with⟨v,m,E,O⟩|⟨n,m,c,H⟩
   ·rw[m,E]
    dsimp only;rcases Ck (Rd v)with⟨s,u,j,D⟩|⟨n,j,k,G⟩
    ·have N:=Gu j
     rw[j,D];dsimp only;have A:Rel (prT f {p with funcs:=p.funcs++[(fnT f s (false,u)).1]} (fnT f s (false,u)).2) (match An [40] u with
       |.error e=>.error e
       |.ok r=>match Hm f s r with
        |.error e=>.error e
        |.ok (x,r)=>Kg f {p with funcs:=p.funcs++[x]} r):=by
      have g:=fn_law f s u (by omega)
      cases hw:An [40] u with
      |error n=>
       rw[hw]at g;exact Ds g.1 g.2 (Qq g.1)
      |ok r=>
       rw[hw]at g;dsimp only at g ⊢;have K:=Bp hw;rcases Ck g with⟨x,q,d,o⟩|⟨n,d,b,i⟩
       ·have J:=Mn d
        rw[d,o];exact kM f _ q (by omega)
       ·rw[d];exact Ds b i (Qq b)
     by_cases hp:p.funcs.isEmpty=true
     ·rw[if_pos hp]
      cases h1:Bi [91] u with
      |none=>rw[if_neg (by rintro⟨_,a⟩;rw[Ct h1]at a;cases a)];exact A
      |some r=>
       have K:=Bn h1;rw[if_pos ⟨hp,(Bj h1).1⟩,(Bj h1).2];dsimp only;have h:=num_rel r
       cases hk3:Ks 3 r with
       |error n=>
        rw[hk3]at h;obtain⟨b,i⟩:=h;exact Ds b i (by rw[Ch b,Ch b];exact Qq b)
       |ok q=>
        obtain⟨t,q⟩:=q;rw[hk3]at h;have h:Jv (false,r)=(t.num,(false,q)):=h;have J:=Sz hk3;rw[h];dsimp only;rcases Ek (s:=[93]) (l:=q)with⟨M,d,o,Q⟩|⟨n,d,b,i⟩
        ·rw[d,o]
         dsimp only;rcases Ek (s:=[59]) (l:=M)with⟨y,w,F,P⟩|⟨n,w,B,I⟩
         ·rw[w,F];exact kM f _ y (by omega)
         ·rw[w];exact Ds B I (Qq B)
        ·rw[d];exact Ds b i (by rw[Ch b];exact Qq b)
     ·rw[if_neg hp,if_neg (fun a=>hp a.1)]
      exact A
    ·rw[j]
     have L:Cp [91] (Bl (false,v)).2=false:=Dq k;rw[if_neg (by rintro⟨_,a⟩;rw[L]at a;cases a)];have z:=jN (f:=f) (s:=(Bl (false,v)).1) k;exact Ds k G (by rw[z];exact Qq k)
   ·rw[m,Ms c]
    dsimp only;rw[if_neg (by rintro⟨_,a⟩;rw[Dq c]at a;cases a)];have z:=jN (f:=f) (s:=([]:Bs)) c;exact Ds c H (by rw[z];exact Qq c)
def pN(w:Yg)(p b cap:Nat)(L:List Tk)(q:St ×PS)(e:Ending)(w':Yg):Prop:=SFr p w w'∧Rs w' p b cap L q.2∧∃a t u,e=.returned (rO q.1 a t u)∧Ag (w.heap.size≤ ·) w' q.1.args a∧Au (w.heap.size≤ ·) w' q.1.thn t∧Au (w.heap.size≤ ·) w' q.1.els u
def SsEnd(w:Yg)(p a cap:Nat)(L:List Tk)(q:List St ×PS)(e:Ending)(w':Yg):Prop:=SFr p w w'∧Rs w' p a cap L q.2∧∃v,e=.returned v∧Au (w.heap.size≤ ·) w' q.1 v
def RstC(f:Nat):Prop:= ∀st w p a cap L,14*st.2.length+14≤f→Rs w p a cap L st→Yl Zd 167 #[.pointer (some ⟨p,0,none⟩)] w (pN w p a cap L (stT f st))
def RssC(f:Nat):Prop:= ∀st w p a cap L,14*st.2.length+15≤f→Rs w p a cap L st→Yl Zd 114 #[.pointer (some ⟨p,0,none⟩)] w (SsEnd w p a cap L (ssT f [] st))
theorem st_less {f:Nat}{l:List Tk}(d:14*l.length+14≤f)(e:(stT f (false,l)).2.1=false):(stT f (false,l)).2.2.length<l.length:=by
 rcases Ck ((tM f).1 l d)with⟨x,g,a,c⟩|⟨n,a,b,_⟩
 ·rw[c];exact(Jj f).1 _ _ _ a
 ·rw[e]at b;cases b
def Nc(p:Nat)(L:List Tk)(w:Yg):Nat:=match w.cell? ⟨p,2,none⟩with
 |some (.bool true)=>0
 |_=>Ju p L w+1
theorem Tb {w:Yg}{p b cap:Nat}{L l:List Tk}(a:Rs w p b cap L (true,l)):Nc p L w=0:=by
 obtain⟨i,a,_⟩:=a;unfold Nc;rw[show w.cell? ⟨p,2,none⟩=some (.bool true)from a.own.at 2 _ rfl]
theorem Lt {w:Yg}{p b cap:Nat}{L l:List Tk}(a:Rs w p b cap L (false,l)):Nc p L w=l.length+1:=by
 have e:=Jt a;obtain⟨i,a,_⟩:=a;unfold Nc;rw[show w.cell? ⟨p,2,none⟩=some (.bool false)from a.own.at 2 _ rfl];dsimp only;rw[e]
theorem xI(f:Nat)(aD:∀g,g<f→RstC g):RssC f:=by
 intro st w p W cap L aJ A;have F:=Za A.lt;have aF:st.2.length≤1000000:=by
  obtain⟨i,z,e⟩:=A;rw[e,Zf];have:=z.fit;omega
 have aU:=Za aF;obtain⟨ae,ah⟩:∃ae,ssT f [] st=ae:=⟨_,rfl⟩;rw[ah];obtain⟨bb,ap,bd,aZ,al⟩:=Y5 ah aJ aD A (fun s B J (af:Rs J p W cap L B)=>Rp p W cap L s B J af);obtain⟨bx,bq,bu,bv,bw⟩:=info_parts kX;clear ah aJ aD A aF;go_enter func114,ntmps114;go_wp2_with fail;refine Zb (al.o [125] st _ aZ.o) ?_;rintro e J ⟨rfl,h,d⟩;obtain⟨am,y⟩:=Y2 h d;clear h d;go_wp2
 go_loopw [3,4,5] (fun a e _ M=> ∃(c:List StV) (C:Option Addr) (D:Nat) (j:PS) (g:Nat),a=.slice C c.length D∧e=.bool (Cp [125] j)∧ssT g (c.map (·.x)) j=ae∧(1≤g∧(j.1=false→14*j.2.length+15≤g))∧g≤f∧(c.length≤1000001∧(j.1=false→c.length+j.2.length≤1000000))∧SFr p w M∧Rs M p W cap L (if Cp [125] j=true then Bg j else j)∧Dm M w.heap.size c (.slice C c.length D)) (fun _ e _ M=>match e with|.bool true=>0|_=>Nc p L M)
 case atStart=>exact⟨[],none,0,st,f,rfl,rfl,bb.o,⟨by have:=ap.o;omega,fun _=>ap.o⟩,Zg _,⟨Zk _,fun _=>by have:=aU.o;simpa using this⟩,am.o,y.o,Dm.zero _ _⟩
 case round=>
  obtain⟨c,C,D,j,g,rfl,rfl,t,⟨bD,aG⟩,bE,⟨bs,aQ⟩,h,d,aM⟩:=hrel;obtain⟨N,E⟩:=Y2 h aM;obtain⟨g,rfl⟩:∃k,g=k+1:=⟨g-1,by omega⟩;rw[ssT]at t;clear h aM y am
  cases hu:Cp [125] j with
  |true=>
   rw[hu,if_pos rfl]at d t;have y:=Za d;subst t;clear d hu;go_wp2;go_ret
   exact⟨N.o,y.o,_,rfl,E.o.sts (show c.length≤140737488355328 by omega)⟩
  |false=>
   rw[hu,if_neg (by decide)]at d t;have y:=Za d;clear d;obtain⟨bf,V⟩:=j
   cases bf with
   |true=>
    rw[if_pos rfl]at t;subst t;obtain⟨i,z,I⟩:=y.o;have aB:wr.cell? ⟨p,2,none⟩=some (.bool true):=z.own.at 2 _ rfl;have aP:=z.own.lt;clear z I hu;go_wp2;go_ret
    exact⟨N.o,y.o,_,rfl,E.o.sts (show c.length≤140737488355328 by omega)⟩
   |false=>
    have bt:=aQ rfl;have bp:=aG rfl;rw[if_neg (show ¬(false=true)by decide)]at t;dsimp only at bp bt;have ai:=fun J af=>bd.o g (by omega) (false,V) J p W cap L (by show 14*V.length+14≤g;omega) af
    have T:=st_less (f:=g) (l:=V) (by omega);obtain⟨⟨x,B⟩,aC⟩:∃Q,stT g (false,V)=Q:=⟨_,rfl⟩;rw[aC]at ai t T;dsimp only at t T;obtain⟨aR,bc,aa,aV⟩:=Y4 ai t T (Lt y.o);obtain⟨i,z,I⟩:=y.o;have aB:wr.cell? ⟨p,2,none⟩=some (.bool false):=z.own.at 2 _ rfl;have aP:=z.own.lt;clear ai aC t T z I hu bs aQ aG;go_wp2_with fail;refine Zb (aR.o _ y.o) ?_;rintro e w2 ⟨h,d,bH,bJ,bI,rfl,S,U,R⟩;dsimp only at d S U R;obtain⟨m,n,rfl⟩:=S.shape;obtain⟨u,v,rfl⟩:=U.shape;obtain⟨q,r,rfl⟩:=R.shape;obtain⟨an,av,ar⟩:=Y3 (N.o.trans h) d (E.o.sfr h F.o);have aH:=fun {k} (e:(Value.slice C c.length D).ownBlock=some k)=>E.o.ge e
    have bG:w.heap.size≤wr.heap.size:=N.o.size;have aO:Fc (fun b=>w.heap.size≤b∧(Value.slice C c.length D).ownBlock≠some b) w2 ⟨x,.slice m x.args.length n,.slice u x.thn.length v,.slice q x.els.length r⟩:=by
     have ag:∀b,wr.heap.size≤b→w.heap.size≤b∧(Value.slice C c.length D).ownBlock≠some b:=fun b bC=>⟨by omega,fun e=>by have:=(aH e).2;omega⟩
     exact⟨S.mono ag,U.mono ag,R.mono ag⟩
    have ay:=Za aO;clear h d S U R aO aH aB aP;go_upto_region 6 with(fail);have G:Yj w2.heap.size w2 (w2.alloc (.cells #[ι x.kind,σ x.name,.slice m x.args.length n,.slice u x.thn.length v,.slice q x.els.length r] 50)):=bA;obtain⟨ao,aw,au,az,Y⟩:=Y5 (an.o.trans (Zh G)) (av.o.old G) (ar.o.sfr (Zh (s:=p) G) F.o) (ay.o.keep (Be G)) (Ze w2 (ψ x (.slice m x.args.length n) (.slice u x.thn.length v) (.slice q x.els.length r)) 50);clear G;generalize w2.alloc (.cells #[ι x.kind,σ x.name,.slice m x.args.length n,.slice u x.thn.length v,.slice q x.els.length r] 50)=K at*;have H:Yj K.heap.size K (K.alloc (.cells #[ι x.kind,σ x.name,.slice m x.args.length n,.slice u x.thn.length v,.slice q x.els.length r] 50)):=bA;obtain⟨X,ac,ab,aA,aq⟩:=Y5 (ao.o.trans (Zh H)) (aw.o.old H) (au.o.sfr (Zh (s:=p) H) F.o) (az.o.keep (Be H)) (Dv.new K (Fo x (.slice m x.args.length n) (.slice u x.thn.length v) (.slice q x.els.length r)) 50);obtain⟨⟨bh,bi,bj,bk,bl⟩,_⟩:=Ai Y.o;have bn:=Y.o.lt;clear H;have ad:Yh (c.length≤1000000):=(by omega:c.length≤1000000);go_wp2_with (at_builtin;(refine Ym (P:=Zd) _ rfl _ _ 46 rfl w.heap.size 50 bx _ 5 96 underlying46 bq bu bv bw rfl (by decide) (.slice C c.length D) c.length (Ip c) rfl (by exact ab.o.1) ⟨K.heap.size,0,none⟩ 1 1 (Fo x (.slice m x.args.length n) (.slice u x.thn.length v) (.slice q x.els.length r)) rfl rfl (Fr aq.o) (kQ) (by decide) (by have:=ad.o;unfold maxLen;omega) (by have:=ad.o;omega) X.o.size _ rfl ?_;intro bm bg bz aN aI aE bF;obtain⟨ak,O,aj⟩:=Y3 aN aI aE;clear aN aI aE))
    obtain⟨aX,aS,ba⟩:=Y3 (ab.o.snoc ⟨x,.slice m x.args.length n,.slice u x.thn.length v,.slice q x.els.length r⟩ aA.o ak.o O.o aj.o) (X.o.grow O.o (fun k e=>(E.o.ge e).1)) (ac.o.low (w':=bz) (fun k br=>O.o.block k (Zu br ac.o.lt) (fun e=>by have:=(E.o.ge e.symm).1;have:=F.o;omega)));have aK:(c++[(⟨x,.slice m x.args.length n,.slice u x.thn.length v,.slice q x.els.length r⟩:StV)]).length=c.length+1:=by simp
    have aL:(c++[(⟨x,.slice m x.args.length n,.slice u x.thn.length v,.slice q x.els.length r⟩:StV)]).map (·.x)=c.map (·.x)++[x]:=by simp
    obtain⟨Z,aW⟩:=Y2 aK aL;clear an ao X av aw ac ar au ab ay az aA aq Y bh bi bj bk bl bn ak O aj aK aL;refine Zb (al.o [125] B _ ba.o) ?_;rintro e bB ⟨rfl,h,d⟩;obtain⟨aY,aT,ax⟩:=Y3 (aX.o.sfr h F.o) (aS.o.trans h) d;clear h d;go_wp2;go_roundw
    case rel=>exact⟨c++[⟨x,.slice m x.args.length n,.slice u x.thn.length v,.slice q x.els.length r⟩],some ⟨bm,0,none⟩,bg,B,g,by rw[Z.o],rfl,by rw[aW.o];exact bc.o,⟨by omega,fun A=>by have:=aa.o A;omega⟩,by omega,by rw[Z.o];exact⟨by have:=ad.o;omega,fun A=>by have:=aa.o A;omega⟩,aT.o,ax.o,by rw[Z.o];exact aY.o⟩
    case measure=>
     have bo:=aV.o;show(match Value.bool (Cp [125] B)with|.bool true=>0|_=>Nc p L bB)<Nc p L wr
     rw[bo]
     cases I:Cp [125] B with
     |true=>dsimp only;omega
     |false=>
      have d:=ax.o;rw[I,if_neg (by decide)]at d;dsimp only;obtain⟨be,l2⟩:=B
      cases be with
      |true=>rw[Tb d];omega
      |false=>rw[Lt d];have:=aa.o rfl;dsimp only at this;omega
theorem rblk_of(f:Nat)(i:RssC f)(st:PS)(w:Yg)(p d cap:Nat)(L:List Tk)(c:14*st.2.length+15≤f)(a:Rs w p d cap L st):
  Yl Zd 190 #[.pointer (some ⟨p,0,none⟩)] w (SsEnd w p d cap L (ssT f [] (Ap [123] st))):=by
 have m:=Za (Nj p d cap L [123] st w a);have u:=Ce [123] st;obtain⟨k,x⟩:=Y2 (fun j s=>i (Ap [123] st) j p d cap L (by omega) s) a.lt;clear i c a u;go_enter func190,ntmps190;go_wp2_with fail;refine Zb m.o ?_;rintro e j ⟨rfl,c,a⟩;obtain⟨h,n⟩:=Y2 c a;clear c a;go_wp2_with fail;refine Zb (k.o _ n.o) ?_;rintro e w2 ⟨c,a,v,rfl,g⟩;obtain⟨l,q⟩:=Y2 (h.o.trans c) a;obtain⟨y,z,rfl⟩:=g.shape;have r:=Za (g.mono (D':=(w.heap.size≤ ·)) (fun b t=>Nat.le_trans h.o.size t));clear c a g;go_wp2;go_ret
 exact⟨l.o,q.o,_,rfl,r.o⟩
theorem tL {w c:Yg}{p j cap:Nat}{L:List Tk}{st:PS}{x:St}{a t u:Yi}(r:p<w.heap.size)(m:SFr p w c)(n:Rs c p j cap L st)(l:Ag (w.heap.size+1≤ ·) c x.args a)(o:Au (w.heap.size+1≤ ·) c x.thn t)(q:Au (w.heap.size+1≤ ·) c x.els u){e f g h i:Yi}:
  pN w p j cap L (x,st) (.returned (rO x a t u)) (((((c.setCell ⟨w.heap.size,0,none⟩ e).setCell ⟨w.heap.size,1,none⟩ f).setCell ⟨w.heap.size,2,none⟩ g).setCell ⟨w.heap.size,3,none⟩ h).setCell ⟨w.heap.size,4,none⟩ i):=
 have k:=Ha c (D:=(w.heap.size+1≤ ·)) (by show ¬w.heap.size+1≤w.heap.size;omega) e f g h i;have d:∀b,w.heap.size+1≤b→w.heap.size≤b:=fun b s=>by omega
 ⟨sfr5 m (Zg _) _ _ _ _ _,n.sfr5 r _ _ _ _ _,a,t,u,rfl,(l.keep k).mono d,(o.keep k).mono d,(q.keep k).mono d⟩
theorem rs_end1 {w a:Yg}{p i cap:Nat}{L:List Tk}{st:PS}{x:Ex}{y:St}{s:Yi}(u:p<w.heap.size)(j:SFr p w a)(k:Rs a p i cap L st)(l:Ag (w.heap.size+1≤ ·) a x.args s)(t:I64 x.n)(z:w.heap.size<a.heap.size)(v:y.args=[x])(o:y.thn=[])(q:y.els=[]){c d e f g:Yi}:
  pN w p i cap L (y,st) (.returned (rO y (.slice (some ⟨a.heap.size,0,none⟩) 1 1) (.slice none 0 0) (.slice none 0 0))) ((((((a.setCell ⟨w.heap.size,0,none⟩ c).setCell ⟨w.heap.size,1,none⟩ d).setCell ⟨w.heap.size,2,none⟩ e).setCell ⟨w.heap.size,3,none⟩ f).setCell ⟨w.heap.size,4,none⟩ g).alloc (.cells #[.int .i64 x.kind,.int .i64 x.op,.int .i64 x.n,.string (Aa x.name),s] 35)):=by
 have m:=l.keep (Ha a (show ¬w.heap.size+1≤w.heap.size by omega) c d e f g);have h:=Oa m t (by rw[Hi];omega);rw[Hi]at h;refine⟨(sfr5 j (Zg _) c d e f g).trans (Zh (bA)),(k.sfr5 u c d e f g).old (bA),_,_,_,rfl,?_,?_,?_⟩
 ·rw[v]
  exact h.mono (fun b r=>by have:w.heap.size+1≤b:=r;omega)
 ·rw[o];exact Zl
 ·rw[q];exact Zl
structure NI (w:Yg)(p tb cap xb:Nat)(L:List Tk)(st:PS)(k:Int)(s:Bs)(ps:List (Ex ×Yi))(v:Yi)(wx:Yg):Prop where
 sfr:SFr p w wx
 rs:Rs wx p tb cap L st
 own:Ad wx w.heap.size [.int .i64 0,.string ⟨#[]⟩,.slice none 0 0,.slice none 0 0,.slice none 0 0] 50
 x:Ad wx xb [.int .i64 k,.string (Aa s),v,.slice none 0 0,.slice none 0 0] 50
 row:Br wx (xb+1) ps v
 lt:w.heap.size<xb
 pw:p<w.heap.size
theorem NI.call {w:Yg}{p c cap g:Nat}{L:List Tk}{st e:PS}{k:Int}{s:Bs}{d:List (Ex ×Yi)}{v:Yi}{f w':Yg}(a:NI w p c cap g L st k s d v f)(b:SFr p f w')(h:Rs w' p c cap L e):NI w p c cap g L e k s d v w':=
 have i:=a.lt;have j:=a.pw
 ⟨a.sfr.trans b,h,a.own.sfr b (by omega),a.x.sfr b (by omega),a.row.sfr b (by omega),a.lt,a.pw⟩
theorem NI.old {w:Yg}{p e cap f:Nat}{L:List Tk}{st:PS}{k:Int}{s:Bs}{d:List (Ex ×Yi)}{v:Yi}{a w':Yg}(b:NI w p e cap f L st k s d v a)(c:Yj a.heap.size a w'):NI w p e cap f L st k s d v w':=
 b.call (Zh c) (b.rs.old c)
theorem NI.kind {w:Yg}{p e cap b:Nat}{L:List Tk}{st:PS}{k:Int}{s:Bs}{d:List (Ex ×Yi)}{v:Yi}{f:Yg}(a:NI w p e cap b L st k s d v f)(c:Int):NI w p e cap b L st c s d v (f.setCell ⟨b,0,none⟩ (.int .i64 c)):=
 have g:=a.lt;have h:=a.pw
 ⟨a.sfr.setNew (by omega) _ _,a.rs.other (by omega) _ _,a.own.other (by omega) _ _,a.x.set 0 _,a.row.other (by omega) _ _,a.lt,a.pw⟩
theorem NI.fresh {w:Yg}{p h cap f:Nat}{L l2:List Tk}{st:PS}{k:Int}{s:Bs}{g:List (Ex ×Yi)}{v:Yi}{a w':Yg}(c:NI w p h cap f L st k s g v a){l:List Ex}{u:Yi}(hx:Ag (a.heap.size≤ ·) w' l u):Ag (fun b=>f+1≤b∧v.ownBlock≠some b) w' l u:=
 hx.mono (fun b d=>by
  have d:a.heap.size≤b:=d;have:=c.x.lt;exact⟨by omega,fun e=>by have:=(c.row.ge e).2;omega⟩)
theorem NI.grow {w:Yg}{p f cap d:Nat}{L:List Tk}{st:PS}{k:Int}{s:Bs}{i:List (Ex ×Yi)}{v:Yi}{g w':Yg}(a:NI w p f cap d L st k s i v g)(b:g.grownBy w' v.ownBlock):SFr p w w'∧Rs w' p f cap L st∧Ad w' w.heap.size [.int .i64 0,.string ⟨#[]⟩,.slice none 0 0,.slice none 0 0,.slice none 0 0] 50∧Ad w' d [.int .i64 k,.string (Aa s),v,.slice none 0 0,.slice none 0 0] 50:=by
 have j:=a.lt;have l:=a.pw;have c:∀k,v.ownBlock=some k→d+1≤k:=fun k e=>(a.row.ge e).1
 exact⟨a.sfr.grow b (fun k e=>by have:=c k e;omega),a.rs.low (fun k h=>b.block k (Zu h a.rs.lt) (fun e=>by have:=c k e.symm;omega)),
  a.own.low (b.block _ a.own.lt (fun e=>by have:=c _ e.symm;omega)),a.x.low (b.block _ a.x.lt (fun e=>by have:=c _ e.symm;omega))⟩
theorem NI.app {w:Yg}{p j cap e:Nat}{L:List Tk}{st:PS}{k:Int}{s:Bs}{a:List (Ex ×Yi)}{v:Yi}{f w':Yg}(d:NI w p j cap e L st k s a v f){x:Ex}{h:Yi}(hx:Ag (fun b=>e+1≤b∧v.ownBlock≠some b) f x.args h)(t:I64 x.n){g c:Nat}
  (u:w'.ownsRow (e+1) 35 5 (.slice (some ⟨g,0,none⟩) (a.length+1) c) (a.length+1) (Dl a++Ba x h)) (i:f.grownBy w' v.ownBlock) (r:v.ownBlock=some g∨g=f.heap.size):
  NI w p j cap e L st k s (a++[(x,h)]) (.slice (some ⟨g,0,none⟩) (a.length+1) c) (w'.setCell ⟨e,2,none⟩ (.slice (some ⟨g,0,none⟩) (a.length+1) c)):=by
 obtain⟨l,m,o,q⟩:=d.grow i;have y:=d.lt;have z:=d.pw;exact⟨l.setNew (by omega) _ _,m.other (by omega) _ _,o.other (by omega) _ _,q.set 2 _,(d.row.snoc x h hx t u i r).other (by omega) _ _,d.lt,d.pw⟩
theorem NI.fin {w:Yg}{p e cap g:Nat}{L:List Tk}{st:PS}{k:Int}{s:Bs}{c:List (Ex ×Yi)}{v:Yi}{f:Yg}(a:NI w p e cap g L st k s c v f)(n:c.length≤2)(h i j l m:Yi):
  pN w p e cap L (.mk k s (c.map (·.1)) [] [],st) (.returned (rO (.mk k s (c.map (·.1)) [] []) v (.slice none 0 0) (.slice none 0 0))) (((((f.setCell ⟨w.heap.size,0,none⟩ h).setCell ⟨w.heap.size,1,none⟩ i).setCell ⟨w.heap.size,2,none⟩ j).setCell ⟨w.heap.size,3,none⟩ l).setCell ⟨w.heap.size,4,none⟩ m):=
 tL a.pw a.sfr a.rs ((a.row.exs (show _≤_ by omega)).mono (fun b d=>by have d:g+1≤b:=d;have:=a.lt;show _≤_;omega)) Zl Zl
theorem rpNamed(f:Nat)(st:PS)(w:Yg)(p l cap:Nat)(L:List Tk)(cc:14*st.2.length+12≤f)(aZ:Rs w p l cap L st):
  Yl Zd 191 #[.pointer (some ⟨p,0,none⟩)] w (pN w p l cap L (nmT f st)):=by
 have bF:=Za aZ.lt;have aV:Yh (w.heap.size≠p):=by show _≠_;have:=aZ.lt;omega
 have bk:Yj w.heap.size w (w.alloc (ϑ)):=bA;have bz:Yh (SFr p w (w.alloc (ϑ))):=Zh bk;obtain⟨bG,bD⟩:=Y2 (Ze w θ 50) (aZ.old bk);have bp:=Ka st;have aP:nmT f st=if Cp [40] (Bl st).2=true then(.mk 10 [] [.mk 5 0 0 (Bl st).1 (aT f (Bg (Bl st).2)).1] [] [],(aT f (Bg (Bl st).2)).2)
  else if Cp [91] (Bl st).2=true then
   (.mk 2 (Bl st).1 [(xT f 1 (Bg (Bl st).2)).1,(xT f 1 (Ap [61] (Ap [93] (xT f 1 (Bg (Bl st).2)).2))).1] [] [],(xT f 1 (Ap [61] (Ap [93] (xT f 1 (Bg (Bl st).2)).2))).2)
  else(.mk 1 (Bl st).1 [(xT f 1 (Ap [61] (Bl st).2)).1] [] [],(xT f 1 (Ap [61] (Bl st).2)).2):=rfl
 obtain⟨bL,bN⟩:∃bL,nmT f st=bL:=⟨_,rfl⟩;rw[bN]at aP ⊢;have am:=fun H (Z:Rs H p l cap L st)=>cB p l cap L st H Z
 obtain⟨⟨s,d⟩,bO⟩:∃q,Bl st=q:=⟨_,rfl⟩;rw[bO]at aP am bp;dsimp only at aP am bp;obtain⟨af,am⟩:=Y2 aP am;have al:Yh (14*d.2.length+12≤f):=(by omega:14*d.2.length+12≤f);obtain⟨bx,bf⟩:=Y2 (fun s d H (Z:Rs H p l cap L d)=>Rp p l cap L s d H Z) (fun s d H (Z:Rs H p l cap L d)=>Nj p l cap L s d H Z);have bw:Yh (RaC f):=(sS f).2.2;have bc:=Za (fun st H (c:14*st.2.length+10≤f) (Z:Rs H p l cap L st)=>bY f st H p l cap L c Z);obtain⟨bt,bm,bq,br,bs⟩:=info_parts Mo;clear bk bN aP bO bp cc aZ;go_enter func191,ntmps191;go_wp2_with fail;refine Zb (am.o _ bD.o) ?_;rintro e ct ⟨rfl,c,a⟩;obtain⟨bd,bi,bE⟩:=Y3 (bz.o.trans c) (bG.o.sfr c aV.o) a;clear c a bz bG bD am;go_wp2_with fail;refine Zb (bx.o [40] d ct bE.o) ?_;rintro e ai ⟨rfl,c,a⟩
 cases hop:Cp [40] d with
 |true=>
  rw[hop,if_pos rfl]at a;obtain⟨bR,aD,bU⟩:=Y3 (bd.o.trans c) (bi.o.sfr c aV.o) a;clear c a;have h:=af.o;rw[if_pos hop]at h;have bl:=fun H Z=>bw.o (Bg d) H p l cap L (by have:=Dw hop;have:=al.o;omega) Z
  obtain⟨⟨av,aa⟩,aN⟩:∃Q,aT f (Bg d)=Q:=⟨_,rfl⟩;rw[aN]at bl h;dsimp only at h;subst h;have bQ:=Za bl;clear bl aN hop af;go_wp2_with fail;refine Zb (bQ.o _ bU.o) ?_;rintro e ak ⟨c,a,v,rfl,hx⟩;dsimp only at a hx;obtain⟨ba,bb,rfl⟩:=hx.shape;obtain⟨bZ,bS,bX,bV⟩:=Y4 (hx.mono (D':=(w.heap.size+1≤ ·)) (fun b cb=>Nat.le_trans (show w.heap.size+1≤_ from aD.o.lt) cb)) (bR.o.trans c) (aD.o.sfr c aV.o) a;clear c a hx;go_upto_region 5 with(fail);have g:Yj ak.heap.size ak (ak.alloc (.cells #[ι 5,ι 0,ι 0,σ s,ρ ba av bb] 35)):=bA;obtain⟨bT,aW,bW,ca,K⟩:=Y5 (bS.o.trans (Zh g)) (bX.o.old g) (bV.o.old g) (bZ.o.old g) (Ze ak [ι 5,ι 0,ι 0,σ s,ρ ba av bb] 35);clear g;generalize ak.alloc (.cells #[ι 5,ι 0,ι 0,σ s,ρ ba av bb] 35)=bv at*;obtain⟨⟨an,ao,ap,aq,ar⟩,_⟩:=Ai K.o;have au:=K.o.lt;obtain⟨⟨m,r,t,u,z⟩,A,B,C,D,E⟩:=Ai aW.o;have F:=aW.o.lt;go_wp2_with fail;obtain⟨⟨aI,aJ,aK,aL,aM⟩,_⟩:=Ai ((Ho aW.o (ι 10) (ε) (κ bv.heap.size 1 1) (ν) (ν)).alloc (.cells #[ι 5,ι 0,ι 0,σ s,ρ ba av bb] 35))
  exact Yk (v:=.agg #[ι 10,ε,κ bv.heap.size 1 1,ν,ν]) (by simp [results,results191,go_sem,aI,aJ,aK,aL,aM]) rfl (rs_end1 (x:=.mk 5 0 0 s av) (y:=.mk 10 [] [.mk 5 0 0 s av] [] []) bF.o bT.o bW.o ca.o Eo aW.o.lt rfl rfl rfl)
 |false=>
  rw[hop,if_neg (by decide)]at a;have bj:=af.o;rw[if_neg (by rw[hop];decide)]at bj;have af:=Za bj;have g:Yj ai.heap.size ai (ai.alloc (.cells #[ι 1,σ s,ν,ν,ν] 50)):=bA;have aC:Yh (NI w p l cap ai.heap.size L d 1 s [] (ν) (ai.alloc (.cells #[ι 1,σ s,ν,ν,ν] 50))):=by
   have aD:=bi.o.sfr c aV.o;exact⟨(bd.o.trans c).trans (Zh g),a.old g,aD.old g,Ze ai [ι 1,σ s,ν,ν,ν] 50,Br.zero _ _,aD.lt,bF.o⟩
  clear c a hop g bj bd bi bE bw;go_upto_region 7 with(fail);generalize ai.alloc (.cells #[ι 1,σ s,ν,ν,ν] 50)=ak at*;generalize ai.heap.size=S at*;go_wp2_with fail;refine Zb (bx.o [91] d ak aC.o.rs) ?_;rintro e bv ⟨rfl,c,a⟩
  cases hbr:Cp [91] d with
  |true=>
   rw[hbr,if_pos rfl]at a;have h:=af.o;rw[if_pos hbr]at h;have ae:=Za (aC.o.call c a);have cd:=Ea d;have bB:Yh (14*(Bg d).2.length+10≤f):=(by have:=al.o;omega:14*(Bg d).2.length+10≤f);have ax:=bc.o (Bg d);have bn:=(Ot f).1 1 (Bg d);obtain⟨⟨x,aa⟩,aN⟩:∃Q,xT f 1 (Bg d)=Q:=⟨_,rfl⟩;rw[aN]at h ax bn;dsimp only at h bn;have ce:=Ce [93] aa;have bo:=Ce [61] (Ap [93] aa);have J:=bc.o (Ap [61] (Ap [93] aa));obtain⟨⟨y,cr⟩,aO⟩:∃Q,xT f 1 (Ap [61] (Ap [93] aa))=Q:=⟨_,rfl⟩;rw[aO]at h J;dsimp only at h;have ay:Yh (14*(Ap [61] (Ap [93] aa)).2.length+10≤f):=(by have:=al.o;omega:14*(Ap [61] (Ap [93] aa)).2.length+10≤f);subst h;obtain⟨ax,J⟩:=Y2 ax J;clear c a hbr aN aO cd bn ce bo af aC al;have aU:=Za (ae.o.kind 2);obtain⟨⟨m,r,t,u,z⟩,A,B,C,D,E⟩:=Ai ae.o.x;have F:=ae.o.x.lt;go_wp2_with fail;refine Zb (ax.o _ bB.o aU.o.rs) ?_;clear m r t u z A B C D E F;rintro e aw ⟨c,a,xs,rfl,hx,O⟩;dsimp only at a hx O;obtain⟨V,W,rfl⟩:=hx.shape;obtain⟨bI,bC,ad⟩:=Y3 (aU.o.fresh (l2:=[]) hx) (aU.o.call c a) O;clear c a hx O ae aU ax bB;go_upto_region 11 with(fail);have g:Yj aw.heap.size aw (aw.alloc (.cells #[ι x.kind,ι x.op,ι x.n,σ x.name,ρ V x.args W] 35)):=bA
   obtain⟨aS,bJ,be⟩:=Y3 (bC.o.old g) (bI.o.old g) (Ze aw (χ x (ρ V x.args W)) 35);clear g bC bI;generalize aw.alloc (.cells #[ι x.kind,ι x.op,ι x.n,σ x.name,ρ V x.args W] 35)=aR at*;generalize aw.heap.size=bM at*;obtain⟨⟨m,r,t,u,z⟩,A,B,C,D,E⟩:=Ai aS.o.x;have F:=aS.o.x.lt;obtain⟨⟨an,ao,ap,aq,ar⟩,_⟩:=Ai be.o;have au:=be.o.lt;have M:Yj aR.heap.size aR (aR.alloc (.cells #[ι x.kind,ι x.op,ι x.n,σ x.name,ρ V x.args W] 35)):=bA;obtain⟨az,bK,bH⟩:=Y3 (aS.o.old M) (bJ.o.old M) (Dv.new aR (Ba x (ρ V x.args W)) 35);clear M;go_wp2_with (at_builtin;(refine Ym (P:=Zd) _ rfl _ _ 33 rfl (S+1) 35 bt _ 5 64 Zz bm bq br bs rfl (by decide) (ν) 0 (Dl []) rfl (by exact az.o.row.1) ⟨aR.heap.size,0,none⟩ 1 1 (Ba x (ρ V x.args W)) rfl rfl (Fr bH.o) (Lw x) (by decide) (by decide) (by decide) (by have:=az.o.x.lt;omega) _ rfl ?_;intro aY aX bP ah N ag aQ;obtain⟨ac,K,ab⟩:=Y3 ah N ag;have i:=az.o.grow N;clear m r t u z A B C D E F ah N ag aQ;obtain⟨⟨m,r,t,u,z⟩,A,B,C,D,E⟩:=Ai i.2.2.2;have F:=i.2.2.2.lt;clear i))
   have bg:Yh (NI w p l cap S L _ _ s [(x,ρ V x.args W)] (κ aY 1 aX) (bP.setCell ⟨S,2,none⟩ (κ aY 1 aX))):=az.o.app bK.o ad.o ac.o K.o ab.o;clear m r t u z A B C D E F an ao ap aq ar au aS bJ be az bK bH ac K ab ad;generalize bP.setCell ⟨S,2,none⟩ (κ aY 1 aX)=cv at*;refine Zb (bf.o [93] aa _ bg.o.rs) ?_;rintro e cw ⟨rfl,c,a⟩;have bh:=Za (bg.o.call c a);clear c a bg;go_wp2_with fail;refine Zb (bf.o [61] (Ap [93] aa) _ bh.o.rs) ?_;rintro e cs ⟨rfl,c,a⟩;have T:=Za (bh.o.call c a);clear c a bh;go_wp2_with fail;refine Zb (J.o _ ay.o T.o.rs) ?_;rintro e I ⟨c,a,cu,rfl,hx,O⟩;dsimp only at a hx O;obtain⟨j,k,rfl⟩:=hx.shape;obtain⟨aF,aA,ad⟩:=Y3 (T.o.fresh (l2:=[]) hx) (T.o.call c a) O;clear c a hx O T J ay;go_upto_region 15 with(fail);have g:Yj I.heap.size I (I.alloc (.cells #[ι y.kind,ι y.op,ι y.n,σ y.name,ρ j y.args k] 35)):=bA;obtain⟨U,aG,aj⟩:=Y3 (aA.o.old g) (aF.o.old g) (Ze I (χ y (ρ j y.args k)) 35);clear g aA aF;generalize I.alloc (.cells #[ι y.kind,ι y.op,ι y.n,σ y.name,ρ j y.args k] 35)=R at*
   generalize I.heap.size=bM at*;obtain⟨⟨m,r,t,u,z⟩,A,B,C,D,E⟩:=Ai U.o.x;have F:=U.o.x.lt;obtain⟨⟨an,ao,ap,aq,ar⟩,_⟩:=Ai aj.o;have au:=aj.o.lt;have M:Yj R.heap.size R (R.alloc (.cells #[ι y.kind,ι y.op,ι y.n,σ y.name,ρ j y.args k] 35)):=bA;obtain⟨G,aH,aE⟩:=Y3 (U.o.old M) (aG.o.old M) (Dv.new R (Ba y (ρ j y.args k)) 35);clear M;go_wp2_with (at_builtin;(refine Ym (P:=Zd) _ rfl _ _ 33 rfl (S+1) 35 bt _ 5 64 Zz bm bq br bs rfl (by decide) (κ aY 1 aX) 1 (Dl [(x,ρ V x.args W)]) rfl (by exact G.o.row.1) ⟨R.heap.size,0,none⟩ 1 1 (Ba y (ρ j y.args k)) rfl rfl (Fr aE.o) (Lw y) (by decide) (by decide) (by decide) (by have:=G.o.x.lt;omega) _ rfl ?_;intro Y X bu ah N ag aQ;obtain⟨ac,K,ab⟩:=Y3 ah N ag;have i:=G.o.grow N;clear m r t u z A B C D E F ah N ag aQ;obtain⟨⟨m,r,t,u,z⟩,A,B,C,D,E⟩:=Ai i.2.2.2;have F:=i.2.2.2.lt;obtain⟨⟨cg,ch,ci,cj,ck⟩,cl,cm,cn,co,cp⟩:=Ai i.2.2.1;have cq:=i.2.2.1.lt;have cf:=G.o.lt;clear i));have aB:Yh (NI w p l cap S L _ _ s [(x,ρ V x.args W),(y,ρ j y.args k)] (κ Y 2 X) (bu.setCell ⟨S,2,none⟩ (κ Y 2 X))):=G.o.app aH.o ad.o ac.o K.o ab.o
   clear m r t u z A B C D E F an ao ap aq ar au U aG aj G aH aE ac K ab ad;obtain⟨⟨aI,aJ,aK,aL,aM⟩,_⟩:=Ai (Ho aB.o.own (ι 2) (σ s) (κ Y 2 X) (ν) (ν));exact Yk (v:=.agg #[ι 2,σ s,κ Y 2 X,ν,ν]) (by simp [results,results191,go_sem,aI,aJ,aK,aL,aM]) rfl (aB.o.fin (by simp) _ _ _ _ _)
  |false=>
   rw[hbr,if_neg (by decide)]at a;have h:=af.o;rw[if_neg (by rw[hbr];decide)]at h;have ae:=Za (aC.o.call c a);have bo:=Ce [61] d;have J:=bc.o (Ap [61] d);obtain⟨⟨y,cr⟩,aO⟩:∃Q,xT f 1 (Ap [61] d)=Q:=⟨_,rfl⟩;rw[aO]at h J;dsimp only at h;have ay:Yh (14*(Ap [61] d).2.length+10≤f):=(by have:=al.o;omega:14*(Ap [61] d).2.length+10≤f);subst h;have J:=Za J;clear c a hbr aO bo af aC al;go_wp2_with fail;refine Zb (bf.o [61] d _ ae.o.rs) ?_;rintro e cs ⟨rfl,c,a⟩;have T:=Za (ae.o.call c a);clear c a ae;go_wp2_with fail;refine Zb (J.o _ ay.o T.o.rs) ?_;rintro e I ⟨c,a,cu,rfl,hx,O⟩;dsimp only at a hx O;obtain⟨j,k,rfl⟩:=hx.shape;obtain⟨aF,aA,ad⟩:=Y3 (T.o.fresh (l2:=[]) hx) (T.o.call c a) O;clear c a hx O T J ay;go_upto_region 15 with(fail);have g:Yj I.heap.size I (I.alloc (.cells #[ι y.kind,ι y.op,ι y.n,σ y.name,ρ j y.args k] 35)):=bA;obtain⟨U,aG,aj⟩:=Y3 (aA.o.old g) (aF.o.old g) (Ze I (χ y (ρ j y.args k)) 35);clear g aA aF;generalize I.alloc (.cells #[ι y.kind,ι y.op,ι y.n,σ y.name,ρ j y.args k] 35)=R at*;generalize I.heap.size=bM at*
   obtain⟨⟨m,r,t,u,z⟩,A,B,C,D,E⟩:=Ai U.o.x;have F:=U.o.x.lt;obtain⟨⟨an,ao,ap,aq,ar⟩,_⟩:=Ai aj.o;have au:=aj.o.lt;have M:Yj R.heap.size R (R.alloc (.cells #[ι y.kind,ι y.op,ι y.n,σ y.name,ρ j y.args k] 35)):=bA;obtain⟨G,aH,aE⟩:=Y3 (U.o.old M) (aG.o.old M) (Dv.new R (Ba y (ρ j y.args k)) 35);clear M;go_wp2_with (at_builtin;(refine Ym (P:=Zd) _ rfl _ _ 33 rfl (S+1) 35 bt _ 5 64 Zz bm bq br bs rfl (by decide) (ν) 0 (Dl []) rfl (by exact G.o.row.1) ⟨R.heap.size,0,none⟩ 1 1 (Ba y (ρ j y.args k)) rfl rfl (Fr aE.o) (Lw y) (by decide) (by decide) (by decide) (by have:=G.o.x.lt;omega) _ rfl ?_;intro Y X bu ah N ag aQ;obtain⟨ac,K,ab⟩:=Y3 ah N ag;have i:=G.o.grow N;clear m r t u z A B C D E F ah N ag aQ;obtain⟨⟨m,r,t,u,z⟩,A,B,C,D,E⟩:=Ai i.2.2.2;have F:=i.2.2.2.lt;obtain⟨⟨cg,ch,ci,cj,ck⟩,cl,cm,cn,co,cp⟩:=Ai i.2.2.1;have cq:=i.2.2.1.lt;have cf:=G.o.lt;clear i));have aB:Yh (NI w p l cap S L _ _ s [(y,ρ j y.args k)] (κ Y 1 X) (bu.setCell ⟨S,2,none⟩ (κ Y 1 X))):=G.o.app aH.o ad.o ac.o K.o ab.o
   clear m r t u z A B C D E F an ao ap aq ar au U aG aj G aH aE ac K ab ad;obtain⟨⟨aI,aJ,aK,aL,aM⟩,_⟩:=Ai (Ho aB.o.own (ι 1) (σ s) (κ Y 1 X) (ν) (ν));exact Yk (v:=.agg #[ι 1,σ s,κ Y 1 X,ν,ν]) (by simp [results,results191,go_sem,aI,aJ,aK,aL,aM]) rfl (aB.o.fin (by simp) _ _ _ _ _)
structure SI (w:Yg)(p tb cap:Nat)(L:List Tk)(st:PS)(y:St)(a t u:Yi)(wx:Yg):Prop where
 sfr:SFr p w wx
 rs:Rs wx p tb cap L st
 own:Ad wx w.heap.size [.int .i64 0,.string ⟨#[]⟩,.slice none 0 0,.slice none 0 0,.slice none 0 0] 50
 x:Ad wx (w.heap.size+1) [.int .i64 y.kind,.string (Aa y.name),a,t,u] 50
 ha:Ag (w.heap.size+2≤ ·) wx y.args a
 ht:Au (w.heap.size+2≤ ·) wx y.thn t
 hu:Au (w.heap.size+2≤ ·) wx y.els u
 pw:p<w.heap.size
theorem SI.call {x:St}{w:Yg}{p e cap:Nat}{L:List Tk}{st g:PS}{a t u:Yi}{f w':Yg}(b:SI w p e cap L st x a t u f)(c:SFr p f w')(h:Rs w' p e cap L g):SI w p e cap L g x a t u w':=
 have i:=b.pw;have d:Db (w.heap.size+2≤ ·) f w':=c.fresh (by omega)
 ⟨b.sfr.trans c,h,b.own.sfr c (by omega),b.x.sfr c (by omega),b.ha.keep d,b.ht.keep d,b.hu.keep d,b.pw⟩
theorem SI.kind {w:Yg}{p i cap:Nat}{L:List Tk}{st:PS}{k:Int}{s:Bs}{f:List Ex}{g h:List St}{a t u:Yi}{c:Yg}(b:SI w p i cap L st (.mk k s f g h) a t u c)(e:Int):SI w p i cap L st (.mk e s f g h) a t u (c.setCell ⟨w.heap.size+1,0,none⟩ (.int .i64 e)):=
 have j:=b.pw;have d:Db (w.heap.size+2≤ ·) c (c.setCell ⟨w.heap.size+1,0,none⟩ (ι e)):=Av c (by omega) 0 _
 ⟨b.sfr.setNew (by omega) _ _,b.rs.other (by omega) _ _,b.own.other (by omega) _ _,b.x.set 0 _,b.ha.keep d,b.ht.keep d,b.hu.keep d,b.pw⟩
theorem SI.args {w:Yg}{p f cap:Nat}{L:List Tk}{st m:PS}{k:Int}{s:Bs}{n:List Ex}{h i:List St}{a t u v:Yi}{d w':Yg}{g:List Ex}(c:SI w p f cap L st (.mk k s n h i) a t u d)(e:SFr p d w')(o:Rs w' p f cap L m)(q:Ag (d.heap.size≤ ·) w' g v):SI w p f cap L m (.mk k s g h i) v t u (w'.setCell ⟨w.heap.size+1,2,none⟩ v):=
 have r:=c.pw;have l:Db (w.heap.size+2≤ ·) d (w'.setCell ⟨w.heap.size+1,2,none⟩ v):=(e.fresh (by omega)).trans (Av w' (by omega) 2 v)
 ⟨(c.sfr.trans e).setNew (by omega) _ _,o.other (by omega) _ _,(c.own.sfr e (by omega)).other (by omega) _ _,(c.x.sfr e (by omega)).set 2 _,(q.mono (D':=(w.heap.size+2≤ ·)) (fun b j=>by have j:d.heap.size≤b:=j;have:=c.x.lt;show _≤_;omega)).keep (Av w' (by omega) 2 v),c.ht.keep l,c.hu.keep l,c.pw⟩
theorem SI.thn {w:Yg}{p f cap:Nat}{L:List Tk}{st m:PS}{k:Int}{s:Bs}{g:List Ex}{n i:List St}{a t u v:Yi}{d w':Yg}{h:List St}(c:SI w p f cap L st (.mk k s g n i) a t u d)(e:SFr p d w')(o:Rs w' p f cap L m)(q:Au (d.heap.size≤ ·) w' h v):SI w p f cap L m (.mk k s g h i) a v u (w'.setCell ⟨w.heap.size+1,3,none⟩ v):=
 have r:=c.pw;have l:Db (w.heap.size+2≤ ·) d (w'.setCell ⟨w.heap.size+1,3,none⟩ v):=(e.fresh (by omega)).trans (Av w' (by omega) 3 v)
 ⟨(c.sfr.trans e).setNew (by omega) _ _,o.other (by omega) _ _,(c.own.sfr e (by omega)).other (by omega) _ _,(c.x.sfr e (by omega)).set 3 _,c.ha.keep l,(q.mono (D':=(w.heap.size+2≤ ·)) (fun b j=>by have j:d.heap.size≤b:=j;have:=c.x.lt;show _≤_;omega)).keep (Av w' (by omega) 3 v),c.hu.keep l,c.pw⟩
theorem SI.els {w:Yg}{p f cap:Nat}{L:List Tk}{st m:PS}{k:Int}{s:Bs}{g:List Ex}{h n:List St}{a t u v:Yi}{d w':Yg}{i:List St}(c:SI w p f cap L st (.mk k s g h n) a t u d)(e:SFr p d w')(o:Rs w' p f cap L m)(q:Au (d.heap.size≤ ·) w' i v):SI w p f cap L m (.mk k s g h i) a t v (w'.setCell ⟨w.heap.size+1,4,none⟩ v):=
 have r:=c.pw;have l:Db (w.heap.size+2≤ ·) d (w'.setCell ⟨w.heap.size+1,4,none⟩ v):=(e.fresh (by omega)).trans (Av w' (by omega) 4 v)
 ⟨(c.sfr.trans e).setNew (by omega) _ _,o.other (by omega) _ _,(c.own.sfr e (by omega)).other (by omega) _ _,(c.x.sfr e (by omega)).set 4 _,c.ha.keep l,c.ht.keep l,(q.mono (D':=(w.heap.size+2≤ ·)) (fun b j=>by have j:d.heap.size≤b:=j;have:=c.x.lt;show _≤_;omega)).keep (Av w' (by omega) 4 v),c.pw⟩
theorem SI.whole {x y:St}{w:Yg}{p j cap:Nat}{L:List Tk}{st l:PS}{a t u:Yi}{d w':Yg}{e f g:Yi}(c:SI w p j cap L st x a t u d)(h:SFr p d w')(n:Rs w' p j cap L l)(m:Ag (d.heap.size≤ ·) w' y.args e)(o:Au (d.heap.size≤ ·) w' y.thn f)(q:Au (d.heap.size≤ ·) w' y.els g):
  SI w p j cap L l y e f g (((((w'.setCell ⟨w.heap.size+1,0,none⟩ (.int .i64 y.kind)).setCell ⟨w.heap.size+1,1,none⟩ (.string (Aa y.name))).setCell ⟨w.heap.size+1,2,none⟩ e).setCell ⟨w.heap.size+1,3,none⟩ f).setCell ⟨w.heap.size+1,4,none⟩ g):=
 have r:=c.pw;have s:=c.x.lt;have k:∀b,d.heap.size≤b→w.heap.size+2≤b:=fun b v=>by omega
 have i:=Ha w' (D:=(w.heap.size+2≤ ·)) (b:=w.heap.size+1) (by show ¬w.heap.size+2≤w.heap.size+1;omega) (ι y.kind) (σ y.name) e f g
 ⟨sfr5 (c.sfr.trans h) (by omega) _ _ _ _ _,n.sfr5 (by omega) _ _ _ _ _,(((((c.own.sfr h (by omega)).other (by omega) _ _).other (by omega) _ _).other (by omega) _ _).other (by omega) _ _).other (by omega) _ _,Ho (c.x.sfr h (by omega)) _ _ _ _ _,(m.mono k).keep i,(o.mono k).keep i,(q.mono k).keep i,c.pw⟩
theorem SI.fin {x:St}{w:Yg}{p e cap:Nat}{L:List Tk}{st:PS}{a t u:Yi}{f:Yg}(c:SI w p e cap L st x a t u f)(g h i j k:Yi):
  pN w p e cap L (x,st) (.returned (rO x a t u)) (((((f.setCell ⟨w.heap.size,0,none⟩ g).setCell ⟨w.heap.size,1,none⟩ h).setCell ⟨w.heap.size,2,none⟩ i).setCell ⟨w.heap.size,3,none⟩ j).setCell ⟨w.heap.size,4,none⟩ k):=
 have d:∀b,w.heap.size+2≤b→w.heap.size+1≤b:=fun b l=>by omega
 tL c.pw c.sfr c.rs (c.ha.mono d) (c.ht.mono d) (c.hu.mono d)
theorem SI.ni {w:Yg}{p b cap:Nat}{L:List Tk}{st:PS}{k:Int}{s:Bs}{c:Yg}(a:SI w p b cap L st (.mk k s [] [] []) (.slice none 0 0) (.slice none 0 0) (.slice none 0 0) c):NI w p b cap (w.heap.size+1) L st k s [] (.slice none 0 0) c:=
 ⟨a.sfr,a.rs,a.own,a.x,Br.zero _ _,by omega,a.pw⟩
theorem NI.si {w:Yg}{p c cap:Nat}{L:List Tk}{st:PS}{k:Int}{s:Bs}{v:Yi}{d:Yg}{b:List (Ex ×Yi)}(a:NI w p c cap (w.heap.size+1) L st k s b v d)(e:b.length≤2):SI w p c cap L st (.mk k s (b.map (·.1)) [] []) v (.slice none 0 0) (.slice none 0 0) d:=
 ⟨a.sfr,a.rs,a.own,a.x,a.row.exs (show _≤_ by omega),Zl,Zl,a.pw⟩
theorem Vd(f:Nat)(st:PS):(Jo f st).2.2.length≤st.2.length:=
 Nat.le_trans (Ce _ _) (Nat.le_trans ((Ot f).1 1 _) (Ce _ _))
theorem nm_len(f:Nat)(st:PS):(nmT f st).2.2.length≤st.2.length:=by
 have c:=Ka st;unfold nmT;split
 ·have a:=(Ot f).2.2.2.2.1 (Bg (Bl st).2)
  have b:=Ea (Bl st).2;dsimp only;omega
 ·split
  ·have a:=(Ot f).1 1 (Ap [61] (Ap [93] (xT f 1 (Bg (Bl st).2)).2))
   have b:=Ce [61] (Ap [93] (xT f 1 (Bg (Bl st).2)).2);have d:=Ce [93] (xT f 1 (Bg (Bl st).2)).2;have e:=(Ot f).1 1 (Bg (Bl st).2);have g:=Ea (Bl st).2;dsimp only;omega
  ·have a:=(Ot f).1 1 (Ap [61] (Bl st).2)
   have b:=Ce [61] (Bl st).2;dsimp only;omega
theorem si_len(f:Nat)(st:PS):(siT f st).2.2.length≤st.2.length:=by
 have a:=Ea st;have b:=(Ot f).1 1 (Bg st);have c:=Vd f (Bg st);have d:=nm_len f st;unfold siT
 repeat' split
 all_goals((try dsimp only);omega)
theorem s_len:∀f:Nat,(∀st,(stT f st).2.2.length≤st.2.length)∧(∀a st,(ssT f a st).2.2.length≤st.2.length)
 |0=>⟨fun _=>Zg _,fun _ _=>Zg _⟩
 |f+1=>by
  obtain⟨g,b⟩:=s_len f;refine⟨fun st=>?_,fun a st=>?_⟩
  ·rw[stT]
   have c:=Ea st;have d:=Vd f (Bg st);have e:=Ce [123] (Jo f (Bg st)).2;have h:=b [] (Ap [123] (Jo f (Bg st)).2);have i:=Ea (ssT f [] (Ap [123] (Jo f (Bg st)).2)).2;have j:=Ce [123] (Bg (ssT f [] (Ap [123] (Jo f (Bg st)).2)).2);have k:=b [] (Ap [123] (Bg (ssT f [] (Ap [123] (Jo f (Bg st)).2)).2));have l:=si_len f st;have m:=Ce [59] (siT f st).2
   repeat' split
   all_goals((try dsimp only);omega)
  ·rw[ssT]
   have c:=Ea st;have d:=g st;have e:=b (a++[(stT f st).1]) (stT f st).2
   repeat' split
   all_goals((try dsimp only);try omega)
theorem vE(f:Nat)(a:List St)(st:PS):(ssT f a st).2.2.length≤st.2.length:=(s_len f).2 a st
theorem rs_step(f:Nat)(br:RssC f):RstC (f+1):=by
 intro st w p W cap L bt aI;have ai:=Za aI.lt;obtain⟨aR,aK⟩:∃aR,stT (f+1) st=aR:=⟨_,rfl⟩;rw[aK];rw[stT]at aK;obtain⟨V,ae,ac,bC,aw,av,aD,aG⟩:=Y8 aK bt (fun s N h (H:Rs h p W cap L N)=>Rp p W cap L s N h H) (fun s N h (H:Rs h p W cap L N)=>Nj p W cap L s N h H) (fun st h (c:14*st.2.length+10≤f) (H:Rs h p W cap L st)=>xW f st h p W cap L c H) (fun st h (c:14*st.2.length+15≤f) (H:Rs h p W cap L st)=>rblk_of f br st h p W cap L c H) (fun st h (c:14*st.2.length+10≤f) (H:Rs h p W cap L st)=>bY f st h p W cap L c H) (fun st h (c:14*st.2.length+12≤f) (H:Rs h p W cap L st)=>rpNamed f st h p W cap L c H);obtain⟨bP,bJ,bM,bN,bO⟩:=info_parts Mo;have aS:Yj w.heap.size w ((w.alloc (ϑ)).alloc (ϑ)):=(bA).alloc (by simp) _;have ah:Yh (SI w p W cap L st nilS (ν) (ν) (ν) ((w.alloc (ϑ)).alloc (ϑ))):=by
  refine⟨Zh aS,aI.old aS,(Ze w θ 50).alloc _,?_,Ag.zero,Zl,Zl,aI.lt⟩;have:=Ze (w.alloc (ϑ)) θ 50;rw[show(w.alloc (ϑ)).heap.size=w.heap.size+1 by simp]at this;exact this
 clear aK bt br aI aS;go_enter func167,ntmps167
 go_upto_block 0 with(fail);generalize (w.alloc (ϑ)).alloc (ϑ)=bH at*;go_cut [] (fun bR=> ∃a t u,SI w p W cap L (siT f st).2 (siT f st).1 a t u bR∧((siT f st).1,Ap [59] (siT f st).2)=aR)
 case first=>
  go_wp2_with fail;refine Zb (ac.o [105,102] st bH ah.o.rs) ?_;rintro e h ⟨rfl,c,b⟩
  cases hq:Cp [105,102] st with
  |true=>
   rw[hq,if_pos rfl]at b;have i:=V.o;rw[if_pos hq]at i;have U:=Za (ah.o.call c b);have aa:=Dw hq;obtain⟨⟨x,N⟩,M⟩:∃Q,Jo f (Bg st)=Q:=⟨_,rfl⟩;have aq:=Vd f (Bg st);have g:=aw.o (Bg st);rw[M]at i g aq;dsimp only at i g aq;have g:=Za (fun h H=>g h (by have:=ae.o;omega) H);have aW:=Ce [123] N;obtain⟨⟨Z,au⟩,ar⟩:∃Q,ssT f [] (Ap [123] N)=Q:=⟨_,rfl⟩;have X:=av.o N;rw[ar]at i X;dsimp only at i X;have X:=Za (fun h H=>X h (by have:=ae.o;omega) H);have aY:=vE f [] (Ap [123] N);rw[ar]at aY;dsimp only at aY;have bI:=Ea au;have aj:=av.o (Bg au);obtain⟨⟨aH,ca⟩,bq⟩:∃Q,ssT f [] (Ap [123] (Bg au))=Q:=⟨_,rfl⟩;rw[bq]at i aj;dsimp only at i aj;have aj:=Za (fun h H=>aj h (by have:=ae.o;omega) H);clear aY bI bq;have ak:=Za i;clear c b hq aa M aq aW ar i V aG aD;have J:=Za (U.o.kind 3);obtain⟨⟨q,r,y,z,A⟩,B,C,D,E,F⟩:=Ai (show Ad _ _ θ _ from U.o.x);have G:=U.o.x.lt;go_wp2_with fail;clear q r y z A B C D E F G;refine Zb (g.o _ J.o.rs) ?_;rintro e bk ⟨c,b,v,rfl,l⟩;dsimp only at b l;obtain⟨j,k,rfl⟩:∃j k,v=.slice j 1 k:=l.shape;have m:=J.o.x.sfr c (by have:=ai.o;omega);have ad:=Za (J.o.args c b l);obtain⟨⟨q,r,y,z,A⟩,B,C,D,E,F⟩:=Ai (show Ad _ _ [ι 3,ε,ν,ν,ν] _ from m)
   have G:=m.lt;clear c b l m g J U ah;go_wp2_with fail;clear q r y z A B C D E F G;refine Zb (X.o _ ad.o.rs) ?_;rintro e aC ⟨c,b,v,rfl,l⟩;dsimp only at b l;obtain⟨S,T,rfl⟩:=l.shape;have m:=ad.o.x.sfr c (by have:=ai.o;omega);have ab:=Za (ad.o.thn c b l);obtain⟨⟨q,r,y,z,A⟩,B,C,D,E,F⟩:=Ai (show Ad _ _ [ι 3,ε,.slice j 1 k,ν,ν] _ from m);have G:=m.lt;clear c b l m X ad;go_wp2_with fail;clear q r y z A B C D E F G;generalize aC.setCell ⟨w.heap.size+1,3,none⟩ (ρ S Z T)=aO at*;refine Zb (ac.o [101,108,115,101] au aO ab.o.rs) ?_;rintro e bv ⟨rfl,c,b⟩
   cases hs:Cp [101,108,115,101] au with
   |true=>
    rw[hs,if_pos rfl]at b;have i:=ak.o;rw[if_pos hs]at i;subst i;have I:=Za (ab.o.call c b);clear c b hs ak ab;go_wp2_with fail;refine Zb (aj.o _ I.o.rs) ?_;rintro e bw ⟨c,b,v,rfl,l⟩;dsimp only at b l;obtain⟨u1,u2,rfl⟩:=l.shape;have m:=I.o.x.sfr c (by have:=ai.o;omega);have O:=Za (I.o.els c b l);obtain⟨⟨q,r,y,z,A⟩,B,C,D,E,F⟩:=Ai (show Ad _ _ [ι 3,ε,.slice j 1 k,ρ S Z T,ν] _ from m);have G:=m.lt;clear c b l m aj I;go_upto_region 10 with(fail);clear q r y z A B C D E F G;generalize bw.setCell ⟨w.heap.size+1,4,none⟩ (ρ u1 aH u2)=cb at*;obtain⟨⟨q,r,y,z,A⟩,B,C,D,E,F⟩:=Ai (show Ad _ _ [ι 3,ε,.slice j 1 k,ρ S Z T,ρ u1 aH u2] _ from O.o.x);have G:=O.o.x.lt;obtain⟨⟨aZ,ba,bb,bc,bd⟩,be,bf,bg,bh,bi⟩:=Ai O.o.own;have bj:=O.o.own.lt;go_wp2_with fail;obtain⟨⟨al,am,an,ao,ap⟩,_⟩:=Ai (Ho O.o.own (ι 3) (ε) (.slice j 1 k) (ρ S Z T) (ρ u1 aH u2));exact Yk (v:=.agg #[ι 3,ε,.slice j 1 k,ρ S Z T,ρ u1 aH u2]) (by simp [results,results167,go_sem,al,am,an,ao,ap]) rfl (O.o.fin _ _ _ _ _)
   |false=>
    rw[hs,if_neg (by decide)]at b;have i:=ak.o;rw[if_neg (by rw[hs];decide)]at i;subst i;have O:=Za (ab.o.call c b);clear c b hs ak ab aj;go_upto_region 10 with(fail);obtain⟨⟨q,r,y,z,A⟩,B,C,D,E,F⟩:=Ai (show Ad _ _ [ι 3,ε,.slice j 1 k,ρ S Z T,ν] _ from O.o.x);have G:=O.o.x.lt;obtain⟨⟨aZ,ba,bb,bc,bd⟩,be,bf,bg,bh,bi⟩:=Ai O.o.own;have bj:=O.o.own.lt;go_wp2_with fail;obtain⟨⟨al,am,an,ao,ap⟩,_⟩:=Ai (Ho O.o.own (ι 3) (ε) (.slice j 1 k) (ρ S Z T) (ν));exact Yk (v:=.agg #[ι 3,ε,.slice j 1 k,ρ S Z T,ν]) (by simp [results,results167,go_sem,al,am,an,ao,ap]) rfl (O.o.fin _ _ _ _ _)
  |false=>
   rw[hq,if_neg (by decide)]at b;have i:=V.o;rw[if_neg (by rw[hq];decide)]at i;obtain⟨V,U⟩:=Y2 i (ah.o.call c b);clear c b hq i ah;go_wp2_with fail;refine Zb (ac.o [119,104,105,108,101] st h U.o.rs) ?_;rintro e w2 ⟨rfl,c,b⟩
   cases hq:Cp [119,104,105,108,101] st with
   |true=>
    rw[hq,if_pos rfl]at b;have i:=V.o;rw[if_pos hq]at i;have ah:=U;have U:=Za (U.o.call c b);have aa:=Dw hq;obtain⟨⟨x,N⟩,M⟩:∃Q,Jo f (Bg st)=Q:=⟨_,rfl⟩;have aq:=Vd f (Bg st);have g:=aw.o (Bg st);rw[M]at i g aq;dsimp only at i g aq;have g:=Za (fun h H=>g h (by have:=ae.o;omega) H);have aW:=Ce [123] N;obtain⟨⟨Z,au⟩,ar⟩:∃Q,ssT f [] (Ap [123] N)=Q:=⟨_,rfl⟩;have X:=av.o N;rw[ar]at i X;dsimp only at i X;obtain⟨X,ak⟩:=Y2 (fun h H=>X h (by have:=ae.o;omega) H) i;clear c b hq aa M aq aW ar i V aG aD;have J:=Za (U.o.kind 4);obtain⟨⟨q,r,y,z,A⟩,B,C,D,E,F⟩:=Ai (show Ad _ _ θ _ from U.o.x);have G:=U.o.x.lt;go_wp2_with fail;clear q r y z A B C D E F G;refine Zb (g.o _ J.o.rs) ?_;rintro e bk ⟨c,b,v,rfl,l⟩;dsimp only at b l;obtain⟨j,k,rfl⟩:∃j k,v=.slice j 1 k:=l.shape;have m:=J.o.x.sfr c (by have:=ai.o;omega);have ad:=Za (J.o.args c b l);obtain⟨⟨q,r,y,z,A⟩,B,C,D,E,F⟩:=Ai (show Ad _ _ [ι 4,ε,ν,ν,ν] _ from m);have G:=m.lt;clear c b l m g J U ah;go_wp2_with fail;clear q r y z A B C D E F G;refine Zb (X.o _ ad.o.rs) ?_;rintro e aC ⟨c,b,v,rfl,l⟩
    dsimp only at b l;obtain⟨S,T,rfl⟩:=l.shape;have m:=ad.o.x.sfr c (by have:=ai.o;omega);have ab:=Za (ad.o.thn c b l);obtain⟨⟨q,r,y,z,A⟩,B,C,D,E,F⟩:=Ai (show Ad _ _ [ι 4,ε,.slice j 1 k,ν,ν] _ from m);have G:=m.lt;clear c b l m X ad;have i:=ak.o;subst i;clear ak;go_upto_region 15 with(fail);clear q r y z A B C D E F G;generalize aC.setCell ⟨w.heap.size+1,3,none⟩ (ρ S Z T)=aO at*;obtain⟨⟨q,r,y,z,A⟩,B,C,D,E,F⟩:=Ai (show Ad _ _ [ι 4,ε,.slice j 1 k,ρ S Z T,ν] _ from ab.o.x);have G:=ab.o.x.lt;obtain⟨⟨aZ,ba,bb,bc,bd⟩,be,bf,bg,bh,bi⟩:=Ai ab.o.own;have bj:=ab.o.own.lt;go_wp2_with fail;obtain⟨⟨al,am,an,ao,ap⟩,_⟩:=Ai (Ho ab.o.own (ι 4) (ε) (.slice j 1 k) (ρ S Z T) (ν));exact Yk (v:=.agg #[ι 4,ε,.slice j 1 k,ρ S Z T,ν]) (by simp [results,results167,go_sem,al,am,an,ao,ap]) rfl (ab.o.fin _ _ _ _ _)
   |false=>
    rw[hq,if_neg (by decide)]at b;have i:=V.o;rw[if_neg (by rw[hq];decide)]at i;obtain⟨V,J⟩:=Y2 i (U.o.call c b);have Y:Yh (siT f st=siT f st):=rfl;have K:Yh (siT f st=_):=(by unfold siT;rfl);clear c b hq i U av Y;go_wp2_with fail;refine Zb (ac.o [98,114,101,97,107] st w2 J.o.rs) ?_;rintro e bk ⟨rfl,c,b⟩
    cases hq:Cp [98,114,101,97,107] st with
    |true=>
     rw[hq,if_pos rfl]at b;have d:=K.o;rw[if_pos hq]at d;have aa:=Dw hq;obtain⟨I,Y⟩:=Y2 (J.o.call c b) d;clear c b hq d aa J K;have R:=Za (I.o.kind 5);obtain⟨⟨q,r,y,z,A⟩,B,C,D,E,F⟩:=Ai (show Ad _ _ θ _ from I.o.x);have G:=I.o.x.lt;go_wp2;go_meet;exact⟨_,_,_,by rw[Y.o];exact R.o,V.o⟩
    |false=>
     rw[hq,if_neg (by decide)]at b;have d:=K.o;rw[if_neg (by rw[hq];decide)]at d;obtain⟨K,ax⟩:=Y2 d (J.o.call c b);clear c b hq d J;go_wp2_with fail;refine Zb (ac.o [99,111,110,116,105,110,117,101] st bk ax.o.rs) ?_;rintro e aC ⟨rfl,c,b⟩
     cases hq:Cp [99,111,110,116,105,110,117,101] st with
     |true=>
      rw[hq,if_pos rfl]at b;have d:=K.o;rw[if_pos hq]at d;have aa:=Dw hq;obtain⟨I,Y⟩:=Y2 (ax.o.call c b) d;clear c b hq d aa ax K;have R:=Za (I.o.kind 6);obtain⟨⟨q,r,y,z,A⟩,B,C,D,E,F⟩:=Ai (show Ad _ _ θ _ from I.o.x);have G:=I.o.x.lt;go_wp2;go_meet;exact⟨_,_,_,by rw[Y.o];exact R.o,V.o⟩
     |false=>
      rw[hq,if_neg (by decide)]at b;have d:=K.o;rw[if_neg (by rw[hq];decide)]at d;obtain⟨K,ay⟩:=Y2 d (ax.o.call c b);clear c b hq d ax;go_wp2_with fail;refine Zb (ac.o [114,101,116,117,114,110] st aC ay.o.rs) ?_;rintro e aO ⟨rfl,c,b⟩
      cases hq:Cp [114,101,116,117,114,110] st with
      |true=>
       rw[hq,if_pos rfl]at b;have d:=K.o;rw[if_pos hq]at d;have aa:=Dw hq;have I:=Za (ay.o.call c b);have g:=aD.o (Bg st);obtain⟨⟨x,N⟩,M⟩:∃Q,xT f 1 (Bg st)=Q:=⟨_,rfl⟩;rw[M]at d g;(try dsimp only at d);(try dsimp only at g)
       obtain⟨g,Y⟩:=Y2 (fun h H=>g h (by have:=ae.o;omega) H) d;clear c b hq d aa M ay K;have R:=Za (I.o.kind 7);obtain⟨⟨q,r,y,z,A⟩,B,C,D,E,F⟩:=Ai (show Ad _ _ θ _ from I.o.x);have G:=I.o.x.lt;go_wp2_with fail;clear q r y z A B C D E F G;refine Zb (g.o _ R.o.rs) ?_;rintro e af ⟨c,b,xs,rfl,hx,aX⟩;dsimp only at b hx aX;obtain⟨j,k,rfl⟩:=hx.shape;obtain⟨bn,bm,ag⟩:=Y3 (R.o.ni.fresh (l2:=[]) hx) (R.o.ni.call c b) aX;clear c b hx aX I R g;go_upto_region 23 with(fail);have aT:Yj af.heap.size af (af.alloc (.cells #[ι x.kind,ι x.op,ι x.n,σ x.name,ρ j x.args k] 35)):=bA;obtain⟨aP,bF,bl⟩:=Y3 (bm.o.old aT) (bn.o.old aT) (Ze af (χ x (ρ j x.args k)) 35);clear aT bm bn;generalize af.alloc (.cells #[ι x.kind,ι x.op,ι x.n,σ x.name,ρ j x.args k] 35)=aB at*;generalize af.heap.size=bS at*;obtain⟨⟨q,r,y,z,A⟩,B,C,D,E,F⟩:=Ai (show Ad _ _ [ι 7,ε,ν,ν,ν] _ from aP.o.x);have G:=aP.o.x.lt;obtain⟨⟨bT,bU,bV,bW,bX⟩,_⟩:=Ai bl.o
       have bZ:=bl.o.lt;have aU:Yj aB.heap.size aB (aB.alloc (.cells #[ι x.kind,ι x.op,ι x.n,σ x.name,ρ j x.args k] 35)):=bA;obtain⟨aF,bG,bE⟩:=Y3 (aP.o.old aU) (bF.o.old aU) (Dv.new aB (Ba x (ρ j x.args k)) 35);clear aU;go_wp2_with (at_builtin;(refine Ym (P:=Zd) _ rfl _ _ 33 rfl (w.heap.size+1+1) 35 bP _ 5 64 Zz bJ bM bN bO rfl (by decide) (ν) 0 (Dl []) rfl (by exact aF.o.row.1) ⟨aB.heap.size,0,none⟩ 1 1 (Ba x (ρ j x.args k)) rfl rfl (Fr bE.o) (Lw x) (by decide) (by decide) (by decide) (by have:=aF.o.x.lt;omega) _ rfl ?_;intro bp bo bQ bu aV bs bK;obtain⟨bz,bB,bx⟩:=Y3 bu aV bs;have aQ:=aF.o.grow aV;clear q r y z A B C D E F G bu aV bs bK;obtain⟨⟨q,r,y,z,A⟩,B,C,D,E,F⟩:=Ai (show Ad _ _ [ι 7,ε,ν,ν,ν] _ from aQ.2.2.2);have G:=aQ.2.2.2.lt;clear aQ));have bD:Yh (NI w p W cap (w.heap.size+1) L _ _ [] [(x,ρ j x.args k)] (κ bp 1 bo) (bQ.setCell ⟨w.heap.size+1,2,none⟩ (κ bp 1 bo))):=aF.o.app bG.o ag.o bz.o bB.o bx.o;go_meet;exact⟨_,_,_,by rw[Y.o];exact bD.o.si (by simp),V.o⟩
      |false=>
       rw[hq,if_neg (by decide)]at b;have d:=K.o;rw[if_neg (by rw[hq];decide)]at d;obtain⟨K,az⟩:=Y2 d (ay.o.call c b);clear c b hq d ay;go_wp2_with fail;refine Zb (ac.o [112,114,105,110,116] st aO az.o.rs) ?_;rintro e bv ⟨rfl,c,b⟩
       cases hq:Cp [112,114,105,110,116] st with
       |true=>
        rw[hq,if_pos rfl]at b;have d:=K.o;rw[if_pos hq]at d;have aa:=Dw hq;have I:=Za (az.o.call c b);have g:=aw.o (Bg st);obtain⟨⟨x,N⟩,M⟩:∃Q,Jo f (Bg st)=Q:=⟨_,rfl⟩;rw[M]at d g;(try dsimp only at d);(try dsimp only at g)
        obtain⟨g,Y⟩:=Y2 (fun h H=>g h (by have:=ae.o;omega) H) d;clear c b hq d aa M az K;have R:=Za (I.o.kind 8);obtain⟨⟨q,r,y,z,A⟩,B,C,D,E,F⟩:=Ai (show Ad _ _ θ _ from I.o.x);have G:=I.o.x.lt;go_wp2_with fail;clear q r y z A B C D E F G;refine Zb (g.o _ R.o.rs) ?_;rintro e af ⟨c,b,v,rfl,l⟩;dsimp only at b l;obtain⟨j,k,rfl⟩:∃j k,v=.slice j 1 k:=l.shape;have m:=R.o.x.sfr c (by have:=ai.o;omega);have O:=Za (R.o.args c b l);obtain⟨⟨q,r,y,z,A⟩,B,C,D,E,F⟩:=Ai (show Ad _ _ [ι 8,ε,ν,ν,ν] _ from m);have G:=m.lt;clear c b l m g I R;go_wp2;go_meet;exact⟨_,_,_,by rw[Y.o];exact O.o,V.o⟩
       |false=>
        rw[hq,if_neg (by decide)]at b;have d:=K.o;rw[if_neg (by rw[hq];decide)]at d;obtain⟨K,aA⟩:=Y2 d (az.o.call c b);clear c b hq d az;go_wp2_with fail;refine Zb (ac.o [116,114,97,112] st bv aA.o.rs) ?_;rintro e bw ⟨rfl,c,b⟩
        cases hq:Cp [116,114,97,112] st with
        |true=>
         rw[hq,if_pos rfl]at b;have d:=K.o;rw[if_pos hq]at d;have aa:=Dw hq;have I:=Za (aA.o.call c b);have g:=aw.o (Bg st);obtain⟨⟨x,N⟩,M⟩:∃Q,Jo f (Bg st)=Q:=⟨_,rfl⟩;rw[M]at d g;(try dsimp only at d);(try dsimp only at g)
         obtain⟨g,Y⟩:=Y2 (fun h H=>g h (by have:=ae.o;omega) H) d;clear c b hq d aa M aA K;have R:=Za (I.o.kind 9);obtain⟨⟨q,r,y,z,A⟩,B,C,D,E,F⟩:=Ai (show Ad _ _ θ _ from I.o.x);have G:=I.o.x.lt;go_wp2_with fail;clear q r y z A B C D E F G;refine Zb (g.o _ R.o.rs) ?_;rintro e af ⟨c,b,v,rfl,l⟩;dsimp only at b l;obtain⟨j,k,rfl⟩:∃j k,v=.slice j 1 k:=l.shape;have m:=R.o.x.sfr c (by have:=ai.o;omega);have O:=Za (R.o.args c b l);obtain⟨⟨q,r,y,z,A⟩,B,C,D,E,F⟩:=Ai (show Ad _ _ [ι 9,ε,ν,ν,ν] _ from m);have G:=m.lt;clear c b l m g I R;go_wp2;go_meet;exact⟨_,_,_,by rw[Y.o];exact O.o,V.o⟩
        |false=>
         rw[hq,if_neg (by decide)]at b;have d:=K.o;rw[if_neg (by rw[hq];decide)]at d;obtain⟨K,aE⟩:=Y2 d (aA.o.call c b);clear c b hq d aA;go_wp2_with fail;have g:=aG.o st;obtain⟨⟨x,N⟩,M⟩:∃Q,nmT f st=Q:=⟨_,rfl⟩;have d:=K.o;rw[M]at d g;(try dsimp only at d);(try dsimp only at g)
         obtain⟨g,Y⟩:=Y2 (fun h H=>g h (by have:=ae.o;omega) H) d;clear d M K;refine Zb (g.o _ aE.o.rs) ?_;rintro e af ⟨c,b,a,t,u,rfl,aL,aM,aN⟩;dsimp only at b aL aM aN;obtain⟨j,k,rfl⟩:=aL.shape;obtain⟨S,T,rfl⟩:=aM.shape;obtain⟨u1,u2,rfl⟩:=aN.shape;have m:=aE.o.x.sfr c (by have:=ai.o;omega);have O:=Za (aE.o.whole c b aL aM aN);obtain⟨⟨q,r,y,z,A⟩,B,C,D,E,F⟩:=Ai (show Ad _ _ θ _ from m);have G:=m.lt;clear c b aL aM aN m g aE;go_wp2;go_meet;exact⟨_,_,_,by rw[Y.o];exact O.o,V.o⟩
 case rest=>
 obtain⟨a,t,u,aJ,i⟩:=hcut;obtain⟨⟨x,N⟩,M⟩:∃Q,siT f st=Q:=⟨_,rfl⟩;rw[M]at aJ i;dsimp only at aJ i;subst i;have ag:=Za aJ;obtain⟨h,bL⟩:∃h,wc=h:=⟨_,rfl⟩;subst bL;clear aJ M V ah aw av aD aG ac;go_wp2_with fail;refine Zb (bC.o [59] N wc ag.o.rs) ?_;rintro e w2 ⟨rfl,c,b⟩;have J:=Za (ag.o.call c b);obtain⟨j,k,rfl⟩:=ag.o.ha.shape;obtain⟨S,T,rfl⟩:=ag.o.ht.shape;obtain⟨u1,u2,rfl⟩:=ag.o.hu.shape;clear c b ag;obtain⟨⟨q,r,y,z,A⟩,B,C,D,E,F⟩:=Ai J.o.x;have G:=J.o.x.lt;obtain⟨⟨aZ,ba,bb,bc,bd⟩,be,bf,bg,bh,bi⟩:=Ai J.o.own;have bj:=J.o.own.lt;go_wp2_with fail;obtain⟨⟨al,am,an,ao,ap⟩,_⟩:=Ai (Ho J.o.own (ι x.kind) (σ x.name) (ρ j x.args k) (ρ S x.thn T) (ρ u1 x.els u2));exact Yk (v:=.agg #[ι x.kind,σ x.name,ρ j x.args k,ρ S x.thn T,ρ u1 x.els u2]) (by simp [results,results167,go_sem,al,am,an,ao,ap]) rfl (J.o.fin _ _ _ _ _)
theorem rst_all(f:Nat):RstC f∧RssC f:=by
 induction f using Nat.strongRecOn with
 |_ f ih=>
  refine⟨?_,xI f (fun g a=>(ih g a).1)⟩
  cases f with
  |zero=>exact fun st w p c cap L b=>by omega
  |succ f=>exact rs_step f (ih f (by omega)).2
def FEnd(w:Yg)(p a cap:Nat)(L:List Tk)(q:Fu ×PS)(e:Ending)(w':Yg):Prop:=SFr p w w'∧Rs w' p a cap L q.2∧∃v,e=.returned v∧FuH w.heap.size q.1 v w'
structure FI (w:Yg)(p tb cap:Nat)(L:List Tk)(st:PS)(s:Bs)(ps:List Bs)(pv:Yi)(ls:List Bs)(lv:Yi)(wx:Yg):Prop where
 sfr:SFr p w wx
 rs:Rs wx p tb cap L st
 own:Ad wx w.heap.size [.string ⟨#[]⟩,.slice none 0 0,.slice none 0 0,.slice none 0 0] 48
 x:Ad wx (w.heap.size+1) [.string (Aa s),pv,lv,.slice none 0 0] 48
 hp:Jk wx (w.heap.size+2) ps pv
 hl:Jk wx (w.heap.size+2) ls lv
 dif:∀k,pv.ownBlock=some k→lv.ownBlock≠some k
 pw:p<w.heap.size
theorem FI.call {w:Yg}{p c cap:Nat}{L:List Tk}{st f:PS}{s:Bs}{e d:List Bs}{pv lv:Yi}{g w':Yg}(a:FI w p c cap L st s e pv d lv g)(b:SFr p g w')(h:Rs w' p c cap L f):FI w p c cap L f s e pv d lv w':=
 have i:=a.pw
 ⟨a.sfr.trans b,h,a.own.sfr b (by omega),a.x.sfr b (by omega),a.hp.sfr b (by omega),a.hl.sfr b (by omega),a.dif,a.pw⟩
theorem FI.old {w:Yg}{p f cap:Nat}{L:List Tk}{st:PS}{s:Bs}{e d:List Bs}{pv lv:Yi}{a w':Yg}(b:FI w p f cap L st s e pv d lv a)(c:Yj a.heap.size a w'):FI w p f cap L st s e pv d lv w':=b.call (Zh c) (b.rs.old c)
theorem FI.grow {w:Yg}{p d cap:Nat}{L:List Tk}{st:PS}{s:Bs}{i h:List Bs}{pv lv:Yi}{f w':Yg}(a:FI w p d cap L st s i pv h lv f){row:Option Nat}(c:∀k,row=some k→w.heap.size+2≤k)(b:f.grownBy w' row):SFr p w w'∧Rs w' p d cap L st∧Ad w' w.heap.size [.string ⟨#[]⟩,.slice none 0 0,.slice none 0 0,.slice none 0 0] 48∧Ad w' (w.heap.size+1) [.string (Aa s),pv,lv,.slice none 0 0] 48:=by
 have j:=a.pw;exact⟨a.sfr.grow b (fun k e=>by have:=c k e;omega),a.rs.low (fun k g=>b.block k (Zu g a.rs.lt) (fun e=>by have:=c k e.symm;omega)),
  a.own.low (b.block _ a.own.lt (fun e=>by have:=c _ e.symm;omega)),a.x.low (b.block _ a.x.lt (fun e=>by have:=c _ e.symm;omega))⟩
theorem Xb {w:Yg}{b g c:Nat}{a:List Bs}{x:Bs}(d:w.ownsRow b 9 1 (.slice (some ⟨g,0,none⟩) (a.length+1) c) (a.length+1) (a.flatMap Ed++Ed x)):Jk w b (a++[x]) (.slice (some ⟨g,0,none⟩) (a.length+1) c):=by
 unfold Jk Fh;rw[List.flatMap_append,Zp];simpa using d
theorem FI.appP {w:Yg}{p d cap:Nat}{L:List Tk}{st:PS}{s x:Bs}{a:List Bs}{pv:Yi}{f w':Yg}{g c:Nat}(b:FI w p d cap L st s a pv [] (.slice none 0 0) f)(n:w'.ownsRow (w.heap.size+2) 9 1 (.slice (some ⟨g,0,none⟩) (a.length+1) c) (a.length+1) (a.flatMap Ed++Ed x))(m:f.grownBy w' pv.ownBlock):
  FI w p d cap L st s (a++[x]) (.slice (some ⟨g,0,none⟩) (a.length+1) c) [] (.slice none 0 0) (w'.setCell ⟨w.heap.size+1,1,none⟩ (.slice (some ⟨g,0,none⟩) (a.length+1) c)):=by
 obtain⟨h,i,j,l⟩:=b.grow (fun k e=>(b.hp.lt k e).1) m;have o:=b.pw;exact⟨h.setNew (by omega) _ _,i.other (by omega) _ _,j.other (by omega) _ _,l.set 1 _,(Xb n).low (by omega) _ _,Fh.zero _ _ _ _ _,(fun k _ e=>(by cases e)),b.pw⟩
theorem FI.appL {w:Yg}{p m cap:Nat}{L:List Tk}{st:PS}{s x:Bs}{l b:List Bs}{pv lv:Yi}{f w':Yg}{g c:Nat}(a:FI w p m cap L st s l pv b lv f)(t:w'.ownsRow (w.heap.size+2) 9 1 (.slice (some ⟨g,0,none⟩) (b.length+1) c) (b.length+1) (b.flatMap Ed++Ed x))(h:f.grownBy w' lv.ownBlock)(d:lv.ownBlock=some g∨g=f.heap.size):
  FI w p m cap L st s l pv (b++[x]) (.slice (some ⟨g,0,none⟩) (b.length+1) c) (w'.setCell ⟨w.heap.size+1,2,none⟩ (.slice (some ⟨g,0,none⟩) (b.length+1) c)):=by
 obtain⟨n,o,q,r⟩:=a.grow (fun k e=>(a.hl.lt k e).1) h;have u:=a.pw;have j:∀k,pv.ownBlock=some k→lv.ownBlock≠some k:=a.dif;refine⟨n.setNew (by omega) _ _,o.other (by omega) _ _,q.other (by omega) _ _,r.set 2 _,(a.hp.grown h ?_).low (by omega) _ _,(Xb t).low (by omega) _ _,?_,a.pw⟩
 ·cases hp:pv.ownBlock with
  |none=>exact .inl rfl
  |some k=>exact .inr (fun e=>j k hp e.symm)
 ·intro k i e
  have e:some g=some k:=e;injection e with e
  subst e;rcases d with d|d
  ·exact j g i d
  ·have:=(a.hp.lt g i).2;omega
theorem FI.fin {w:Yg}{p l cap:Nat}{L:List Tk}{st v:PS}{s:Bs}{k j:List Bs}{pv lv:Yi}{f w':Yg}{n:List St}{u:Yi}(c:FI w p l cap L st s k pv j lv f)(g:SFr p f w')(D:Rs w' p l cap L v)(E:Au (f.heap.size≤ ·) w' n u)(z:k.length≤1000000)(A:j.length≤1000000)(o q r t:Yi):
  FEnd w p l cap L (⟨s,k,j,n⟩,v) (.returned (.agg #[.string (Aa s),pv,lv,u])) (((((w'.setCell ⟨w.heap.size+1,3,none⟩ u).setCell ⟨w.heap.size,0,none⟩ o).setCell ⟨w.heap.size,1,none⟩ q).setCell ⟨w.heap.size,2,none⟩ r).setCell ⟨w.heap.size,3,none⟩ t):=by
 have F:=c.pw;have G:=c.x.lt;have d:∀(e:Yg) (b i:Nat) (y:Yi),b<w.heap.size+2→Db (w.heap.size+2≤ ·) e (e.setCell ⟨b,i,none⟩ y):=fun e b i y a=>Av e a i y
 have h:=((((d w' (w.heap.size+1) 3 u (by omega)).trans (d _ w.heap.size 0 o (by omega))).trans (d _ w.heap.size 1 q (by omega))).trans (d _ w.heap.size 2 r (by omega))).trans (d _ w.heap.size 3 t (by omega));have m:∀b,w.heap.size+2≤b→w.heap.size≤b:=fun b a=>by omega
 have C:=((Jk.strs (c.hp.sfr g (by omega)) z).keep h).mono m;have B:=((Jk.strs (c.hl.sfr g (by omega)) A).keep h).mono m;have a:=((E.mono (D':=(w.heap.size+2≤ ·)) (fun b a=>by have a:f.heap.size≤b:=a;show _≤_;omega)).keep h).mono m;exact⟨((((((c.sfr.trans g).setNew (by omega) _ _).setNew (by omega) _ _).setNew (by omega) _ _).setNew (by omega) _ _).setNew (by omega) _ _),((((D.other (by omega) _ _).other (by omega) _ _).other (by omega) _ _).other (by omega) _ _).other (by omega) _ _,_,rfl,_,_,_,rfl,C,B,a⟩
theorem On {w:Yg}{b:Nat}{g:TypeId}{c d e f:Yi}(a:Ad w b [c,d,e,f] g):(w.cell? ⟨b,0,none⟩=some c∧w.cell? ⟨b,1,none⟩=some d∧w.cell? ⟨b,2,none⟩=some e∧w.cell? ⟨b,3,none⟩=some f)∧
  w.frozen? ⟨b,0,none⟩=false∧w.frozen? ⟨b,1,none⟩=false∧w.frozen? ⟨b,2,none⟩=false∧w.frozen? ⟨b,3,none⟩=false:=
 ⟨⟨a.at 0 _ rfl,a.at 1 _ rfl,a.at 2 _ rfl,a.at 3 _ rfl⟩,a.fz 0,a.fz 1,a.fz 2,a.fz 3⟩
theorem sC:∀(f:Nat) (a:List Bs) (st:PS),(paT f a st).2.2.length≤st.2.length
 |0,_,_=>Zg _
 |f+1,a,st=>by
  rw[paT];have b:=Ce [105,110,116] st;have c:=Ka (Ap [105,110,116] st);have d:=Ea (Bl (Ap [105,110,116] st)).2;have e:=sC f (a++[(Bl (Ap [105,110,116] st)).1]) (Bg (Bl (Ap [105,110,116] st)).2);have g:=Ce [41] (Bl (Ap [105,110,116] st)).2
  repeat' split
  all_goals((try dsimp only);omega)
theorem mS(f:Nat)(st:PS):(Mx f st).2.2.length≤st.2.length:=by
 unfold Mx;split
 ·exact Ea st
 ·exact sC _ _ _
theorem iI:∀(f:Nat) (a:List Bs) (st:PS),(loT f a st).2.2.length≤st.2.length
 |0,_,_=>Zg _
 |f+1,a,st=>by
  rw[loT];have b:=Ea st;have c:=Ka (Bg st);have d:=Ce [59] (Bl (Bg st)).2;have e:=iI f (a++[(Bl (Bg st)).1]) (Ap [59] (Bl (Bg st)).2);split
  ·omega
  ·exact Zg _
theorem lL(f:Nat)(s:Bs)(st:PS)(w:Yg)(p u cap:Nat)(L:List Tk)(ch:14*st.2.length+15≤f)(G:Rs w p u cap L st):
  Yl Zd 71 #[.pointer (some ⟨p,0,none⟩),.string (Aa s)] w (FEnd w p u cap L (fnT f s st)):=by
 have bu:=Za G.lt;have cg:st.2.length≤1000000:=by
  obtain⟨i,y,e⟩:=G;rw[e,Zf];have:=y.fit;omega
 obtain⟨aJ,aB,bt,bw⟩:=Y4 (fun s l A (n:Rs A p u cap L l)=>Rp p u cap L s l A n) (fun s l A (n:Rs A p u cap L l)=>Nj p u cap L s l A n) (fun l A (n:Rs A p u cap L l)=>cB p u cap L l A n) (fun l A (c:14*l.2.length+15≤f) (n:Rs A p u cap L l)=>(rst_all f).2 l A p u cap L c n);obtain⟨bQ,bB,bN,bO,bP⟩:=info_parts sB;have bx:fnT f s st=(⟨s,(Mx f (Ap [40] st)).1,(loT f [] (Ap [123] (Mx f (Ap [40] st)).2)).1,(ssT f [] (loT f [] (Ap [123] (Mx f (Ap [40] st)).2)).2).1⟩,(ssT f [] (loT f [] (Ap [123] (Mx f (Ap [40] st)).2)).2).2):=rfl;rw[bx];have bF:=Ce [40] st;obtain⟨l,bL⟩:∃q,Ap [40] st=q:=⟨_,rfl⟩;have az:=aB.o [40] st;rw[bL]at bF az ⊢;have ak:=mS f l;obtain⟨I,aZ⟩:∃q,Mx f l=q:=⟨_,rfl⟩;rw[aZ]at ak ⊢;have bG:=Ce [123] I.2;have aA:=aB.o [123] I.2;obtain⟨U,bM⟩:∃q,Ap [123] I.2=q:=⟨_,rfl⟩;rw[bM]at bG aA ⊢;have bD:=iI f [] U;obtain⟨Q,ba⟩:∃q,loT f [] U=q:=⟨_,rfl⟩;rw[ba]at bD ⊢;have av:=bw.o Q.2;obtain⟨⟨aW,cC⟩,bz⟩:∃q,ssT f [] Q.2=q:=⟨_,rfl⟩;rw[bz]at av ⊢;dsimp only;obtain⟨av,az,aA⟩:=Y3 (fun A n=>av A (by omega) n) az aA;have br:Yh (14*l.2.length+15≤f∧l.2.length≤1000000):=(⟨by omega,by omega⟩:14*l.2.length+15≤f∧l.2.length≤1000000);have bs:Yh (14*U.2.length+15≤f∧U.2.length≤1000000):=(⟨by omega,by omega⟩:14*U.2.length+15≤f∧U.2.length≤1000000)
 obtain⟨bv,bW⟩:=Y2 aZ ba;have bb:Yj w.heap.size w ((w.alloc (.cells #[ε,ν,ν,ν] 48)).alloc (.cells #[.string (Aa s),ν,ν,ν] 48)):=(bA).alloc (by simp) _;have aR:Yh (FI w p u cap L st s [] (ν) [] (ν) ((w.alloc (.cells #[ε,ν,ν,ν] 48)).alloc (.cells #[.string (Aa s),ν,ν,ν] 48))):=by
  refine⟨Zh bb,G.old bb,(Ze w [ε,ν,ν,ν] 48).alloc _,?_,Fh.zero _ _ _ _ _,Fh.zero _ _ _ _ _,(fun k e=>(by cases e)),G.lt⟩;have:=Ze (w.alloc (.cells #[ε,ν,ν,ν] 48)) [.string (Aa s),ν,ν,ν] 48;rw[show(w.alloc (.cells #[ε,ν,ν,ν] 48)).heap.size=w.heap.size+1 by simp]at this;exact this
 clear bx bL bM aZ ba bz bF bG ak bD cg ch G bb bw;go_enter func71,ntmps71;go_upto_region 2 with(fail);generalize (w.alloc (.cells #[ε,ν,ν,ν] 48)).alloc (.cells #[.string (Aa s),ν,ν,ν] 48)=cn at*;go_wp2_with fail;refine Zb (az.o _ aR.o.rs) ?_;rintro e A ⟨rfl,c,a⟩;have aK:=Za (aR.o.call c a);clear c a aR az;go_wp2_with fail;refine Zb (aJ.o [41] l A aK.o.rs) ?_;rintro e w2 ⟨rfl,c,a⟩;have aS:Yh (∃(j:PS) (g:Nat),(if Cp [41] l=true then(([]:List Bs),j)else paT g [] j)=I∧j.2.length+1≤g∧j.2.length≤1000000∧FI w p u cap L j s [] (ν) [] (ν) w2):=by
  have n:=bv.o;unfold Mx at n;have R:=br.o
  cases h41:Cp [41] l with
  |true=>
   rw[h41,if_pos rfl]at a;rw[h41,if_pos rfl]at n;have:=Ea l;exact⟨Bg l,f,by rw[if_pos rfl];exact n,by omega,by omega,aK.o.call c a⟩
  |false=>
   rw[h41,if_neg (by decide)]at a;rw[h41,if_neg (by decide)]at n;exact⟨l,f,by rw[if_neg (by decide)];exact n,by omega,by omega,aK.o.call c a⟩
 clear c a aK bv br;generalize Cp [41] l=cd at*
 go_upto_block 0 with(fail);go_cut [] (fun H=> ∃(J:Option Addr) (K:Nat),FI w p u cap L I.2 s I.1 (.slice J I.1.length K) [] (ν) H∧I.1.length≤1000000)
 case first=>
  go_wp2
  go_loopw [6,7,8] (fun e _ _ H=> ∃(b:Bool) (m:List Bs) (J:Option Addr) (K:Nat) (j:PS) (g:Nat),e=.bool b∧(if b=true then(m,j)else paT g m j)=I∧j.2.length+1≤g∧(m.length≤1000000∧(b=false→m.length+j.2.length≤1000000))∧FI w p u cap L j s m (.slice J m.length K) [] (ν) H) (fun e _ _ H=>match e with|.bool true=>0|_=>Ju p L H+1)
  case atStart=>
   obtain⟨j,g,n,R,aX,aY⟩:=aS.o;exact⟨cd,[],none,0,j,g,rfl,n,R,⟨Zk _,fun _=>by simpa using aX⟩,aY⟩
  case round=>
   obtain⟨b,m,J,K,j,g,rfl,d,bc,⟨bg,T⟩,z⟩:=hrel;have h:=Za z;clear z aS
   cases b with
   |true=>
    rw[if_pos rfl]at d;subst d;go_wp2;go_meet;exact⟨_,_,h.o,bg⟩
   |false=>
    have bh:=T rfl;obtain⟨g,rfl⟩:∃k,g=k+1:=⟨g-1,by omega⟩;rw[if_neg (by decide),paT]at d;have aL:=Za (Jt h.o.rs);clear T;obtain⟨aM,C⟩:=j
    cases aM with
    |true=>
     rw[if_pos rfl]at d;subst d;obtain⟨i,y,S⟩:=h.o.rs;have aN:wr.cell? ⟨p,2,none⟩=some (.bool true):=y.own.at 2 _ rfl;have ak:=y.own.lt;clear y S;go_wp2;go_meet;exact⟨_,_,h.o,bg⟩
    |false=>
     rw[if_neg (show ¬(false=true)by decide)]at d;have bH:C≠[]:=by
      obtain⟨i,y,e⟩:=h.o.rs;have e:C=L.drop i:=e;obtain⟨t,cp,ce⟩:=y.ends.ne;rw[e,ce];simp
     have bV:=Za bH;have bd:=Ce [105,110,116] (false,C);have au:=aB.o [105,110,116] (false,C) wr h.o.rs;obtain⟨N,T⟩:∃q,Ap [105,110,116] (false,C)=q:=⟨_,rfl⟩;rw[T]at d bd au;have aj:=Ka N;have D:=bt.o N;obtain⟨⟨x,E⟩,aH⟩:∃q,Bl N=q:=⟨_,rfl⟩;rw[aH]at d aj D;(try dsimp only at d);(try dsimp only at bd);(try dsimp only at aj);(try dsimp only at bc);(try dsimp only at bh)
     obtain⟨al,au,D⟩:=Y3 d au D;have af:Yh (E.2.length≤C.length):=(by omega:E.2.length≤C.length);obtain⟨i,y,S⟩:=h.o.rs;have aN:wr.cell? ⟨p,2,none⟩=some (.bool false):=y.own.at 2 _ rfl;have ak:=y.own.lt;clear y S d T aH bd aj bH;go_wp2_with fail;refine Zb au.o ?_;rintro e bm ⟨rfl,c,a⟩;have ae:=Za (h.o.call c a);clear c a aN ak h au;go_wp2_with fail;refine Zb (D.o bm ae.o.rs) ?_;rintro e ap ⟨rfl,c,a⟩;have M:=Za (ae.o.call c a);clear c a ae D;have ci:m.length≤1000000:=bg;go_upto_region 7 with(fail);have aE:Yj ap.heap.size ap (ap.alloc (.cells #[.string (Aa x)] 9)):=bA;obtain⟨B,aC⟩:=Y2 (M.o.old aE) (Ze ap [.string (Aa x)] 9);obtain⟨⟨V,W,X,Y⟩,Z,aa,ab,ac⟩:=On M.o.x;have ad:=M.o.x.lt;clear aE;go_wp2_with (at_builtin;(refine Ym (P:=Zd) _ rfl _ _ 38 rfl (w.heap.size+2) 9 bQ _ 1 16 underlying38 bB bN bO bP rfl (by decide) (.slice J m.length K) m.length (m.flatMap Ed) rfl (by exact B.o.hp) ⟨ap.heap.size,0,none⟩ 1 1 (Ed x) rfl rfl (aC.o.newsY) (kD x) (by decide) (by unfold maxLen;omega) (by omega) (by have:=B.o.x.lt;omega) _ rfl ?_;intro an am bn aG ai aD bf;obtain⟨ar,aw,aI⟩:=Y3 aG ai aD;have ah:=B.o.grow (fun k e=>(B.o.hp.lt k e).1) ai;clear V W X Y Z aa ab ac ad aG ai aD bf;obtain⟨⟨V,W,X,Y⟩,Z,aa,ab,ac⟩:=On ah.2.2.2;have ad:=ah.2.2.2.lt;clear ah))
     clear V W X Y Z aa ab ac ad;have ax:=Za (B.o.appP ar.o aw.o);have aF:(m++[x]).length=m.length+1:=by simp
     have ag:=Za aF;clear B aC ar aw aI M aF;generalize bn.setCell ⟨w.heap.size+1,1,none⟩ (.slice (some ⟨an,0,none⟩) (m.length+1) am)=bo at*;refine Zb (aJ.o [44] E bo ax.o.rs) ?_;rintro e bR ⟨rfl,c,a⟩
     cases h44:Cp [44] E with
     |true=>
      rw[h44,if_pos rfl]at a;have d:=al.o;rw[if_pos h44]at d;have bE:=Dw h44;obtain⟨F,aU,aV⟩:=Y3 (ax.o.call c a) bE d;clear c a h44 bE d ax al;go_wp2;go_roundw
      case rel=>exact⟨false,m++[x],some ⟨an,0,none⟩,am,Bg E,g,rfl,by rw[if_neg (by decide)];exact aV.o,by have:=aU.o;have:=af.o;omega,by rw[ag.o];have:=aU.o;have:=af.o;exact⟨by omega,fun _=>by omega⟩,by rw[ag.o];exact F.o⟩
      case measure=>
       have n:=Jt F.o.rs;have R:=aL.o;have aX:=aU.o;have aY:=af.o;(try dsimp only at R);show Ju p L bR+1<Ju p L wr+1
       rw[n,R];omega
     |false=>
      rw[h44,if_neg (by decide)]at a;have d:=al.o;rw[if_neg (by rw[h44];decide)]at d;obtain⟨F,aV⟩:=Y2 (ax.o.call c a) d;clear c a h44 d ax al;go_wp2_with fail;refine Zb (aB.o [41] E _ F.o.rs) ?_;rintro e bl ⟨rfl,c,a⟩;have ay:=Za (F.o.call c a);clear c a F;have bY:Yh (m.length+1≤1000000):=(by
       have R:1≤C.length:=by
        rcases Nat.eq_zero_or_pos C.length with G|G
        ·exfalso
         exact bV.o (Yd.1 G)
        ·exact G
       omega:m.length+1≤1000000)
      go_wp2;go_roundw
      case rel=>exact⟨true,m++[x],some ⟨an,0,none⟩,am,Ap [41] E,(Ap [41] E).2.length+1,rfl,by rw[if_pos rfl];exact aV.o,Zg _,by rw[ag.o];exact⟨bY.o,fun G=>by cases G⟩,by rw[ag.o];exact ay.o⟩
      case measure=>show 0<Ju p L wr+1;omega
 case rest=>
 obtain⟨J,K,z,bI⟩:=hcut;have h:=Za z;clear z aS;obtain⟨bS,cj⟩:∃bS,wc=bS:=⟨_,rfl⟩;subst cj;go_wp2_with fail;refine Zb (aA.o _ h.o.rs) ?_;rintro e bm ⟨rfl,c,a⟩;have ae:=Za (h.o.call c a);clear c a h aA;go_wp2_with fail;refine Zb (aJ.o [105,110,116] U bm ae.o.rs) ?_;rintro e ap ⟨rfl,c,a⟩;have M:=Za (ae.o.call c a);clear c a ae;obtain⟨m,cz⟩:=I;dsimp only at M bI
 go_upto_block 2 with(fail);go_cut [] (fun H=> ∃(cl:Option Addr) (cm:Nat),FI w p u cap L Q.2 s m (.slice J m.length K) Q.1 (.slice cl Q.1.length cm) H∧Q.1.length≤1000000)
 case first=>
  go_wp2
  go_loopw [9,10] (fun e _ H=> ∃(r:List Bs) (ao:Option Addr) (uc:Nat) (j:PS) (g:Nat),e=.bool (Cp [105,110,116] j)∧loT g r j=Q∧j.2.length+1≤g∧r.length+j.2.length≤1000000∧FI w p u cap L (if Cp [105,110,116] j=true then Bg j else j) s m (.slice J m.length K) r (.slice ao r.length uc) H) (fun e _ H=>match e with|.bool false=>0|_=>Ju p L H+1)
  case atStart=>exact⟨[],none,0,U,f,rfl,bW.o,by have:=bs.o;omega,by have:=bs.o.2;simpa using this,M.o⟩
  case round=>
   obtain⟨r,ao,uc,j,g,rfl,d,bc,bh,z⟩:=hrel;obtain⟨g,rfl⟩:∃k,g=k+1:=⟨g-1,by omega⟩;rw[loT]at d;clear M
   cases hu:Cp [105,110,116] j with
   |false=>
    rw[hu,if_neg (by decide)]at z d;have h:=Za z;subst d;clear z hu;go_wp2;go_meet;exact⟨_,_,h.o,(show r.length≤1000000 by omega)⟩
   |true=>
    rw[hu,if_pos rfl]at z d;have be:=Dw hu;obtain⟨aM,C⟩:=j;have cf:aM=false:=by
     cases aM with
     |false=>rfl
     |true=>rw[Dq rfl]at hu;cases hu
    subst cf;have h:=Za z;have aL:=Za (Jt h.o.rs);obtain⟨i,y,S⟩:=h.o.rs;have aN:wr.cell? ⟨p,2,none⟩=some (.bool false):=y.own.at 2 _ rfl;have ak:=y.own.lt;obtain⟨N,T⟩:∃q,Bg (false,C)=q:=⟨_,rfl⟩;rw[T]at d be h aL;have aj:=Ka N;have D:=bt.o N;obtain⟨⟨x,E⟩,aH⟩:∃q,Bl N=q:=⟨_,rfl⟩;rw[aH]at d aj D;dsimp only at d aj D bc bh be;have bC:=Ce [59] E;obtain⟨O,bK⟩:∃q,Ap [59] E=q:=⟨_,rfl⟩;have aQ:=aB.o [59] E;rw[bK]at d bC aQ;obtain⟨al,D,bp⟩:=Y3 d D aQ;have af:Yh (O.2.length<C.length∧O.2.length≤N.2.length):=(⟨by omega,by omega⟩:O.2.length<C.length∧O.2.length≤N.2.length);clear z y S d T aH bK aj bC be hu aQ;go_wp2_with fail;refine Zb (D.o _ h.o.rs) ?_;rintro e aq ⟨rfl,c,a⟩;have F:=Za (h.o.call c a);clear c a aN ak h D;have ci:r.length≤1000000:=by omega
    go_upto_region 17 with(fail);have aE:Yj aq.heap.size aq (aq.alloc (.cells #[.string (Aa x)] 9)):=bA;obtain⟨B,aC⟩:=Y2 (F.o.old aE) (Ze aq [.string (Aa x)] 9);obtain⟨⟨V,W,X,Y⟩,Z,aa,ab,ac⟩:=On F.o.x;have ad:=F.o.x.lt;clear aE;go_wp2_with (at_builtin;(refine Ym (P:=Zd) _ rfl _ _ 38 rfl (w.heap.size+2) 9 bQ _ 1 16 underlying38 bB bN bO bP rfl (by decide) (.slice ao r.length uc) r.length (r.flatMap Ed) rfl (by exact B.o.hl) ⟨aq.heap.size,0,none⟩ 1 1 (Ed x) rfl rfl (aC.o.newsY) (kD x) (by decide) (by unfold maxLen;omega) (by omega) (by have:=B.o.x.lt;omega) _ rfl ?_;intro an am bn aG ai aD bf;obtain⟨ar,aw,aI⟩:=Y3 aG ai aD;have ah:=B.o.grow (fun k e=>(B.o.hl.lt k e).1) ai;clear V W X Y Z aa ab ac ad aG ai aD bf;obtain⟨⟨V,W,X,Y⟩,Z,aa,ab,ac⟩:=On ah.2.2.2;have ad:=ah.2.2.2.lt;clear ah));clear V W X Y Z aa ab ac ad;have ay:=Za (B.o.appL ar.o aw.o aI.o);have aF:(r++[x]).length=r.length+1:=by simp
    have ag:=Za aF;clear B aC ar aw aI F aF;generalize bn.setCell ⟨w.heap.size+1,2,none⟩ (.slice (some ⟨an,0,none⟩) (r.length+1) am)=bo at*;refine Zb (bp.o bo ay.o.rs) ?_;rintro e bR ⟨rfl,c,a⟩;have aT:=Za (ay.o.call c a);clear c a ay bp;go_wp2_with fail;refine Zb (aJ.o [105,110,116] O _ aT.o.rs) ?_;rintro e bl ⟨rfl,c,a⟩;have bq:=Za (aT.o.call c a);clear c a aT;go_wp2;go_roundw
    case rel=>exact⟨r++[x],some ⟨an,0,none⟩,am,O,g,rfl,al.o,by have:=af.o;omega,by rw[ag.o];have:=af.o;omega,by rw[ag.o];exact bq.o⟩
    case measure=>
     have R:=aL.o;have aX:=af.o;show(match Value.bool (Cp [105,110,116] O)with|.bool false=>0|_=>Ju p L bl+1)<Ju p L wr+1
     have n:=Jt bq.o.rs
     cases S:Cp [105,110,116] O with
     |false=>dsimp only;omega
     |true=>
      rw[S,if_pos rfl]at n;have aY:=Ea O;show Ju p L bl+1<Ju p L wr+1
      rw[n,R];have co:=Dw S;omega
 case rest=>
 obtain⟨ao,uc,z,bJ⟩:=hcut;have h:=Za z;clear z M;obtain⟨bT,ck⟩:∃bT,wc=bT:=⟨_,rfl⟩;subst ck;obtain⟨r,cA⟩:=Q;dsimp only at h bJ;go_wp2_with fail;refine Zb (av.o _ h.o.rs) ?_;rintro e aq ⟨c,a,v,rfl,aP⟩;dsimp only at a aP;obtain⟨bj,bk,rfl⟩:=aP.shape;have bi:=h.o.x.sfr c (by have:=bu.o;omega);have aO:=h.o.own.sfr c (by have:=bu.o;omega);obtain⟨bU,bX⟩:=Y2 (h.o.fin c a aP bI bJ) (aO.other (k:=w.heap.size+1) (by omega) 3 (.slice bj aW.length bk));obtain⟨⟨V,W,X,Y⟩,Z,aa,ab,ac⟩:=On bi;have ad:=bi.lt;obtain⟨⟨cq,cr,cs,ct⟩,cu,cv,cw,cx⟩:=On aO;have cy:=aO.lt;clear c a aP bi aO av;go_wp2_with fail;obtain⟨⟨bZ,ca,cb,cc⟩,_⟩:=On ((((bX.o.set 0 (.string (Aa s))).set 1 (.slice J m.length K)).set 2 (.slice ao r.length uc)).set 3 (.slice bj aW.length bk));exact Yk (v:=.agg #[.string (Aa s),.slice J m.length K,.slice ao r.length uc,.slice bj aW.length bk]) (by simp [results,results71,go_sem,bZ,ca,cb,cc]) rfl (bU.o _ _ _ _)
def GEnd(w:Yg)(p a cap:Nat)(L:List Tk)(q:Pr ×PS)(e:Ending)(w':Yg):Prop:=SFr p w w'∧Rs w' p a cap L q.2∧∃v,e=.returned v∧PrH w.heap.size q.1 v w'
structure PI (w:Yg)(p tb cap:Nat)(L:List Tk)(st:PS)(al:List Ar)(av:Yi)(fs:List YFv)(fv:Yi)(wx:Yg):Prop where
 sfr:SFr p w wx
 rs:Rs wx p tb cap L st
 own:Ad wx w.heap.size [.slice none 0 0,.slice none 0 0] 30
 x:Ad wx (w.heap.size+1) [av,fv] 30
 ha:Qf wx (w.heap.size+2) al av
 hf:Hg wx (w.heap.size+2) fs fv
 dif:∀k,av.ownBlock=some k→fv.ownBlock≠some k
 nil0:fs=[]→fv=(.slice none 0 0)
 pw:p<w.heap.size
theorem PI.call {w:Yg}{p c cap:Nat}{L:List Tk}{st h:PS}{d:List Ar}{f:List YFv}{e g:Yi}{i w':Yg}(a:PI w p c cap L st d e f g i)(b:SFr p i w')(j:Rs w' p c cap L h):PI w p c cap L h d e f g w':=
 have k:=a.pw
 ⟨a.sfr.trans b,j,a.own.sfr b (by omega),a.x.sfr b (by omega),Fh.sfr a.ha b (by omega),a.hf.sfr b (by omega),a.dif,a.nil0,a.pw⟩
theorem PI.old {w:Yg}{p h cap:Nat}{L:List Tk}{st:PS}{b:List Ar}{d:List YFv}{c e:Yi}{a w':Yg}(f:PI w p h cap L st b c d e a)(g:Yj a.heap.size a w'):PI w p h cap L st b c d e w':=f.call (Zh g) (f.rs.old g)
theorem PI.grow {w:Yg}{p g cap:Nat}{L:List Tk}{st:PS}{i:List Ar}{j:List YFv}{d f:Yi}{h w':Yg}(a:PI w p g cap L st i d j f h){row:Option Nat}(c:∀k,row=some k→w.heap.size+2≤k)(b:h.grownBy w' row):SFr p w w'∧Rs w' p g cap L st∧Ad w' w.heap.size [.slice none 0 0,.slice none 0 0] 30∧Ad w' (w.heap.size+1) [d,f] 30:=by
 have m:=a.pw;exact⟨a.sfr.grow b (fun k e=>by have:=c k e;omega),a.rs.low (fun k l=>b.block k (Zu l a.rs.lt) (fun e=>by have:=c k e.symm;omega)),
  a.own.low (b.block _ a.own.lt (fun e=>by have:=c _ e.symm;omega)),a.x.low (b.block _ a.x.lt (fun e=>by have:=c _ e.symm;omega))⟩
theorem PI.appA {w:Yg}{p f cap:Nat}{L:List Tk}{st:PS}{a:List Ar}{x:Ar}{d:Yi}{h w':Yg}{g c:Nat}(b:PI w p f cap L st a d [] (.slice none 0 0) h)(q:w'.ownsRow (w.heap.size+2) 60 2 (.slice (some ⟨g,0,none⟩) (a.length+1) c) (a.length+1) (a.flatMap Hd++Hd x))(n:h.grownBy w' d.ownBlock):
  PI w p f cap L st (a++[x]) (.slice (some ⟨g,0,none⟩) (a.length+1) c) [] (.slice none 0 0) (w'.setCell ⟨w.heap.size+1,0,none⟩ (.slice (some ⟨g,0,none⟩) (a.length+1) c)):=by
 obtain⟨i,j,l,m⟩:=b.grow (fun k e=>(Fh.lt b.ha k e).1) n;have r:=b.pw;have o:Qf w' (w.heap.size+2) (a++[x]) (.slice (some ⟨g,0,none⟩) (a.length+1) c):=by
  unfold Qf Fh;rw[List.flatMap_append,Zp];simpa using q
 exact⟨i.setNew (by omega) _ _,j.other (by omega) _ _,l.other (by omega) _ _,m.set 0 _,Fh.low o (by omega) _ _,Hg.zero _ _,(fun k _ e=>(by cases e)),(fun _=>rfl),b.pw⟩
theorem PI.appF {w:Yg}{p r cap:Nat}{L:List Tk}{st:PS}{m:List Ar}{d:List YFv}{q:YFv}{i f:Yi}{j w':Yg}{g c:Nat}(a:PI w p r cap L st m i d f j)(y:YFp (fun b=>w.heap.size+2≤b∧f.ownBlock≠some b) j q)(x:w'.ownsRow (w.heap.size+2) 48 4 (.slice (some ⟨g,0,none⟩) (d.length+1) c) (d.length+1) (d.flatMap Fw++Fw q))(l:j.grownBy w' f.ownBlock)(h:f.ownBlock=some g∨g=j.heap.size):
  PI w p r cap L st m i (d++[q]) (.slice (some ⟨g,0,none⟩) (d.length+1) c) (w'.setCell ⟨w.heap.size+1,1,none⟩ (.slice (some ⟨g,0,none⟩) (d.length+1) c)):=by
 obtain⟨s,t,u,v⟩:=a.grow (fun k e=>(a.hf.lt k e).1) l;have z:=a.pw;have o:∀k,i.ownBlock=some k→f.ownBlock≠some k:=a.dif;refine⟨s.setNew (by omega) _ _,t.other (by omega) _ _,u.other (by omega) _ _,v.set 1 _,Fh.low (Fh.grown a.ha l ?_) (by omega) _ _,(a.hf.snoc q y x l h).low (by omega) _ _,?_,(fun e=>absurd (congrArg List.length e) (by simp)),a.pw⟩
 ·cases hp:i.ownBlock with
  |none=>exact .inl rfl
  |some k=>exact .inr (fun e=>o k hp e.symm)
 ·intro k n e
  have e:some g=some k:=e;injection e with e
  subst e;rcases h with h|h
  ·exact o g n h
  ·have:=(Fh.lt a.ha g n).2;omega
theorem PI.fin {w:Yg}{p n cap:Nat}{L:List Tk}{st:PS}{d:List Ar}{e:List YFv}{g k:Yi}{f:Yg}(a:PI w p n cap L st d g e k f)(q:d.length≤1000000)(r:e.length≤1000000)(h j:Yi):
  GEnd w p n cap L (⟨d,e.map (·.x)⟩,st) (.returned (.agg #[g,k])) ((f.setCell ⟨w.heap.size,0,none⟩ h).setCell ⟨w.heap.size,1,none⟩ j):=by
 have s:=a.pw;have l:∀(c:Yg) (i:Nat) (y:Yi),Db (w.heap.size+2≤ ·) c (c.setCell ⟨w.heap.size,i,none⟩ y):=fun c i y=>Av c (by omega) i y
 have m:=(l f 0 h).trans (l _ 1 j);have o:∀b,w.heap.size+2≤b→w.heap.size≤b:=fun b t=>by omega
 exact⟨(a.sfr.setNew (by omega) _ _).setNew (by omega) _ _,(a.rs.other (by omega) _ _).other (by omega) _ _,_,rfl,_,_,rfl,((Qf.ars a.ha q).keep m).mono o,(Bw.keep m (a.hf.fus r)).mono o⟩
theorem pD {s:Bs}{st:PS}(a:(Ap s st).1=false):(Ap s st).2.length<st.2.length:=by
 unfold Ap at a ⊢;split
 ·rename_i b;exact Dw b
 ·rename_i b;rw[if_neg b]at a;cases a
theorem bI {s:Bs}{st:PS}(a:(Ap s st).1=false):st.1=false:=by
 cases hb:st.1 with
 |false=>rfl
 |true=>rw[Ch hb,hb]at a;cases a
theorem qB {st:PS}(a:(Bl st).2.1=false):st.1=false:=by
 cases hb:st.1 with
 |false=>rfl
 |true=>rw[Ms hb]at a;dsimp only at a;rw[hb]at a;cases a
theorem xL {st:PS}(a:(Jv st).2.1=false):st.1=false:=by
 cases hb:st.1 with
 |false=>rfl
 |true=>rw[nB hb]at a;dsimp only at a;rw[hb]at a;cases a
theorem fn_back {f:Nat}{s:Bs}{st:PS}(a:(fnT f s st).2.1=false):st.1=false:=by
 cases hb:st.1 with
 |false=>rfl
 |true=>rw[jN hb,hb]at a;cases a
theorem fn_len(f:Nat)(s:Bs)(st:PS):(fnT f s st).2.2.length≤st.2.length:=by
 have a:=Ce [40] st;have b:=mS f (Ap [40] st);have c:=Ce [123] (Mx f (Ap [40] st)).2;have d:=iI f [] (Ap [123] (Mx f (Ap [40] st)).2);have e:=vE f [] (loT f [] (Ap [123] (Mx f (Ap [40] st)).2)).2;show(ssT f [] (loT f [] (Ap [123] (Mx f (Ap [40] st)).2)).2).2.2.length≤_
 omega
theorem Je {w:Yg}{b:Nat}{e:TypeId}{c d:Yi}(a:Ad w b [c,d] e):(w.cell? ⟨b,0,none⟩=some c∧w.cell? ⟨b,1,none⟩=some d)∧w.frozen? ⟨b,0,none⟩=false∧w.frozen? ⟨b,1,none⟩=false:=
 ⟨⟨a.at 0 _ rfl,a.at 1 _ rfl⟩,a.fz 0,a.fz 1⟩
theorem rpProg(f:Nat)(st:PS)(w:Yg)(p r cap:Nat)(L:List Tk)(al:14*st.2.length+16≤f)(a:Rs w p r cap L st):
  Yl Zd 30 #[.pointer (some ⟨p,0,none⟩)] w (GEnd w p r cap L (prT f ⟨[],[]⟩ st)):=by
 have cH:=Za a.lt;have bE:st.2.length≤1000000:=by
  obtain⟨i,ab,e⟩:=a;rw[e,Zf];have:=ab.fit;omega
 obtain⟨bS,bQ,aX,bV,bW,bT⟩:=Y6 bE (fun s D m (u:Rs m p r cap L D)=>Rp p r cap L s D m u) (fun s D m (u:Rs m p r cap L D)=>Nj p r cap L s D m u) (fun D m (u:Rs m p r cap L D)=>cB p r cap L D m u) (fun D m (u:Rs m p r cap L D)=>fX p r cap L D m u) (fun g s D m (l:14*D.2.length+15≤g) (u:Rs m p r cap L D)=>lL g s D m p r cap L l u);obtain⟨cC,cj,cy,cz,cA⟩:=info_parts vX;obtain⟨cD,ck,cv,cw,cx⟩:=info_parts tQ;obtain⟨ar,be⟩:∃ar,prT f ⟨[],[]⟩ st=ar:=⟨_,rfl⟩;rw[be];obtain⟨aZ,bt⟩:=Y2 be al;have bf:Yj w.heap.size w ((w.alloc (.cells #[ν,ν] 30)).alloc (.cells #[ν,ν] 30)):=(bA).alloc (by simp) _;have aU:Yh (PI w p r cap L st [] (ν) [] (ν) ((w.alloc (.cells #[ν,ν] 30)).alloc (.cells #[ν,ν] 30))):=by
  refine⟨Zh bf,a.old bf,(Ze w [ν,ν] 30).alloc _,?_,Fh.zero _ _ _ _ _,Hg.zero _ _,(fun k e=>(by cases e)),(fun _=>rfl),a.lt⟩;have:=Ze (w.alloc (.cells #[ν,ν] 30)) [ν,ν] 30;rw[show(w.alloc (.cells #[ν,ν] 30)).heap.size=w.heap.size+1 by simp]at this;exact this
 clear be al a bf bE;go_enter func30,ntmps30
 go_upto_block 0 with(fail);generalize (w.alloc (.cells #[ν,ν] 30)).alloc (.cells #[ν,ν] 30)=cJ at*;go_cut [] (fun am=> ∃(d:List Ar) (J:Option Addr) (K:Nat) (c:List YFv) (E:Option Addr) (F:Nat),PI w p r cap L ar.2 d (.slice J d.length K) c (.slice E c.length F) am∧ar.1=⟨d,c.map (·.x)⟩∧d.length+c.length≤1000000)
 case first=>
  go_wp2
  go_loopw [4,5,6,7] (fun _ _ _ _ am=> ∃(d:List Ar) (J:Option Addr) (K:Nat) (c:List YFv) (E:Option Addr) (F:Nat) (ah:PS) (g:Nat),prT g ⟨d,c.map (·.x)⟩ ah=ar∧(1≤g∧(ah.1=false→14*ah.2.length+16≤g))∧(d.length+c.length≤1000000∧(ah.1=false→d.length+c.length+ah.2.length≤1000000))∧PI w p r cap L ah d (.slice J d.length K) c (.slice E c.length F) am) (fun _ _ _ _ am=>Nc p L am)
  case atStart=>exact⟨[],none,0,[],none,0,st,f,aZ.o,⟨by have:=bt.o;omega,fun _=>bt.o⟩,⟨Zk _,fun _=>by have:=bS.o;simpa using this⟩,aU.o⟩
  case round=>
   obtain⟨d,J,K,c,E,F,ah,g,j,⟨cM,bF⟩,⟨bk,aH⟩,ae⟩:=hrel;have A:=Za ae;obtain⟨g,rfl⟩:∃k,g=k+1:=⟨g-1,by omega⟩;rw[prT]at j;have bD:∀n,Yj wr.heap.size wr (wr.drewN n):=fun n=>⟨(Zq wr.heap.size wr).os,(Zq wr.heap.size wr).tape,(Zq wr.heap.size wr).output,(Zq wr.heap.size wr).size,(Zq wr.heap.size wr).block⟩
   have aS:=Za bD;clear ae aU bD aZ;obtain⟨bb,H⟩:=ah;obtain⟨i,ab,e⟩:=A.o.rs;have e:H=L.drop i:=e;obtain⟨t,cE,bz,cc,bB,cN⟩:=ab.next;have aF:H=t::cE:=e.trans bz;obtain⟨bm,bn,bO,bP⟩:=ab.row.nth bB;rw[Zr]at bm bn bO bP;obtain ⟨bX, bY⟩ := τ2 ab.own;have bZ:wr.cell? ⟨p,2,none⟩=some (.bool bb):=ab.own.at 2 _ rfl;have bK:=ab.own.lt;have cs:r<wr.heap.size:=Nat.lt_trans ab.lt bK;have cl:(i:Int)<(L.length:Int):=by omega
   have cm:(0:Int)≤(i:Int):=by omega
   have bG:Ub (bb,H)=t:=by rw[aF];rfl
   rw[bG]at j;clear e bz cc bB ab bG
   cases bb with
   |true=>
    rw[if_pos (.inl rfl)]at j;subst j;clear aF;go_upto_region 2 with(fail)
    go_big_quiet (fail)
    go_wp2;go_meet;exact⟨_,_,_,_,_,_,A.o.old (aS.o _),rfl,bk⟩
   |false=>
    by_cases hk:t.kind=5
    ·rw[if_pos (.inr hk)]at j
     subst j;clear aF;go_upto_region 2 with(fail)
     go_big_quiet (fail)
     go_wp2;go_meet;exact⟨_,_,_,_,_,_,A.o.old (aS.o _),rfl,bk⟩
    ·rw[if_neg (by rintro(a|a);cases a;exact hk a)]at j
     have bl:=aH rfl;have ci:=bF rfl;have bu:Yh (1≤H.length):=(by rw[aF];simp:1≤H.length);have bv:Yh (Nc p L wr=H.length+1):=Lt A.o.rs;clear aH bF aF;go_upto_region 2 with(fail)
     go_big_quiet (fail)
     have A:=Za (A.o.old (aS.o nq));generalize wr.drewN nq=m at*;have M:=Ce [105,110,116] (false,H);have G:=pD (s:=[105,110,116]) (st:=(false,H));have z:=aX.o [105,110,116] (false,H) m A.o.rs;obtain⟨aP,aH⟩:∃q,Ap [105,110,116] (false,H)=q:=⟨_,rfl⟩;rw[aH]at j M G z;have ag:=Ka aP;have af:=qB (st:=aP);have N:=bV.o aP;obtain⟨⟨nm,y⟩,bL⟩:∃q,Bl aP=q:=⟨_,rfl⟩;rw[bL]at j ag af N;dsimp only at j M G ag af ci bl;obtain⟨aq,z,N⟩:=Y3 j z N;have aW:Yh (y.2.length≤H.length∧(y.1=false→y.2.length<H.length)):=⟨Nat.le_trans ag M,fun a=>Zu ag (G (af a))⟩;clear j aH bL M ag G af bm bn bO bP bX bY bZ bK cs cl cm;go_wp2_with fail;refine Zb z.o ?_;rintro e cF ⟨rfl,l,h⟩;have aV:=Za (A.o.call l h);clear l h A z hk;go_wp2_with fail;refine Zb (N.o cF aV.o.rs) ?_;rintro e cG ⟨rfl,l,h⟩;have ac:=Za (aV.o.call l h);clear l h aV N;go_upto_region 5 with(fail);go_cut [5]from 31 to 38 (fun q am=> ∃b:Bool,q=.bool b∧(b=true↔(c=[]∧Cp [91] y=true))∧PI w p r cap L (if b=true then Bg y else y) d (.slice J d.length K) c (.slice E c.length F) am)
     case first=>
      by_cases aD:c=[]
      ·subst aD
       obtain⟨⟨V,W⟩,X,Y⟩:=Je (show Ad _ _ [.slice J d.length K,.slice E 0 F] _ from ac.o.x);have Z:=ac.o.x.lt;go_wp2_with fail;refine Zb (bQ.o [91] y cG ac.o.rs) ?_;rintro e bq ⟨rfl,l,h⟩;have C:=Za (ac.o.call l h);clear l h V W X Y Z;go_wp2;go_meet;exact⟨Cp [91] y,rfl,⟨fun a=>⟨by first|trivial|rfl,a⟩,fun a=>a.2⟩,C.o⟩
      ·have cr:=Zm.2 aD
       have cO:((c.length:Int)==0)=false:=by rw[beq_eq_false_iff_ne];omega
       obtain⟨⟨V,W⟩,X,Y⟩:=Je ac.o.x;have Z:=ac.o.x.lt;clear cr;go_wp2;go_meet;exact⟨false,rfl,⟨fun a=>(by cases a),fun a=>absurd a.1 aD⟩,ac.o⟩
     case rest=>
     obtain⟨b,rfl,aa,ae⟩:=hcut;have C:=Za ae;clear ae ac;obtain⟨bq,cu⟩:∃bq,wc=bq:=⟨_,rfl⟩;subst cu
     cases b with
     |true=>
      obtain⟨aD,bd⟩:=aa.1 rfl;subst aD;have bj:=C.o.nil0 rfl;have bj:Value.slice E 0 F= ν:=bj;injection bj with co _ cp
      subst co cp;have C:Yh (PI w p r cap L (Bg y) d (.slice J d.length K) [] (ν) wc):=C.o;have j:=aq.o;rw[if_pos ⟨rfl,bd⟩]at j;have cn:=Dw bd;have M:=mW (Bg y);have G:=xL (st:=Bg y);have z:=bW.o (Bg y);obtain⟨⟨n,aQ⟩,bM⟩:∃q,Jv (Bg y)=q:=⟨_,rfl⟩;rw[bM]at j M G z;dsimp only at j M G;have ag:=Ce [93] aQ;have af:=bI (s:=[93]) (st:=aQ);have N:=aX.o [93] aQ;obtain⟨aR,bN⟩:∃q,Ap [93] aQ=q:=⟨_,rfl⟩;rw[bN]at j ag af N;have bH:=Ce [59] aR;have bg:=bI (s:=[59]) (st:=aR);have ax:=aX.o [59] aR;obtain⟨B,aI⟩:∃q,Ap [59] aR=q:=⟨_,rfl⟩;rw[aI]at j bH bg ax;have aq:=Za j;have aj:Yh (B.1=false→B.2.length<H.length):=fun a=>by
       have u:=aW.o.2 (G (af (bg a)));omega
      obtain⟨z,N,ax⟩:=Y3 z N ax;clear j bM bN aI M ag bH G af bg cn bd aa;go_wp2_with fail;refine Zb (z.o _ C.o.rs) ?_;rintro e ai ⟨rfl,l,h⟩;have ao:=Za (C.o.call l h);clear l h C z;go_wp2_with fail;refine Zb (N.o _ ao.o.rs) ?_;rintro e av ⟨rfl,l,h⟩;have ad:=Za (ao.o.call l h);clear l h ao N;go_wp2_with fail;refine Zb (ax.o _ ad.o.rs) ?_;rintro e aJ ⟨rfl,l,h⟩;have aK:=Za (ad.o.call l h);clear l h ad ax;have cq:d.length≤1000000:=by simp only[List.length_nil]at bk;omega
      go_upto_region 12 with(fail);have au:Yj aJ.heap.size aJ (aJ.alloc (.cells #[.string (Aa nm),.int .i64 n] 60)):=bA;obtain⟨I,aA⟩:=Y2 (aK.o.old au) (Ze aJ [.string (Aa nm),.int .i64 n] 60);obtain⟨⟨V,W⟩,X,Y⟩:=Je aK.o.x;have Z:=aK.o.x.lt;clear au;go_wp2_with (at_builtin;(refine Ym (P:=Zd) _ rfl _ _ 27 rfl (w.heap.size+2) 60 cC _ 2 24 underlying27 cj cy cz cA rfl (by decide) (.slice J d.length K) d.length (d.flatMap Hd) rfl (by exact I.o.ha) ⟨aJ.heap.size,0,none⟩ 1 1 (Hd ⟨nm,n⟩) rfl rfl (aA.o.newsY) (tJ ⟨nm,n⟩) (by decide) (by unfold maxLen;omega) (by omega) (by have:=I.o.x.lt;omega) _ rfl ?_;intro aC aB bo aG ak aM bi;obtain⟨aw,an⟩:=Y2 aG ak;have ap:=I.o.grow (fun k e=>(Fh.lt I.o.ha k e).1) ak;clear V W X Y Z aG ak aM bi;obtain⟨⟨V,W⟩,X,Y⟩:=Je ap.2.2.2;have Z:=ap.2.2.2.lt;clear ap));clear V W X Y Z;have ay:=Za (I.o.appA (x:=⟨nm,n⟩) aw.o an.o);have aE:(d++[(⟨nm,n⟩:Ar)]).length=d.length+1:=by simp
      have az:=Za aE;have aL:Yh (d.length+1≤1000000∧(B.1=false→d.length+1+B.2.length≤1000000)):=by
       have u:=bu.o;have R:=aj.o;simp only[List.length_nil]at bl;exact⟨by omega,fun a=>by have:=R a;omega⟩
      have aT:Yh (1≤g∧(B.1=false→14*B.2.length+16≤g)):=by
       have R:=aj.o;exact⟨by omega,fun a=>by have:=R a;omega⟩
      clear I aA aw an aK aE;generalize bo.setCell ⟨w.heap.size+1,0,none⟩ (.slice (some ⟨aC,0,none⟩) (d.length+1) aB)=bp at*;go_roundw
      case rel=>exact⟨d++[⟨nm,n⟩],some ⟨aC,0,none⟩,aB,[],none,0,B,g,aq.o,aT.o,by rw[az.o];exact⟨by have:=aL.o.1;simpa using this,fun a=>by have:=aL.o.2 a;simpa using this⟩,by rw[az.o];exact ay.o⟩
      case measure=>
       have R:=bv.o;have bc:=aj.o;have h:=ay.o.rs;show Nc p L bp<Nc p L wr
       rw[R];obtain⟨ba,l2⟩:=B
       cases ba with
       |true=>rw[Tb h];omega
       |false=>rw[Lt h];have:=bc rfl;dsimp only at this;omega
     |false=>
      have j:=aq.o;rw[if_neg (fun a=>by have:=aa.2 ⟨by have u:=a.1;simpa using u,a.2⟩;cases this)]at j;have C:Yh (PI w p r cap L y d (.slice J d.length K) c (.slice E c.length F) wc):=C.o;have M:=fn_len g nm y;have G:=fn_back (f:=g) (s:=nm) (st:=y);have z:=fun m u=>bT.o g nm y m (by have:=aW.o.1;omega) u
      obtain⟨⟨x,B⟩,aI⟩:∃q,fnT g nm y=q:=⟨_,rfl⟩;rw[aI]at j M G z;dsimp only at j M G;have aq:=Za j;have aj:Yh (B.1=false→B.2.length<H.length):=fun a=>by
       have u:=aW.o.2 (G a);omega
      have z:=Za z;clear j aI M G aa;go_wp2_with fail;refine Zb (z.o _ C.o.rs) ?_;rintro e ai ⟨l,h,v,rfl,pv,lv,cK,rfl,aO,al,aa⟩;dsimp only at h aO al aa;obtain⟨pa,U,rfl⟩:=Ld aO;obtain⟨S,T,rfl⟩:=Ld al;obtain⟨O,Q,rfl⟩:=aa.shape;have aN:∀b,wc.heap.size≤b→w.heap.size+2≤b∧(Value.slice E c.length F).ownBlock≠some b:=fun b aa=>by
       have u:=C.o.x.lt;exact⟨by omega,fun e=>by have:=(C.o.hf.lt b e).2;omega⟩
      have bw:Yh (YFp (fun b=>w.heap.size+2≤b∧(Value.slice E c.length F).ownBlock≠some b) ai (⟨x,.slice pa x.params.length U,.slice S x.locals.length T,.slice O x.body.length Q⟩:YFv)):=⟨aO.mono aN,al.mono aN,aa.mono aN⟩;have ao:=Za (C.o.call l h);clear l h C z aO al aa aN;have cq:c.length≤1000000:=by omega
      go_upto_region 8 with(fail);have bh:Yj ai.heap.size ai (ai.alloc (.cells #[.string (Aa x.name),.slice pa x.params.length U,.slice S x.locals.length T,.slice O x.body.length Q] 48)):=bA;obtain⟨ad,ap,an⟩:=Y3 (ao.o.old bh) (bw.o.keep (Be bh)) (Ze ai [.string (Aa x.name),.slice pa x.params.length U,.slice S x.locals.length T,.slice O x.body.length Q] 48);clear bh ao bw;generalize ai.alloc (.cells #[.string (Aa x.name),.slice pa x.params.length U,.slice S x.locals.length T,.slice O x.body.length Q] 48)=av at*;generalize ai.heap.size=cL at*;have au:Yj av.heap.size av (av.alloc (.cells #[.string (Aa x.name),.slice pa x.params.length U,.slice S x.locals.length T,.slice O x.body.length Q] 48)):=bA;obtain⟨I,bx,aA⟩:=Y3 (ad.o.old au) (ap.o.keep (Be au)) (Ze av [.string (Aa x.name),.slice pa x.params.length U,.slice S x.locals.length T,.slice O x.body.length Q] 48);obtain⟨⟨V,W⟩,X,Y⟩:=Je ad.o.x;have Z:=ad.o.x.lt;obtain⟨⟨cd,ce,cf,cg⟩,_⟩:=On an.o;have ch:=an.o.lt;clear au;go_wp2_with (at_builtin;(refine Ym (P:=Zd) _ rfl _ _ 28 rfl (w.heap.size+2) 48 cD _ 4 88 underlying28 ck cv cw cx rfl (by decide) (.slice E c.length F) c.length (c.flatMap Fw) rfl (by exact I.o.hf.1) ⟨av.heap.size,0,none⟩ 1 1 (Fw (⟨x,.slice pa x.params.length U,.slice S x.locals.length T,.slice O x.body.length Q⟩:YFv)) rfl rfl (aA.o.newsY) (rX) (by decide) (by unfold maxLen;omega) (by omega) (by have:=I.o.x.lt;omega) _ rfl ?_;intro aC aB bo aG ak aM bi;obtain⟨aw,bs,br⟩:=Y3 aG ak aM;have aY:=I.o.grow (fun k e=>(I.o.hf.lt k e).1) ak;clear V W X Y Z aG ak aM bi;obtain⟨⟨V,W⟩,X,Y⟩:=Je aY.2.2.2;have Z:=aY.2.2.2.lt;clear aY))
      clear V W X Y Z cd ce cf cg ch;have ay:=Za (I.o.appF (q:=(⟨x,.slice pa x.params.length U,.slice S x.locals.length T,.slice O x.body.length Q⟩:YFv)) bx.o aw.o bs.o br.o);have aE:(c++[(⟨x,.slice pa x.params.length U,.slice S x.locals.length T,.slice O x.body.length Q⟩:YFv)]).length=c.length+1:=by simp
      have az:=Za aE;have bJ:(c++[(⟨x,.slice pa x.params.length U,.slice S x.locals.length T,.slice O x.body.length Q⟩:YFv)]).map (·.x)=c.map (·.x)++[x]:=by simp
      have bU:=Za bJ;have aL:Yh (d.length+(c.length+1)≤1000000∧(B.1=false→d.length+(c.length+1)+B.2.length≤1000000)):=by
       have u:=bu.o;have R:=aj.o;exact⟨by omega,fun a=>by have:=R a;omega⟩
      have aT:Yh (1≤g∧(B.1=false→14*B.2.length+16≤g)):=by
       have R:=aj.o;exact⟨by omega,fun a=>by have:=R a;omega⟩
      clear I aA aw an ad ap bx aE bJ bs br;generalize bo.setCell ⟨w.heap.size+1,1,none⟩ (.slice (some ⟨aC,0,none⟩) (c.length+1) aB)=bp at*;go_roundw
      case rel=>exact⟨d,J,K,c++[(⟨x,.slice pa x.params.length U,.slice S x.locals.length T,.slice O x.body.length Q⟩:YFv)],some ⟨aC,0,none⟩,aB,B,g,by rw[bU.o];exact aq.o,aT.o,by rw[az.o];exact aL.o,by rw[az.o];exact ay.o⟩
      case measure=>
       have R:=bv.o;have bc:=aj.o;have h:=ay.o.rs;show Nc p L bp<Nc p L wr
       rw[R];obtain⟨ba,l2⟩:=B
       cases ba with
       |true=>rw[Tb h];omega
       |false=>rw[Lt h];have:=bc rfl;dsimp only at this;omega
 case rest=>
 obtain⟨d,J,K,c,E,F,ae,bC,bl⟩:=hcut;have A:=Za ae;obtain⟨cI,cS⟩:=ar;dsimp only at A bC;subst bC;obtain⟨m,ct⟩:∃m,wc=m:=⟨_,rfl⟩;subst ct;clear ae aU aZ;obtain⟨⟨V,W⟩,X,Y⟩:=Je A.o.x;have Z:=A.o.x.lt;obtain⟨⟨bm,bn⟩,cP,cQ⟩:=Je A.o.own;have cR:=A.o.own.lt;have bR:=Za (A.o.fin (by omega) (by omega));go_wp2_with fail;obtain⟨⟨ca,cb⟩,_⟩:=Je ((A.o.own.set 0 (.slice J d.length K)).set 1 (.slice E c.length F));exact Yk (v:=.agg #[.slice J d.length K,.slice E c.length F]) (by simp [results,results30,go_sem,ca,cb]) rfl (bR.o _ _)
def Ll:Nat→Bs→Bool
 |0,_=>false
 |n+1,l=>if l=[]then false else if(Zc l).1=65533 then true else Ll n (l.drop (Zc l).2)
def Pt:Bs:=[239,191,189]
theorem Ti {l:Bs}{i:Nat}(a:Zi l Pt i=true):(l.getD i 0).toNat=239∧(l.getD (i+1) 0).toNat=191∧(l.getD (i+2) 0).toNat=189∧i+3≤l.length:=by
 unfold Zi at a;obtain⟨t,b⟩:=List.isPrefixOf_iff_prefix.1 a;have c:=congrArg List.length b;rw[Zf,Zp]at c;have d:Pt.length=3:=rfl;have e:∀k,l.getD (i+k) 0=(Pt++t).getD k 0:=fun k=>by
  rw[b,List.getD_eq_getElem?_getD,List.getD_eq_getElem?_getD,Ya]
 refine⟨?_,?_,?_,by omega⟩
 ·have:=e 0;rw[Nat.add_zero]at this;rw[this];rfl
 ·rw[e 1];rfl
 ·rw[e 2];rfl
theorem vI {l:Bs}(a:(l.getD 0 0).toNat=239)(c:(l.getD 1 0).toNat=191)(d:(l.getD 2 0).toNat=189):Zi l Pt 0=true:=by
 have b:∀(x:UInt8) (n:Nat),n<256→x.toNat=n→x=UInt8.ofNat n:=fun x n i h=>by rw[←h];exact UInt8.ofNat_toNat.symm
 match l,a,c,d with
 |[],a,_,_=>exact absurd a (by decide)
 |[_],_,c,_=>exact absurd c (by show ¬(0:UInt8).toNat=191;decide)
 |[_,_],_,_,d=>exact absurd d (by show ¬(0:UInt8).toNat=189;decide)
 |x::y::z::t,a,c,d=>
  have e:=b x 239 (by decide) a;have f:=b y 191 (by decide) c;have g:=b z 189 (by decide) d;subst e f g;rfl
theorem fN(l:Bs)(d i:Nat):Zi (l.drop d) Pt i=Zi l Pt (d+i):=by
 unfold Zi;rw[Zs]
theorem xV:∀(n:Nat) (l:Bs),l.length≤n→Ll n l=false→∀i,Zi l Pt i=false
 |0,l,hl,_,i=>by
  obtain rfl:l=[]:=Yd.1 (by omega)
  cases h:Zi [] Pt i with
  |false=>rfl
  |true=>have:=(Ti h).2.2.2;simp at this
 |n+1,l,hl,h,i=>by
  cases ho:Zi l Pt i with
  |false=>rfl
  |true=>
   exfalso
   obtain⟨k,m,o,p⟩:=Ti ho;have r:l≠[]:=by rintro rfl;simp at p
   unfold Ll at h;rw[if_neg r]at h
   by_cases hr:(Zc l).1=65533
   ·rw[if_pos hr]at h;cases h
   ·rw[if_neg hr]at h
    have g:=Lib.decodeN_shape l.length (l.getD 0 0).toNat (l.getD 1 0).toNat (l.getD 2 0).toNat (l.getD 3 0).toNat;have v:1≤(Zc l).2:=by rw[Zo];exact Lib.decodeN_ge1 _ _ _ _ _
    by_cases hd:(Zc l).2≤i
    ·have:=xV n (l.drop (Zc l).2) (by rw[Zf];omega) h (i-(Zc l).2)
     rw[fN,show(Zc l).2+(i-(Zc l).2)=i by omega,ho]at this
     cases this
    ·rw[Zo]at hr hd
     have q:i=0∨i=1∨i=2∨i=3:=by
      rcases g with⟨_,e⟩|⟨_,_,_,_,e⟩|⟨_,_,_,_,_,_,e⟩|⟨_,_,_,_,_,_,_,e⟩|e<;>(rw[e]at hd;dsimp only at hd;omega)
     rcases g with⟨c,e⟩|⟨a,b,d,f,e⟩|⟨a,b,d,j,f,t,e⟩|⟨a,b,d,j,s,f,u,e⟩|e
     all_goals(rw[e]at hr hd;dsimp only at hr hd;rcases q with rfl|rfl|rfl|rfl<;>first|omega|(simp only[Zr,Nat.reduceAdd]at k m o;omega))
theorem mK:∀(n:Nat) (l:Bs),l.length≤n→Zt n l=true→(∀i,Zi l Pt i=false)→Ll n l=false
 |0,_,_,_,_=>rfl
 |n+1,l,hl,hv,ho=>by
  unfold Ll
  by_cases hne:l=[]
  ·rw[if_pos hne]
  ·rw[if_neg hne]
   unfold Zt at hv;rw[if_neg hne]at hv;have y:1≤(Zc l).2:=by rw[Zo];exact Lib.decodeN_ge1 _ _ _ _ _
   have x:=Zm.2 hne
   by_cases hr:(Zc l).1=65533
   ·exfalso
    by_cases hd:(Zc l).2=1
    ·rw[if_pos ⟨hr,hd⟩]at hv;cases hv
    ·have p:=Lib.decodeN_shape l.length (l.getD 0 0).toNat (l.getD 1 0).toNat (l.getD 2 0).toNat (l.getD 3 0).toNat
     rw[Zo]at hr hd;have a:∀k,(l.getD k 0).toNat<256:=fun k=>UInt8.toNat_lt _
     have q:=a 0;have r:=a 1;have s:=a 2;have t:=a 3;have j:=ho 0;have b:(l.getD 0 0).toNat=239∧(l.getD 1 0).toNat=191∧(l.getD 2 0).toNat=189:=by
      rcases p with⟨c,e⟩|⟨d,f,g,h,e⟩|⟨d,f,g,m,h,v,e⟩|⟨d,f,g,m,u,h,w,e⟩|e
      all_goals(rw[e]at hr hd;dsimp only at hr hd;omega)
     rw[vI b.1 b.2.1 b.2.2]at j
     cases j
   ·rw[if_neg hr]
    rw[if_neg (fun o=>hr o.1)]at hv;exact mK n _ (by rw[Zf];omega) hv (fun i=>by rw[fN];exact ho _)
theorem Uf(l:Bs):Lib.contains l Pt=false↔∀i,Zi l Pt i=false:=by
 unfold Lib.contains;rcases Lib.index_spec l Pt with⟨b,c⟩|⟨i,b,c,d,e⟩
 ·rw[b]
  refine⟨fun _ i=>?_,fun _=>by decide⟩
  by_cases hi:i≤l.length
  ·exact c i hi
  ·cases a:Zi l Pt i with
   |false=>rfl
   |true=>have:=(Ti a).2.2.2;omega
 ·rw[b]
  constructor
  ·intro a;have:=of_decide_eq_false a;omega
  ·intro a;rw[a i]at d;cases d
theorem rep_law{l:Bs}:(Lib.validD l && !Lib.contains l [239,191,189])= !Ll l.length l:=by
 have b:∀(n:Nat) (l:Bs),l.length≤n→Ll n l=false→Zt n l=true:=by
  intro n
  induction n with
  |zero=>intro l _ _;rfl
  |succ n ih=>
   intro l c a;unfold Ll at a;unfold Zt
   by_cases hne:l=[]
   ·rw[if_pos hne]
   ·rw[if_neg hne]at a ⊢
    have d:=Zm.2 hne;have e:1≤(Zc l).2:=by rw[Zo];exact Lib.decodeN_ge1 _ _ _ _ _
    by_cases hr:(Zc l).1=65533
    ·rw[if_pos hr]at a;cases a
    ·rw[if_neg hr]at a
     rw[if_neg (fun a=>hr a.1)];exact ih _ (by rw[Zf];omega) a
 show(Zt l.length l && !Lib.contains l Pt)=_
 cases a:Ll l.length l with
 |false=>rw[b _ l (Zg _) a,(Uf l).2 (xV _ l (Zg _) a)];rfl
 |true=>
  cases hv:Zt l.length l with
  |false=>rfl
  |true=>
   cases hc:Lib.contains l Pt with
   |true=>rfl
   |false=>
    rw[mK _ l (Zg _) hv ((Uf l).1 hc)]at a
    cases a
def Sr(s:Bs):Int ×Nat:=match Oq s with
 |some (_,x,n)=>(n,x.length)
 |none=>(0,0)
def qW(l:Bs):Int ×Nat:=if l=[]then(0,0)else if Ny (Zc l).1=true then(0,0)else if l.drop (Zc l).2=[]then(0,0)
 else if(Zc (l.drop (Zc l).2)).1=39 then(((Zc l).1:Int),(Zc l).2+2)else(0,0)
theorem cQ(l:Bs)(k:Nat):Utf8.decode (Aa l) k=Zc (l.drop k):=(Lib.decodeL_drop (Aa l) k).symm
theorem Sv {l:Bs}(a:l≠[]):Lib.decodeGo (Aa l)=Zc l:=by
 have b:(Aa l).size=l.length:=by show l.toArray.size=_;simp
 have:=Zm.2 a;unfold Lib.decodeGo;rw[if_neg (by omega),cQ];rfl
theorem tV {l:Bs}(h:l≠[]):(Zc l).1=39↔Zj l [39]=true:=by
 rw[Zo]
 cases l with
 |nil=>exact absurd rfl h
 |cons c r=>
  have e:Zj (c::r) [39]=((39:UInt8)==c):=by
   show((39:UInt8)==c && List.isPrefixOf [] r)=_
   cases r<;>simp [List.isPrefixOf]
  rw[e,beq_iff_eq];have i:((c::r).getD 0 0).toNat=c.toNat:=rfl;rw[i];have j:(39:UInt8)=c↔c.toNat=39:=by rw[←UInt8.toNat_inj];show(39:Nat)=_↔_;omega
  rw[j];rcases Lib.decodeN_shape (c::r).length c.toNat ((c::r).getD 1 0).toNat ((c::r).getD 2 0).toNat ((c::r).getD 3 0).toNat with⟨a,e⟩|⟨a,b,d,f,e⟩|⟨a,b,d,g,f,m,e⟩|⟨a,b,d,g,k,f,n,e⟩|e
  ·rw[e]
  ·rw[e];dsimp only;omega
  ·rw[e];dsimp only;omega
  ·rw[e];dsimp only;omega
  ·rw[e];dsimp only
   constructor
   ·omega
   ·intro o
    exfalso
    have:=Lib.decodeN_ascii (c::r).length c.toNat ((c::r).getD 1 0).toNat ((c::r).getD 2 0).toNat ((c::r).getD 3 0).toNat (by omega);rw[e]at this;injection this with p q
    omega
theorem mB(l:Bs):1≤(Zc l).2:=by rw[Zo];exact Lib.decodeN_ge1 _ _ _ _ _
theorem quo_law {s:Bs}(c:s≠[]):Sr s=qW (s.drop 1):=by
 have f:1≤s.length:=Zm.2 c;unfold Sr Oq qW
 by_cases hl:s.drop 1=[]
 ·rw[if_pos hl,hl]
  rfl
 ·rw[if_neg hl,Sv hl]
  have e:=Lib.decodeL_le _ hl;rw[Zf]at e;generalize i:(Zc (s.drop 1)).1=b at*;generalize g:(Zc (s.drop 1)).2=d at*
  by_cases hb:Ny b=true
  ·rw[if_pos hb,if_pos hb]
  ·rw[if_neg hb,if_neg hb,Zs]
   by_cases hq:s.drop (1+d)=[]
   ·rw[if_pos hq,hq];rfl
   ·rw[if_neg hq]
    have h:1+d<s.length:=by
     rcases Nat.lt_or_ge (1+d) s.length with a|a
     ·exact a
     ·exact absurd (List.drop_eq_nil_of_le a) hq
    by_cases h9:(Zc (s.drop (1+d))).1=39
    ·rw[if_pos h9,if_pos ((tV hq).1 h9)]
     show((b:Int),(s.take (d+2)).length)=_
     rw[List.length_take,Nat.min_eq_left (by omega)]
    ·rw[if_neg h9,if_neg (fun a=>h9 ((tV hq).2 a))]
theorem sN(s:Bs)(H:s≠[])(U:s.length≤1000000)(w:Yg):
  Yl Zd 112 #[.string (Aa s)] w fun e w'=>e=.returned (.tuple #[.int .i64 (Sr s).1,.int .i64 ((Sr s).2:Int)])∧Yj w.heap.size w w':=by
 rw[quo_law H];have I:1≤s.length:=Zm.2 H;have N:=Za (Nl s 1);have ar:(1:Int)≤(s.length:Int):=by omega
 have L:(s.drop 1).length+1=s.length:=by rw[Zf];omega
 obtain⟨l,R⟩:∃l,s.drop 1=l:=⟨_,rfl⟩;rw[R]at L N ⊢;have S:(Aa l).size=l.length:=by show l.toArray.size=_;simp
 obtain⟨B,Z,ac⟩:=Y3 S L U;have Q:∀k,Yj w.heap.size w (w.iter (Aa l) k):=fun k=>bA
 have r:=Za Q;obtain⟨u,J⟩:∃u,qW l=u:=⟨_,rfl⟩;rw[J];have F:=Za J;clear R S L U I H J Q;go_enter func112,ntmps112;go_upto_region 2 with(fail);have ah:=N.o _ rfl;go_wp2_with fail;clear ah
 go_loopw [4,5,6] (fun a b c wr=> ∃pos:Nat,wr=w.iter (Aa l) pos∧((a= ι 0∧pos=0)∨(l≠[]∧Ny (Zc l).1=false∧a= ι ((Zc l).1:Int)∧pos=(Zc l).2))) (fun _ _ _ wr=>l.length-wr.iterPos w.heap.size)
 case atStart=>exact⟨0,rfl,.inl ⟨rfl,rfl⟩⟩
 case round=>
  obtain⟨pos,rfl,⟨rfl,rfl⟩|⟨h,D,rfl,rfl⟩⟩:=hrel
  ·by_cases h:l=[]
   ·have j:¬0<(Aa l).size:=by rw[B.o,h];simp
    have z:=fun x=>run_next_end (P:=Zd) w (Aa l) 0 x j
    have q:Yh (u=(0,0)):=by
     have:=F.o;unfold qW at this;rw[if_pos h]at this;exact this.symm
    have y:=Za (r.o 0);clear h j r;go_wp2;exact Yk (results_tmp2 rfl _ _ _) rfl ⟨by rw[q.o];rfl,y.o⟩
   ·have j:0<(Aa l).size:=by rw[B.o];exact Zm.2 h
    have z:=fun x=>run_next_any (P:=Zd) w (Aa l) 0 x j
    rw[cQ,List.drop_zero,Zr]at z;have t:=Lib.decodeL_le _ h;have K:=mB l;have v:(Zc l).1≤2147483647:=by have:=Jl l;rw[Sv h]at this;exact this
    have A:=Za (show ∀f d,(Zc l).1=f→(Zc l).2=d→Ny f=true→u=(0,0)from fun f d I al ae=>by
     have:=F.o;unfold qW at this;rw[if_neg h,I,if_pos ae]at this;exact this.symm)
    obtain⟨f,p⟩:∃f,(Zc l).1=f:=⟨_,rfl⟩;obtain⟨d,n⟩:∃d,(Zc l).2=d:=⟨_,rfl⟩;have A:=Za (A.o f d p n);rw[p,n]at z;rw[p]at v;rw[n]at t K;obtain⟨M,X,ab,Y,W⟩:=Y5 p n h t K;have ai:(f:Int)≤2147483647:=by omega
    have aj:(0:Int)≤(f:Int):=by omega
    have aq:IntKind.i64.wrap (f:Int)=(f:Int):=Zv _ (by omega);have m:Ny f=true↔f<32∨f=39∨f=92∨f=65533:=by unfold Ny;exact decide_eq_true_iff
    have V:=Za (r.o d);clear p n h t K v j
    by_cases hb:Ny f=true
    ·have q:=Za (A.o hb)
     have ag:((f:Int)==39)=true∨(((f:Int)==39)=false∧((f:Int)==92)=true)∨(((f:Int)==39)=false∧((f:Int)==92)=false∧(f:Int)<32)∨(((f:Int)==39)=false∧((f:Int)==92)=false∧¬(f:Int)<32∧((f:Int)==65533)=true):=by
      simp only[beq_iff_eq,beq_eq_false_iff_ne];rcases m.1 hb with i|i|i|i<;>omega
     clear hb m A;rcases ag with C|⟨C,G⟩|⟨C,G,O⟩|⟨C,G,O,ad⟩
     all_goals
      go_wp2;exact Yk (results_tmp2 rfl _ _ _) rfl ⟨by rw[q.o];rfl,V.o⟩
    ·have O:¬(f:Int)<32:=fun i=>hb (m.2 (.inl (by omega)))
     have C:((f:Int)==39)=false:=by rw[beq_eq_false_iff_ne];exact fun i=>hb (m.2 (.inr (.inl (by omega))))
     have G:((f:Int)==92)=false:=by rw[beq_eq_false_iff_ne];exact fun i=>hb (m.2 (.inr (.inr (.inl (by omega)))))
     have ad:((f:Int)==65533)=false:=by rw[beq_eq_false_iff_ne];exact fun i=>hb (m.2 (.inr (.inr (.inr (by omega)))))
     have aa:Yh (Ny f=false):=by show _=_;simpa using hb
     clear hb m A;go_wp2;go_roundw
     case rel=>exact⟨d,rfl,.inr ⟨ab.o,by rw[M.o];exact aa.o,by rw[M.o],X.o.symm⟩⟩
     case measure=>rw[Yb,Yb];have:=Y.o;have:=W.o;omega
  ·have g:=F.o
   unfold qW at g;rw[if_neg h,if_neg (by rw[D];decide)]at g;have t:=Lib.decodeL_le _ h;have v:(Zc l).1≤2147483647:=by have:=Jl l;rw[Sv h]at this;exact this
   obtain⟨f,p⟩:∃f,(Zc l).1=f:=⟨_,rfl⟩;obtain⟨d,n⟩:∃d,(Zc l).2=d:=⟨_,rfl⟩;rw[p]at g D v ⊢;rw[n]at g t ⊢;have m:Ny f=true↔f<32∨f=39∨f=92∨f=65533:=by unfold Ny;exact decide_eq_true_iff
   have ai:(f:Int)≤2147483647:=by omega
   have aj:((f:Int)==0)=false:=by
    rw[beq_eq_false_iff_ne];intro i;have:=m.2 (.inl (by omega));rw[D]at this;cases this
   clear m D h
   by_cases hq:l.drop d=[]
   ·rw[if_pos hq]at g
    have j:¬d<(Aa l).size:=by
     rw[B.o];intro i;have:=congrArg List.length hq;rw[Zf,List.length_nil]at this;omega
    have z:=fun x=>run_next_end (P:=Zd) w (Aa l) d x j
    have q:Yh (u=(0,0)):=g.symm;have y:=Za (r.o d);clear hq j r g p n t v;go_wp2;exact Yk (results_tmp2 rfl _ _ _) rfl ⟨by rw[q.o];rfl,y.o⟩
   ·rw[if_neg hq]at g
    have j:d<(Aa l).size:=by
     rw[B.o];rcases Nat.lt_or_ge d l.length with i|i
     ·exact i
     ·exact absurd (List.drop_eq_nil_of_le i) hq
    have z:=fun x=>run_next_any (P:=Zd) w (Aa l) d x j
    rw[cQ]at z;have T:(Zc (l.drop d)).1≤2147483647:=by have:=Jl (l.drop d);rw[Sv hq]at this;exact this
    have y:=Za (r.o (d+(Zc (l.drop d)).2));generalize (Zc (l.drop d)).1=E at*;generalize (Zc (l.drop d)).2=ak at*;have ao:(d:Int)≤1000000:=by have:=ac.o;have:=Z.o;omega
    have ap:IntKind.i64.wrap ((d:Int)+2)=(d:Int)+2:=Zv _ (by omega)
    by_cases h9:E=39
    ·rw[if_pos h9]at g
     have q:Yh (u=((f:Int),d+2)):=g.symm;subst h9;clear g p n t v T hq j r;go_wp2;exact Yk (results_tmp2 rfl _ _ _) rfl ⟨by rw[q.o];rfl,y.o⟩
    ·rw[if_neg h9]at g
     have q:Yh (u=(0,0)):=g.symm;have am:((E:Int)==39)=false:=by rw[beq_eq_false_iff_ne];omega
     have af:¬(E:Int)=39:=by omega
     have an:((E:Int) !=39)=true:=by rw[bne_iff_ne];exact af
     clear g p n t v T hq j r h9;go_wp2;exact Yk (results_tmp2 rfl _ _ _) rfl ⟨by rw[q.o];rfl,y.o⟩
def Hv:Nat→Bs→Nat ×Bool
 |0,_=>(0,true)
 |_+1,[]=>(0,true)
 |n+1,c::r=>if Bf c=true then(1+(Hv n r).1,(Hv n r).2)
  else if Zj (c::r) [47,47]=true then
   (if Ll (By (c::r)).length (By (c::r))=true then(0,false)else((By (c::r)).length+(Hv n ((c::r).drop (By (c::r)).length)).1,(Hv n ((c::r).drop (By (c::r)).length)).2))
  else(0,true)
theorem kC(s:Bs):Cr (By s)=0:=by
 rw[Oj];unfold Cr;rw[List.count_eq_zero];intro a;exact absurd ((It (fun c=>c !=10) s).2.1 10 a) (by decide)
theorem Lq(a b:Bs):Cr (a++b)=Cr a+Cr b:=List.count_append
theorem Wd(s:Bs):s=By s++s.drop (By s).length:=by rw[Oj];exact Kr _ s
theorem dB:∀(n:Nat) (l:Bs),l.length<n→∀f,l.length<f→(Dc f l).1=l.drop (Hv n l).1∧(Dc f l).2.1=Cr (l.take (Hv n l).1)∧(Dc f l).2.2=(Hv n l).2∧(Hv n l).1≤l.length
 |0,_,h,_,_=>absurd h (Nat.not_lt_zero _)
 |n+1,[],_,f,hf=>by
  obtain⟨f,rfl⟩:∃k,f=k+1:=⟨f-1,by simp at hf;omega⟩;exact⟨rfl,rfl,rfl,Zg _⟩
 |n+1,c::r,hn,f,hf=>by
  obtain⟨f,rfl⟩:∃k,f=k+1:=⟨f-1,by simp at hf;omega⟩;rw[Yc]at hn hf
  by_cases hb:Bf c=true
  ·obtain⟨g,i,j,m⟩:=dB n r (by omega) (f+1) (by omega)
   have e:Hv (n+1) (c::r)=(1+(Hv n r).1,(Hv n r).2):=by
    show(if Bf c=true then _ else _)=_
    rw[if_pos hb]
   have b:(c::r).dropWhile Bf=r.dropWhile Bf:=by rw[List.dropWhile_cons,if_pos hb]
   have d:(c::r).takeWhile Bf=c::r.takeWhile Bf:=by rw[List.takeWhile_cons,if_pos hb]
   have a:Dc (f+1) (c::r)=((Dc (f+1) r).1,Cr [c]+(Dc (f+1) r).2.1,(Dc (f+1) r).2.2):=by
    unfold Dc;rw[b,d,show c::r.takeWhile Bf=[c]++r.takeWhile Bf from rfl,Lq];split
    ·split
     ·simp only[Nat.add_assoc]
     ·rfl
    ·rfl
   rw[e,a];dsimp only;rw[Nat.add_comm 1,List.drop_succ_cons,List.take_succ_cons,show c::r.take (Hv n r).1=[c]++r.take (Hv n r).1 from rfl,Lq,Yc];exact⟨g,by rw[i],j,by omega⟩
  ·have b:(c::r).dropWhile Bf=c::r:=by rw[List.dropWhile_cons,if_neg hb]
   have d:(c::r).takeWhile Bf=[]:=by rw[List.takeWhile_cons,if_neg hb]
   by_cases hp:Zj (c::r) [47,47]=true
   ·have u:=eG hp
    have o:bS (c::r)= !Ll (By (c::r)).length (By (c::r)):=rep_law;have v:(By (c::r)).length≤(c::r).length:=Uz _;have t:=Wd (c::r);have q:=kC (c::r)
    by_cases hr:Ll (By (c::r)).length (By (c::r))=true
    ·have e:Hv (n+1) (c::r)=(0,false):=by
      show(if Bf c=true then _ else if _ then(if _ then _ else _)else _)=_
      rw[if_neg hb,if_pos hp,if_pos hr]
     have a:Dc (f+1) (c::r)=(c::r,0,false):=by
      unfold Dc;rw[b,d,if_pos hp,o,hr];rfl
     rw[e,a];exact⟨rfl,rfl,rfl,Zk _⟩
    ·have s:Ll (By (c::r)).length (By (c::r))=false:=by simpa using hr
     obtain⟨g,i,j,m⟩:=dB n ((c::r).drop (By (c::r)).length) (by rw[Zf,Yc];omega) f (by rw[Zf,Yc];omega);have e:Hv (n+1) (c::r)=((By (c::r)).length+(Hv n ((c::r).drop (By (c::r)).length)).1,(Hv n ((c::r).drop (By (c::r)).length)).2):=by
      show(if Bf c=true then _ else if _ then(if _ then _ else _)else _)=_
      rw[if_neg hb,if_pos hp,if_neg hr]
     have a:Dc (f+1) (c::r)=((Dc f ((c::r).drop (By (c::r)).length)).1,0+(Dc f ((c::r).drop (By (c::r)).length)).2.1,(Dc f ((c::r).drop (By (c::r)).length)).2.2):=by
      rw[Dc,b,d,if_pos hp,o,s];rfl
     rw[e,a];dsimp only;generalize (Hv n ((c::r).drop (By (c::r)).length)).1=k at*;rw[Zf]at m;refine⟨by rw[g,Zs],?_,j,by omega⟩;rw[i,Zr];have p:(c::r).take ((By (c::r)).length+k)=By (c::r)++((c::r).drop (By (c::r)).length).take k:=by
      rw[List.take_add];congr 1
      have:=congrArg (List.take (By (c::r)).length) t;rw[List.take_left]at this;exact this
     rw[p,Lq,q,Zr]
   ·have e:Hv (n+1) (c::r)=(0,true):=by
     show(if Bf c=true then _ else if _ then(if _ then _ else _)else _)=_
     rw[if_neg hb,if_neg hp]
    have a:Dc (f+1) (c::r)=(c::r,0,true):=by
     unfold Dc;rw[b,d,if_neg hp];rfl
    rw[e,a];exact⟨rfl,rfl,rfl,Zk _⟩
def Xs:Nat→Bs→Int
 |n,[]=>n
 |n,c::r=>if(9223372036854775807-(c.toNat-48)) / 10<n then -1 else Xs (10*n+(c.toNat-48)) r
def Gv(w:Bs):Int:=if 19<w.length∨(1<w.length∧w.head?=some 48)then -1 else Xs 0 w
def Iz:Nat→Bs→Nat
 |n,[]=>n
 |n,c::r=>Iz (10*n+(c.toNat-48)) r
theorem Ng {c:UInt8}(a:Ax c=true):48≤c.toNat∧c.toNat≤57:=by
 unfold Ax at a;rw[Zw]at a;have b:=of_decide_eq_true a.1;have d:=of_decide_eq_true a.2;exact⟨b,d⟩
theorem cM:∀(l:Bs) (n:Nat),n≤Iz n l
 |[],n=>Zg _
 |c::r,n=>by
  have:=cM r (10*n+(c.toNat-48));show n≤Iz (10*n+(c.toNat-48)) r
  omega
theorem mU:∀(l:Bs) (n:Nat),(∀c,c∈l→Ax c=true)→n≤9223372036854775807→Xs n l=if Iz n l≤9223372036854775807 then(Iz n l:Int)else -1
 |[],n,_,h=>by
  show(n:Int)=if n≤_ then(n:Int)else -1
  rw[if_pos h]
 |c::r,n,hd,h=>by
  have a:=Ng (hd c Zx);show(if(9223372036854775807-(c.toNat-48)) / 10<n then(-1:Int)else Xs (10*n+(c.toNat-48)) r)=if Iz (10*n+(c.toNat-48)) r≤9223372036854775807 then(Iz (10*n+(c.toNat-48)) r:Int)else -1
  by_cases h1:(9223372036854775807-(c.toNat-48)) / 10<n
  ·have:=cM r (10*n+(c.toNat-48))
   rw[if_pos h1,if_neg (by omega)]
  ·rw[if_neg h1]
   exact mU r _ (fun x hx=>hd x (List.mem_cons_of_mem _ hx)) (by omega)
theorem yA:∀(l:Bs) (n:Nat),(∀c,c∈l→Ax c=true)→n<18446744073709551616→Lib.parseUint10 n l=if Iz n l<18446744073709551616 then .ok (Iz n l)else .range
 |[],n,_,h=>by
  show Lib.NumEnd.ok n=if n<_ then Lib.NumEnd.ok n else _
  rw[if_pos h]
 |c::r,n,hd,h=>by
  have a:=Ng (hd c Zx);have b:=cM r (10*n+(c.toNat-48));show(if 48≤c.toNat∧c.toNat≤57 then(if 1844674407370955162≤n then Lib.NumEnd.range else if 18446744073709551616≤n*10+(c.toNat-48)then .range else Lib.parseUint10 (n*10+(c.toNat-48)) r)else _)=if Iz (10*n+(c.toNat-48)) r<18446744073709551616 then .ok (Iz (10*n+(c.toNat-48)) r)else .range
  rw[if_pos a]
  by_cases h1:1844674407370955162≤n
  ·rw[if_pos h1,if_neg (by omega)]
  ·rw[if_neg h1]
   by_cases h2:18446744073709551616≤n*10+(c.toNat-48)
   ·rw[if_pos h2,if_neg (by omega)]
   ·rw[if_neg h2,show n*10+(c.toNat-48)=10*n+(c.toNat-48)by omega]
    exact yA r _ (fun x hx=>hd x (List.mem_cons_of_mem _ hx)) (by omega)
theorem bE:∀(l:Bs) (n:Nat) (c:UInt8),Iz n (l++[c])=10*Iz n l+(c.toNat-48)
 |[],n,c=>rfl
 |a::l,n,c=>bE l _ c
theorem gG:∀(l:Bs) (n:Nat),n*10 ^ l.length≤Iz n l
 |[],n=>by show n*10 ^ 0≤n;omega
 |c::r,n=>by
  have:=gG r (10*n+(c.toNat-48));show n*10 ^ (r.length+1)≤Iz (10*n+(c.toNat-48)) r
  have a:10*n*10 ^ r.length≤(10*n+(c.toNat-48))*10 ^ r.length:=Nat.mul_le_mul_right _ (by omega);rw[Nat.pow_succ,show n*(10 ^ r.length*10)=10*n*10 ^ r.length by rw[Nat.mul_comm (10 ^ r.length) 10,←Nat.mul_assoc,Nat.mul_comm n 10]];omega
def cP(w:Bs):Prop:=w≠[]∧(∀c,c∈w→Ax c=true)∧(1<w.length→w.head?≠some 48)
theorem eQ {c:UInt8}(a:Ax c=true):UInt8.ofNat (48+(c.toNat-48))=c:=by
 have:=Ng a;rw[show 48+(c.toNat-48)=c.toNat by omega];exact UInt8.ofNat_toNat
theorem Vr {w:Bs}(a:cP w)(d:w.head?≠some 48):10 ^ (w.length-1)≤Iz 0 w:=by
 obtain⟨b,f,_⟩:=a
 cases w with
 |nil=>exact absurd rfl b
 |cons c r=>
  have h:=Ng (f c Zx);have i:c.toNat≠48:=fun e=>d (by show some c=some 48;congr 1;exact UInt8.toNat_inj.1 e)
  have g:=gG r (10*0+(c.toNat-48));show 10 ^ (r.length+1-1)≤Iz (10*0+(c.toNat-48)) r
  rw[Nat.add_sub_cancel];have:1*10 ^ r.length≤(10*0+(c.toNat-48))*10 ^ r.length:=Nat.mul_le_mul_right _ (by omega);omega
theorem Xu:∀(k:Nat) (w:Bs),w.length=k→cP w→Zn (Iz 0 w)=w:=by
 intro k
 induction k with
 |zero=>intro w d b;exact absurd (Yd.1 d) b.1
 |succ k ih=>
  intro w d b;rcases List.eq_nil_or_concat w with rfl|⟨l,c,rfl⟩
  ·exact absurd rfl b.1
  ·rw[List.concat_eq_append]at b d ⊢
   have e:Ax c=true:=b.2.1 c (by simp);have j:=Ng e;rw[bE];rw[Zp,List.length_singleton]at d
   by_cases hn:l=[]
   ·subst hn
    rw[Zn,dif_pos (by show 10*0+(c.toNat-48)<10;omega)];show [UInt8.ofNat (48+(10*0+(c.toNat-48)))]=[]++[c]
    rw[Nat.mul_zero,Zr,eQ e];rfl
   ·obtain⟨a,t,rfl⟩:∃a t,l=a::t:=by cases l with
     |nil=>exact absurd rfl hn
     |cons a t=>exact⟨a,t,rfl⟩
    have g:(a::t).head?≠some 48:=by
     have:=b.2.2 (by simp);simpa using this
    have f:cP (a::t):=⟨hn,fun x hx=>b.2.1 x (List.mem_append_left _ hx),fun _=>g⟩;have h:=Vr f g;have i:0<10 ^ ((a::t).length-1):=Nat.pow_pos (by decide);rw[Zn,dif_neg (by omega)];rw[show(10*Iz 0 (a::t)+(c.toNat-48)) / 10=Iz 0 (a::t)by omega,show(10*Iz 0 (a::t)+(c.toNat-48)) % 10=c.toNat-48 by omega,ih _ (by omega) f,eQ e]
theorem fO(u:Nat):1<(Zn u).length→(Zn u).head?≠some 48:=by
 induction u using Nat.strongRecOn with
 |_ u ih=>
  intro d;rw[Zn]at d ⊢
  by_cases c:u<10
  ·rw[dif_pos c]at d;simp at d
  ·rw[dif_neg c]at d ⊢
   have h:=aD (u / 10);have g:∀(a b:Bs),a≠[]→(a++b).head?=a.head?:=fun a b c=>by cases a with
    |nil=>exact absurd rfl c
    |cons x a=>rfl
   rw[g _ _ h]
   by_cases h2:u / 10<10
   ·rw[Zn,dif_pos h2]
    show some _≠some _
    intro e;have e:=Option.some.inj e;have f:(UInt8.ofNat (48+u / 10)).toNat=48:=by rw[e];rfl
    rw[UInt8.toNat_ofNat',Nat.mod_eq_of_lt (by omega)]at f;omega
   ·refine ih (u / 10) (by omega) ?_
    rw[Zn,dif_neg h2,Zp,List.length_singleton];have:=Zm.2 (aD (u / 10 / 10));omega
theorem num_law(w:Bs)(i:w≠[])(f:∀c,c∈w→Ax c=true):
  (match Lib.atoiAll w with
   |.ok n=>if Lib.itoa n=w then some n else none
   |_=>none)=if 0≤Gv w then some (Gv w)else none:=by
 have k:Lib.atoiAll w=if Iz 0 w<9223372036854775808 then .ok (Iz 0 w:Int)else .range:=by
  have o:=yA w 0 f (by decide)
  cases w with
  |nil=>exact absurd rfl i
  |cons c r=>
   have q:=Ng (f c Zx);unfold Lib.atoiAll;dsimp only;rw[if_neg (by omega)];unfold Lib.parseMag;rw[if_neg (by simp),o]
   by_cases a:Iz 0 (c::r)<9223372036854775808
   ·rw[if_pos (show Iz 0 (c::r)<18446744073709551616 by omega),if_pos a]
    dsimp only;rw[if_neg (by omega),if_neg (by omega),if_neg (by omega)]
   ·rw[if_neg a]
    by_cases d:Iz 0 (c::r)<18446744073709551616
    ·rw[if_pos d]
     dsimp only;rw[if_pos (by omega)]
    ·rw[if_neg d]
 have l:=mU w 0 f (by decide);have h:(19<w.length∨(1<w.length∧w.head?=some 48))→Gv w= -1:=fun b=>if_pos b
 have j:¬(19<w.length∨(1<w.length∧w.head?=some 48))→Gv w=Xs 0 w:=fun b=>if_neg b
 have neg:¬(0:Int)≤ -1:=by decide
 rw[k]
 by_cases hz:1<w.length∧w.head?=some 48
 ·rw[h (.inr hz),if_neg neg]
  by_cases a:Iz 0 w<9223372036854775808
  ·rw[if_pos a]
   dsimp only;rw[if_neg];rw[Lib.itoa_nonneg];intro e;have:=fO (Iz 0 w);rw[e]at this;exact this hz.1 hz.2
  ·rw[if_neg a]
 ·have g:cP w:=⟨i,f,fun a d=>hz ⟨a,d⟩⟩
  have m:=Xu _ w rfl g
  by_cases hl:19<w.length
  ·rw[h (.inl hl),if_neg neg]
   have p:=Vr g (g.2.2 (by omega));have:10 ^ 19≤10 ^ (w.length-1):=Nat.pow_le_pow_right (by decide) (by omega);rw[if_neg (by omega)]
  ·rw[j (by rintro(b|b);exact hl b;exact hz b),l]
   by_cases a:Iz 0 w<9223372036854775808
   ·rw[if_pos a,if_pos (show Iz 0 w≤9223372036854775807 by omega)]
    dsimp only;rw[Lib.itoa_nonneg,if_pos m,if_pos (by omega)]
   ·rw[if_neg a,if_neg (show ¬Iz 0 w≤9223372036854775807 by omega),if_neg neg]
theorem aU(n:Nat)(c:UInt8)(a:Bs):Xs n (c::a)=if(9223372036854775807-(c.toNat-48)) / 10<n then -1 else Xs (10*n+(c.toNat-48)) a:=rfl
theorem nA(l:Bs)(k:Nat)(a:k<l.length):l.drop k=l[k]::l.drop (k+1):=List.drop_eq_getElem_cons a
theorem vU(l:Bs)(v:∀c,c∈l→Ax c=true)(w:Yg):
  Yl Zd 111 #[.string (Aa l)] w fun e w'=>e=.returned (.int .i64 (Gv l))∧w'=w:=by
 have L:(Aa l).size=l.length:=by show l.toArray.size=_;simp
 by_cases h1:19<l.length
 ·have A:(19:Int)<(l.length:Int):=by omega
  have g:Yh (Gv l= -1):=if_pos (.inl h1);go_enter func111,ntmps111;go_wp2;go_ret
  exact⟨by rw[g.o];rfl,rfl⟩
 ·have A:¬(19:Int)<(l.length:Int):=by omega
  go_enter func111,ntmps111;go_upto_region 1 with(fail);go_cut [18]from 6 to 18 (fun q G=> ∃b:Bool,q=.bool b∧G=w∧(b=true↔(1<l.length∧l.head?=some 48)))
  case first=>
   by_cases h2:1<l.length
   ·have B:(1:Int)<(l.length:Int):=by omega
    have E:0<l.length:=by omega
    have D:∀d,(Aa l)[0]'d=l[0]:=fun _=>rfl
    have i:l.head?=some l[0]:=by cases l with
     |nil=>simp at E
     |cons c r=>rfl
    by_cases h48:l[0]=48
    ·obtain⟨m,s⟩:=Y2 i h48
     clear i;go_wp2;go_meet;exact⟨_,rfl,rfl,⟨fun _=>⟨h2,by rw[m.o,s.o]⟩,fun _=>by simp [s.o]⟩⟩
    ·have C:l[0].toNat≠48:=fun e=>h48 (UInt8.toNat_inj.1 e)
     have m:=Za i;clear i;go_wp2;go_meet;exact⟨_,rfl,rfl,⟨fun d=>by exfalso;revert d;simp [h48,C];try omega,fun d=>absurd (by have:=d.2;rw[m.o]at this;exact Option.some.inj this) h48⟩⟩
   ·have B:¬(1:Int)<(l.length:Int):=by omega
    go_wp2;go_meet;exact⟨_,rfl,rfl,⟨fun d=>(by cases d),fun d=>absurd d.1 h2⟩⟩
  case rest=>
  obtain⟨b,rfl,rfl,h⟩:=hcut
  cases b with
  |true=>
   have g:Yh (Gv l= -1):=if_pos (.inr (h.1 rfl));clear h;go_wp2;go_ret
   exact⟨by rw[g.o];rfl,rfl⟩
  |false=>
  have x:¬(1<l.length∧l.head?=some 48):=fun d=>by have:=h.2 d;cases this
  clear h;have g:Yh (Gv l=Xs 0 l):=if_neg (by rintro(d|d);exact h1 d;exact x d);have y:=Za v;clear x v;go_wp2
  go_loopw [3,4,5] (fun a b _ wr=> ∃(n k:Nat),a= ι (n:Int)∧b= ι (k:Int)∧k≤l.length∧n≤9223372036854775807∧Xs n (l.drop k)=Gv l∧wr=wc) (fun _ b _ _=>l.length-(intOf b).toNat)
  case atStart=>exact⟨0,0,rfl,rfl,Zk _,Zk _,g.o.symm,rfl⟩
  case round=>
   obtain⟨n,k,rfl,rfl,H,K,u,rfl⟩:=hrel;have j:=Za u;clear u
   by_cases hlt:k<l.length
   ·have I:(k:Int)<(l.length:Int):=by omega
    have J:(0:Int)≤(k:Int):=by omega
    have D:∀d,(Aa l)[k]'d=l[k]:=fun _=>rfl
    have M:=Ng (y.o l[k] (List.getElem_mem hlt));have t:=Za (nA l k hlt)
    by_cases f:(9223372036854775807-(l[k].toNat-48)) / 10<n
    ·have F:((9223372036854775807:Int)-((l[k].toNat:Int)-48)) / 10<(n:Int):=by omega
     have p:Yh (Gv l= -1):=by
      have d:=j.o;rw[t.o,aU,if_pos f]at d;exact d.symm
     clear f;go_wp2;go_ret
     exact⟨by rw[p.o];rfl,rfl⟩
    ·have F:(n:Int)≤((9223372036854775807:Int)-((l[k].toNat:Int)-48)) / 10:=by omega
     have p:Yh (Xs (10*n+(l[k].toNat-48)) (l.drop (k+1))=Gv l):=by
      have d:=j.o;rw[t.o,aU,if_neg f]at d;exact d
     have z:=Za f;clear f;go_wp2_with fail;have f:=z.o;refine⟨⟨10*n+(l[k].toNat-48),k+1,?_,?_,by omega,by omega,p.o,trivial⟩,?_⟩
     ·congr 1;omega
     ·congr 1
     ·simp [intOf];omega
   ·obtain rfl:k=l.length:=by omega
    go_wp2;go_ret
    exact⟨by have:=j.o;rw[List.drop_length]at this;rw[←this];rfl,rfl⟩
theorem qF {n:Nat}{c:UInt8}{a:Bs}(b:Bf c=true):Hv (n+1) (c::a)=(1+(Hv n a).1,(Hv n a).2):=by
 show(if Bf c=true then _ else _)=_
 rw[if_pos b]
theorem spc_no {n:Nat}{c:UInt8}{a:Bs}(b:Bf c=false)(d:Zj (c::a) [47,47]=false):Hv (n+1) (c::a)=(0,true):=by
 show(if Bf c=true then _ else if _ then(if _ then _ else _)else _)=_
 rw[if_neg (by rw[b];decide),if_neg (by rw[d];decide)]
theorem spc_bad {n:Nat}{c:UInt8}{a:Bs}(b:Bf c=false)(e:Zj (c::a) [47,47]=true)(d:Ll (By (c::a)).length (By (c::a))=true):Hv (n+1) (c::a)=(0,false):=by
 show(if Bf c=true then _ else if _ then(if _ then _ else _)else _)=_
 rw[if_neg (by rw[b];decide),if_pos e,if_pos d]
theorem sT {n:Nat}{c:UInt8}{a:Bs}(b:Bf c=false)(e:Zj (c::a) [47,47]=true)(d:Ll (By (c::a)).length (By (c::a))=false):Hv (n+1) (c::a)=((By (c::a)).length+(Hv n ((c::a).drop (By (c::a)).length)).1,(Hv n ((c::a).drop (By (c::a)).length)).2):=by
 show(if Bf c=true then _ else if _ then(if _ then _ else _)else _)=_
 rw[if_neg (by rw[b];decide),if_pos e,if_neg (by rw[d];decide)]
theorem fY(s:Bs)(j:Nat):Zj (s.drop j) [47,47]=true↔s[j]? =some 47∧s[j+1]? =some 47:=by
 have e:s[j]? =(s.drop j)[0]? :=by rw[Ya];rfl
 have c:s[j+1]? =(s.drop j)[1]? :=by rw[Ya]
 rw[e,c]
 match s.drop j with
 |[]=>simp [Zj]
 |[a]=>simp [Zj]
 |a::b::t=>
  simp [Zj];constructor
  ·rintro⟨c,d⟩;exact⟨c.symm,d.symm⟩
  ·rintro⟨c,d⟩;exact⟨c.symm,d.symm⟩
theorem comm_at(s:Bs)(j q:Nat):(q<(By (s.drop j)).length→∃d,s[j+q]? =some d∧d≠10)∧(q=(By (s.drop j)).length→j+q<s.length→s[j+q]? =some 10):=by
 have n:s[j+q]? =(s.drop j)[q]? :=by rw[Ya]
 rw[n,Oj];obtain⟨f,g,h⟩:=It (fun c=>c !=10) (s.drop j);obtain⟨a,i⟩:∃a,(s.drop j).takeWhile (fun c=>c !=10)=a:=⟨_,rfl⟩;obtain⟨b,k⟩:∃b,(s.drop j).dropWhile (fun c=>c !=10)=b:=⟨_,rfl⟩;rw[i,k]at f;rw[i]at g ⊢;rw[k]at h;have l:(s.drop j).length=a.length+b.length:=by rw[f,Zp]
 rw[Zf]at l;constructor
 ·intro e
  refine⟨a[q],?_,?_⟩
  ·rw[f,List.getElem?_append_left e,Ye e]
  ·have:=g a[q] (List.getElem_mem e)
   simpa using this
 ·intro e o
  subst e;rw[f,List.getElem?_append_right (Zg _),Nat.sub_self];rcases h with rfl|⟨c,p,rfl,m⟩
  ·simp at l;omega
  ·have:c=10:=by simpa using m
   subst this;rfl
theorem xN(s:Bs)(j k:Nat):(Aa s).extract j (j+k)=Aa ((s.drop j).take k):=by
 apply ByteArray.ext
 rw[ByteArray.data_extract];simp [Aa,List.extract_eq_take_drop]
theorem oI(s:Bs):s.take (By s).length=By s:=by
 have:=congrArg (List.take (By s).length) (Wd s);rw[List.take_left]at this;exact this
theorem rcSpace(s:Bs)(a:Nat)(aP:a≤s.length)(bj:s.length≤1000000)(n:Nat)(ay:s.length-a<n)(w:Yg):
  Yl Zd 66 #[.string (Aa s),.int .i64 (a:Int)] w fun e w'=>e=.returned (.tuple #[.int .i64 ((Hv n (s.drop a)).1:Int),.bool (Hv n (s.drop a)).2])∧Yj w.heap.size w w':=by
 have bm:(Aa s).size=s.length:=by show s.toArray.size=_;simp
 obtain⟨f,Y⟩:∃f,Hv n (s.drop a)=f:=⟨_,rfl⟩;rw[Y];obtain⟨ai,aG⟩:=Y2 Y ay;clear Y ay;have bk:(s.length:Int)≤1000000:=by omega
 have bf:(a:Int)≤1000000:=by omega
 go_enter func66,ntmps66;go_wp2
 go_loopw [6,7,9] (fun i _ _ q=> ∃(j p:Nat),i= ι (j:Int)∧a≤j∧j≤s.length∧s.length-j<p∧f.1+a=j+(Hv p (s.drop j)).1∧f.2=(Hv p (s.drop j)).2∧Yh (Yj w.heap.size w q)) (fun i _ _ _=>s.length-(intOf i).toNat)
 case atStart=>exact⟨a,n,rfl,Zg _,aP,aG.o,by rw[ai.o];omega,by rw[ai.o],Zq _ _⟩
 case round=>
  obtain⟨j,p,rfl,bg,aY,be,h,l,r⟩:=hrel;obtain⟨p,rfl⟩:∃k,p=k+1:=⟨p-1,by omega⟩;obtain⟨L,aS⟩:∃L,L=wr:=⟨_,rfl⟩;subst aS;have aZ:(j:Int)≤1000000:=by omega
  have bl:IntKind.i64.wrap ((j:Int)-(a:Int))=(j:Int)-(a:Int):=Zv _ (by omega)
  by_cases hlt:j<s.length
  ·have aO:(j:Int)<(s.length:Int):=by omega
   have bc:(0:Int)≤(j:Int):=by omega
   have aW:IntKind.i64.wrap ((j:Int)+1)=(j:Int)+1:=Zv _ (by omega);obtain⟨c,D⟩:∃c,s[j]=c:=⟨_,rfl⟩;have au:∀g,(Aa s)[j]'g=c:=fun _=>D
   have o:s.drop j=c::s.drop (j+1):=by rw[nA s j hlt,D]
   have H:s[j]? =some c:=by rw[Ye hlt,D]
   cases hb:Bf c with
   |true=>
    rw[o,qF hb]at h l;have y:c=32∨c=9∨c=10∨c=13:=by
     unfold Bf at hb;simpa [Bool.or_eq_true,or_assoc]using hb
    obtain⟨S,T⟩:=Y2 h l;clear h l o H hb D;rcases y with rfl|rfl|rfl|rfl
    all_goals
     go_wp2;go_roundw
     case rel=>exact⟨j+1,p,by go_num,by omega,by omega,by omega,by have:=S.o;dsimp only at this;omega,T.o,r⟩
     case measure=>simp [intOf];omega
   |false=>
    have y:c≠32∧c≠9∧c≠10∧c≠13:=by
     unfold Bf at hb;simpa [Bool.or_eq_false_iff,and_assoc]using hb
    have J:∀k:UInt8,c≠k→((c.toNat:Int)==(k.toNat:Int))=false:=fun k aM=>by
     rw[beq_eq_false_iff_ne];intro g;exact aM (UInt8.toNat_inj.1 (by omega))
    have aj:((c.toNat:Int)==32)=false:=J 32 y.1;have ak:((c.toNat:Int)==9)=false:=J 9 y.2.1;have al:((c.toNat:Int)==10)=false:=J 10 y.2.2.1;have am:((c.toNat:Int)==13)=false:=J 13 y.2.2.2;clear J y
    cases b:Zj (s.drop j) [47,47]with
    |false=>
     have az:¬(s[j]? =some 47∧s[j+1]? =some 47):=fun g=>by rw[(fY s j).2 g]at b;cases b
     rw[o]at b;rw[o,spc_no hb b]at h l;have u:Yh ((f.1:Int)=(j:Int)-(a:Int)):=(by dsimp only at h;omega:(f.1:Int)=(j:Int)-(a:Int));have v:Yh (f.2=true):=l;have aR:(s.length:Int)≤(j:Int)+1∨(¬(s.length:Int)≤(j:Int)+1∧((c.toNat:Int)==47)=false)∨(¬(s.length:Int)≤(j:Int)+1∧c=47∧∃d,(∀g,(Aa s)[j+1]'g=d)∧((d.toNat:Int)==47)=false):=by
      by_cases hl:s.length≤j+1
      ·exact .inl (by omega)
      ·refine .inr ?_
       by_cases h47:c=47
       ·refine .inr ⟨by omega,h47,s[j+1],fun _=>rfl,?_⟩
        rw[beq_eq_false_iff_ne];intro g;have aH:s[j+1]=47:=UInt8.toNat_inj.1 (by show _=47;omega);exact az ⟨by rw[H,h47],by rw[Ye (by omega),aH]⟩
       ·refine .inl ⟨by omega,?_⟩
        rw[beq_eq_false_iff_ne];intro g;exact h47 (UInt8.toNat_inj.1 (by show _=47;omega))
     clear az b o H h l D hb;rcases aR with q1|⟨q1,q2⟩|⟨q1,rfl,d,q3,q4⟩
     ·go_wp2
      exact Yk (results_tmp2 rfl _ _ _) rfl ⟨by show Zy (.tuple #[ι _,.bool true])=_;rw[u.o,v.o],r.o⟩
     ·have q5:((c.toNat:Int) !=47)=true:=by rw[bne,q2];rfl
      have q6:¬(c.toNat:Int)=47:=by rw[beq_eq_false_iff_ne]at q2;exact q2
      go_wp2;exact Yk (results_tmp2 rfl _ _ _) rfl ⟨by show Zy (.tuple #[ι _,.bool true])=_;rw[u.o,v.o],r.o⟩
     ·have q5:((d.toNat:Int) !=47)=true:=by rw[bne,q4];rfl
      have q6:¬(d.toNat:Int)=47:=by rw[beq_eq_false_iff_ne]at q4;exact q4
      have q7:(j:Int)+1<(s.length:Int):=by omega
      have q8:(0:Int)≤(j:Int)+1:=by omega
      have q9:((j:Int)+1).toNat=j+1:=by omega
      go_wp2;exact Yk (results_tmp2 rfl _ _ _) rfl ⟨by show Zy (.tuple #[ι _,.bool true])=_;rw[u.o,v.o],r.o⟩
    |true=>
     obtain⟨X,an⟩:=(fY s j).1 b;have aI:c=47:=by rw[H]at X;injection X
     obtain⟨bd,av⟩:=Yf.1 an;have A:∀g,(Aa s)[j+1]'g=47:=fun _=>av
     have t:=Uz (s.drop j);rw[Zf]at t;have aK:=eG b;have Z:=comm_at s j;have B:=xN s j (By (s.drop j)).length;rw[oI]at B;have ax:(c::s.drop (j+1)).drop (By (c::s.drop (j+1))).length=s.drop (j+(By (s.drop j)).length):=by rw[←o,Zs]
     have V:Yh (Ll (By (s.drop j)).length (By (s.drop j))=true→f.1+a=j∧f.2=false):=fun G=>by
      rw[o]at G b;rw[o,spc_bad hb b G]at h l;exact⟨h,l⟩
     have U:Yh (Ll (By (s.drop j)).length (By (s.drop j))=false→f.1+a=j+((By (s.drop j)).length+(Hv p (s.drop (j+(By (s.drop j)).length))).1)∧f.2=(Hv p (s.drop (j+(By (s.drop j)).length))).2):=fun G=>by
      rw[o]at G b;rw[o,sT hb b G,ax,←o]at h l;exact⟨h,l⟩
     obtain⟨C,aq⟩:∃C,By (s.drop j)=C:=⟨_,rfl⟩;rw[aq]at t aK Z B V U;subst aI;have q0:¬(s.length:Int)≤(j:Int)+1:=by omega
     have q7:(j:Int)+1<(s.length:Int):=by omega
     have q8:(0:Int)≤(j:Int)+1:=by omega
     have q9:((j:Int)+1).toNat=j+1:=by omega
     obtain⟨ad,ag⟩:=Y2 Z B;clear X an av Z B ax aq b o H h l D hb
     go_upto_block 2 with(fail);go_cut [7] (fun x q=>x= ι ((j+C.length:Nat):Int)∧q=L)
     case first=>
      clear au aj ak al am A q0 q7 q8 q9;go_wp2
      go_loopw [7] (fun x q=> ∃k:Nat,x= ι (k:Int)∧j≤k∧k≤j+C.length∧q=L) (fun x _=>s.length-(intOf x).toNat)
      case atStart=>exact⟨j,rfl,Zg _,by omega,rfl⟩
      case round=>
       obtain⟨k,rfl,ba,bb,rfl⟩:=hrel;have aX:IntKind.i64.wrap ((k:Int)+1)=(k:Int)+1:=Zv _ (by omega)
       by_cases hend:k<s.length
       ·have aT:(k:Int)<(s.length:Int):=by omega
        have bn:(0:Int)≤(k:Int):=by omega
        have F:=ad.o (k-j);rw[show j+(k-j)=k by omega]at F
        by_cases hqe:k-j=C.length
        ·have ao:=F.2 hqe hend
         have aJ:∀g,(Aa s)[k]'g=10:=fun _=>(Yf.1 ao).2
         obtain rfl:k=j+C.length:=by omega
         clear F ao hqe;go_wp2;go_meet;exact⟨rfl,rfl⟩
        ·obtain⟨d,z,aw⟩:=F.1 (by omega)
         have aJ:∀g,(Aa s)[k]'g=d:=fun _=>(Yf.1 z).2
         have ab:((d.toNat:Int)==10)=false:=by rw[beq_eq_false_iff_ne];intro g;exact aw (UInt8.toNat_inj.1 (by show _=10;omega))
         have bo:((d.toNat:Int) !=10)=true:=by rw[bne,ab];rfl
         have bp:¬(d.toNat:Int)=10:=by rw[beq_eq_false_iff_ne]at ab;exact ab
         have aN:k+1≤j+C.length:=by omega
         clear F z aw hqe;go_wp2;go_roundw
         case rel=>exact⟨k+1,by go_num,by omega,aN,by first|trivial|rfl⟩
         case measure=>simp [intOf];omega
       ·have aT:¬(k:Int)<(s.length:Int):=by omega
        obtain rfl:k=j+C.length:=by omega
        go_wp2;go_meet;exact⟨rfl,rfl⟩
     case rest=>
     obtain⟨rfl,aB⟩:=hcut;obtain⟨w2,aA⟩:∃w2,w2=L:=⟨_,rfl⟩;rw[←aA]at r aB;subst aB;clear aA;have aC:(j:Int)≤((j+C.length:Nat):Int):=by omega
     have aD:((j+C.length:Nat):Int)≤(s.length:Int):=by omega
     have aE:(0:Int)≤(j:Int):=by omega
     have B:=ag.o;have ar:(Aa C).size=C.length:=by show C.toArray.size=_;simp
     have ae:=Za ar;have ap:∀k,Yh (Yj w.heap.size w (wc.iter (Aa C) k)):=fun k=>r.o.trans (((bA):Yj wc.heap.size wc (wc.iter (Aa C) k)).mono r.o.size)
     have N:=Za ap;clear ar ap au A aj ak al am q0 q7 q8 q9
     go_upto_block 4 with(fail);go_cut [] (fun q=>Ll C.length C=false∧Yh (Yj w.heap.size w q))
     case first=>
      clear B aC aD aE;go_wp2
      go_loopw [9] (fun _ q=> ∃(pos E:Nat),q=wc.iter (Aa C) pos∧pos≤C.length∧C.length-pos≤E∧Ll E (C.drop pos)=Ll C.length C) (fun _ q=>C.length-q.iterPos wc.heap.size)
      case atStart=>exact⟨0,C.length,rfl,Zk _,Nat.sub_le _ _,by rw[List.drop_zero]⟩
      case round=>
       obtain⟨pos,E,rfl,bh,bi,m⟩:=hrel
       by_cases hpe:pos<C.length
       ·have b:pos<(Aa C).size:=by rw[ae.o];exact hpe
        have aa:=fun ac=>run_next_any (P:=Zd) wc (Aa C) pos ac b
        rw[cQ]at aa;obtain⟨aU,rfl⟩:∃k,E=k+1:=⟨E-1,by omega⟩;have I:C.drop pos≠[]:=by
         intro g;have:=congrArg List.length g;rw[Zf,List.length_nil]at this;omega
        have t:=Lib.decodeL_le _ I;rw[Zf]at t;have A:=mB (C.drop pos);rw[Ll,if_neg I]at m;have aQ:(Zc (C.drop pos)).1≤2147483647:=by have:=Jl (C.drop pos);rw[Sv I]at this;exact this
        obtain⟨Q,O⟩:∃Q,(Zc (C.drop pos)).1=Q:=⟨_,rfl⟩;obtain⟨d,z⟩:∃d,(Zc (C.drop pos)).2=d:=⟨_,rfl⟩;rw[O,z]at aa m;rw[z]at t A;rw[O]at aQ;have M:=N.o (pos+d)
        by_cases h65:Q=65533
        ·rw[if_pos h65]at m
         obtain⟨R,K⟩:=V.o m.symm;have u:Yh ((f.1:Int)=(j:Int)-(a:Int)):=(by omega:(f.1:Int)=(j:Int)-(a:Int));have v:Yh (f.2=false):=K;subst h65;clear m R K O z t A I b N;go_wp2;exact Yk (results_tmp2 rfl _ _ _) rfl ⟨by show Zy (.tuple #[ι _,.bool false])=_;rw[u.o,v.o],M.o⟩
        ·rw[if_neg h65,Zs]at m
         have aV:((Q:Int)==65533)=false:=by rw[beq_eq_false_iff_ne];omega
         obtain⟨W,ah,af⟩:=Y3 m t A;clear m O z t A I b M h65;go_wp2;go_roundw
         case rel=>exact⟨pos+d,aU,rfl,by have:=ah.o;omega,by have:=af.o;omega,W.o⟩
         case measure=>rw[Yb,Yb];have:=ah.o;have:=af.o;omega
       ·have b:¬pos<(Aa C).size:=by rw[ae.o];exact hpe
        have aa:=fun ac=>run_next_end (P:=Zd) wc (Aa C) pos ac b
        have W:Yh (Ll C.length C=false):=by
         show _=_
         rw[←m,List.drop_eq_nil_of_le (by omega)]
         cases E with
         |zero=>rfl
         |succ p=>rw[Ll,if_pos rfl]
        have M:=N.o pos;clear m b;go_wp2;go_meet;exact⟨W.o,M⟩
     case rest=>
     obtain⟨m,aF⟩:=hcut;obtain⟨R,K⟩:=U.o m;obtain⟨S,T⟩:=Y2 R K;clear m R K B aC aD aE N ag ad V U;go_wp2;go_roundw
     case rel=>exact⟨j+C.length,p,rfl,by omega,by omega,by omega,by have:=S.o;omega,T.o,aF⟩
     case measure=>simp [intOf];omega
  ·have aO:¬(j:Int)<(s.length:Int):=by omega
   have aL:j=s.length:=by omega
   subst aL;rw[List.drop_length]at h l;have u:Yh ((f.1:Int)=(s.length:Int)-(a:Int)):=(by have h:f.1+a=s.length+0:=h;omega:(f.1:Int)=(s.length:Int)-(a:Int));have v:Yh (f.2=true):=l;clear h l;go_wp2;exact Yk (results_tmp2 rfl _ _ _) rfl ⟨by show Zy (.tuple #[ι _,.bool true])=_;rw[u.o,v.o],r.o⟩
theorem Tp(c:UInt8):Ax c=(decide ((48:Int)≤(c.toNat:Int)) && decide ((c.toNat:Int)≤57)):=by
 unfold Ax;congr 1
 ·rw[decide_eq_decide,UInt8.le_iff_toNat_le];show 48≤c.toNat↔_;omega
 ·rw[decide_eq_decide,UInt8.le_iff_toNat_le];show c.toNat≤57↔_;omega
theorem Gx(c:UInt8)(w:Yg):
  Yl Zd 109 #[.int .u8 c.toNat] w fun e w'=>e=.returned (.bool (Ax c))∧w'=w:=by
 rw[Tp];go_enter func109,ntmps109
 by_cases h1:(48:Int)≤(c.toNat:Int)
 ·by_cases h2:(c.toNat:Int)≤57
  ·go_wp2
   go_ret
   exact⟨Ae (by simp [h1,h2]),rfl⟩
  ·go_wp2
   go_ret
   exact⟨Ae (by simp [h1,h2]),rfl⟩
 ·go_wp2
  go_ret
  exact⟨Ae (by rw[decide_eq_false (show ¬(48:Int)≤(c.toNat:Int)by omega)];rfl),rfl⟩
theorem Sb(c:UInt8):Bu c=(decide ((97:Int)≤(c.toNat:Int)) && decide ((c.toNat:Int)≤122)||decide ((65:Int)≤(c.toNat:Int)) && decide ((c.toNat:Int)≤90)||decide ((c.toNat:Int)=95)):=by
 have e:(c==95)=decide ((c.toNat:Int)=95):=by
  rw[Bool.eq_iff_iff,beq_iff_eq,decide_eq_true_iff,←UInt8.toNat_inj];show c.toNat=95↔_;omega
 have l:∀a:UInt8,decide (a≤c)=decide ((a.toNat:Int)≤(c.toNat:Int)):=fun a=>by rw[decide_eq_decide,UInt8.le_iff_toNat_le];omega
 have u:∀a:UInt8,decide (c≤a)=decide ((c.toNat:Int)≤(a.toNat:Int)):=fun a=>by rw[decide_eq_decide,UInt8.le_iff_toNat_le];omega
 unfold Bu;rw[e,l,u,l,u];show(_||decide ((97:Int)≤_) && decide (_≤(122:Int))||decide ((65:Int)≤_) && decide (_≤(90:Int)))=_
 cases decide ((c.toNat:Int)=95)<;>simp
theorem Ef(c:UInt8)(w:Yg):
  Yl Zd 108 #[.int .u8 c.toNat] w fun e w'=>e=.returned (.bool (Bu c))∧w'=w:=by
 rw[Sb];go_enter func108,ntmps108
 by_cases h1:(97:Int)≤(c.toNat:Int)<;>by_cases h2:(c.toNat:Int)≤122<;>by_cases h3:(65:Int)≤(c.toNat:Int)<;>by_cases h4:(c.toNat:Int)≤90<;>by_cases h5:(c.toNat:Int)=95
 all_goals first
  |(exfalso;omega)
  |(go_wp2
    go_ret
    exact⟨Ae (by first|rfl|(rw[Bool.eq_iff_iff];simp only[Bool.or_eq_true,Zw,decide_eq_true_eq,beq_iff_eq,Bool.false_eq_true];omega)),rfl⟩)
def Nz:Bs:=[32,105,110,116,32,105,102,32,101,108,115,101,32,119,104,105,108,101,32,98,114,101,97,107,32,99,111,110,116,105,110,117,101,32,114,101,116,117,114,110,32,112,114,105,110,116,32,114,101,97,100,32,116,114,97,112,32]
def Vl(i:Nat)(s:Bs):Bool:=(Nz.drop i).take (s.length+2)==32::s++[32]
theorem gV:∀(s a:Bs),(∀c,c∈s→c≠32)→(s++32::a).takeWhile (fun c=>c !=32)=s
 |[],a,_=>by simp
 |c::s,a,h=>by
  rw[List.cons_append,List.takeWhile_cons,if_pos (by simpa using h c Zx),gV s a (fun d b=>h d (List.mem_cons_of_mem _ b))]
theorem wrow_at:∀i:Fin 57,Nz.drop i.val=[]∨(Nz.drop i.val).head?≠some 32∨(Nz.drop (i.val+1)).takeWhile (fun c=>c !=32)=[]∨Es ((Nz.drop (i.val+1)).takeWhile (fun c=>c !=32))=true:=by decide+kernel
theorem word_is {i:Nat}{s:Bs}(j:i+s.length+2≤57)(g:s≠[])(h:∀c,c∈s→c≠32)(a:Vl i s=true):Es s=true:=by
 unfold Vl at a;rw[beq_iff_eq]at a;have b:Nz.drop i=32::s++32::(Nz.drop i).drop (s.length+2):=by
  have:=List.take_append_drop (s.length+2) (Nz.drop i);rw[a]at this;rw[←this];simp
 have f:Nz.drop (i+1)=s++32::(Nz.drop i).drop (s.length+2):=by
  rw[←Zs];rw[b];simp
 have d:=gV s ((Nz.drop i).drop (s.length+2)) h;rw[←f]at d;rcases wrow_at ⟨i,by omega⟩with e|e|e|e
 ·rw[show Nz.drop (⟨i,_⟩:Fin 57).val=Nz.drop i from rfl,b]at e;cases e
 ·rw[show Nz.drop (⟨i,_⟩:Fin 57).val=Nz.drop i from rfl,b]at e;exact absurd rfl e
 ·exact absurd (d.symm.trans e) g
 ·rw[d]at e;exact e
def So(s:Bs):Nat:=(Od.zip [0,4,7,12,18,24,33,40,46,51]).foldl (fun n p=>if p.1==s then p.2 else n) 0
theorem vH:∀s:Bs,Es s=true→So s+s.length+2≤57∧Vl (So s) s=true:=by
 intro s a;unfold Es Od at a;simp only[List.contains_cons,List.contains_nil,Bool.or_false,Bool.or_eq_true,beq_iff_eq]at a;rcases a with rfl|rfl|rfl|rfl|rfl|rfl|rfl|rfl|rfl|rfl<;>decide+kernel
mutual
def Hn:Ex→Ex→Bool
 |.mk k o n nm us,.mk k' o' n' nm' bs=>k==k' && o==o' && n==n' && nm==nm' && Dd us bs
def Dd:List Ex→List Ex→Bool
 |[],[]=>true
 |x::l,y::m=>Hn x y && Dd l m
 |_,_=>false
end
mutual
theorem jD:∀a b:Ex,Hn a b=true↔a=b
 |.mk k o n nm us,.mk k' o' n' nm' bs=>by
  rw[Hn];simp only[Zw,beq_iff_eq,Mf us bs,Ex.mk.injEq];simp only[and_assoc]
theorem Mf:∀a b:List Ex,Dd a b=true↔a=b
 |[],[]=>by simp [Dd]
 |x::l,y::m=>by rw[Dd];simp [jD x y,Mf l m]
 |[],y::m=>by simp [Dd]
 |x::l,[]=>by simp [Dd]
end
mutual
def Da:St→St→Bool
 |.mk k nm us t e,.mk k' nm' us' t' e'=>k==k' && nm==nm' && Dd us us' && Ik t t' && Ik e e'
def Ik:List St→List St→Bool
 |[],[]=>true
 |x::l,y::m=>Da x y && Ik l m
 |_,_=>false
end
mutual
theorem iW:∀a b:St,Da a b=true↔a=b
 |.mk k nm us t e,.mk k' nm' us' t' e'=>by
  rw[Da];simp only[Zw,beq_iff_eq,Mf us us',Mh t t',Mh e e',St.mk.injEq];simp only[and_assoc]
theorem Mh:∀a b:List St,Ik a b=true↔a=b
 |[],[]=>by simp [Ik]
 |x::l,y::m=>by rw[Ik];simp [iW x y,Mh l m]
 |[],y::m=>by simp [Ik]
 |x::l,[]=>by simp [Ik]
end
def Ky:List Bs→List Bs→Bool
 |[],[]=>true
 |x::l,y::m=>x==y && Ky l m
 |_,_=>false
theorem Xi:∀a b:List Bs,Ky a b=true↔a=b
 |[],[]=>by simp [Ky]
 |x::l,y::m=>by rw[Ky];simp [Xi l m]
 |[],y::m=>by simp [Ky]
 |x::l,[]=>by simp [Ky]
def Ke(f g:Fu):Bool:=f.name==g.name && Ky f.params g.params && Ky f.locals g.locals && Ik f.body g.body
theorem lE(f g:Fu):Ke f g=true↔f=g:=by
 obtain⟨a,b,c,d⟩:=f;obtain⟨e,h,i,j⟩:=g;unfold Ke;simp only[Zw,beq_iff_eq,Xi,Mh,Fu.mk.injEq];simp only[and_assoc]
def Kc:List Fu→List Fu→Bool
 |[],[]=>true
 |x::l,y::m=>Ke x y && Kc l m
 |_,_=>false
theorem To:∀a b:List Fu,Kc a b=true↔a=b
 |[],[]=>by simp [Kc]
 |x::l,y::m=>by rw[Kc];simp [lE x y,To l m]
 |[],y::m=>by simp [Kc]
 |x::l,[]=>by simp [Kc]
def Jp(a b:Ar):Bool:=a.name==b.name && a.size==b.size
theorem iP(f g:Ar):Jp f g=true↔f=g:=by
 obtain⟨a,b⟩:=f;obtain⟨c,d⟩:=g;unfold Jp;simp
def Jz:List Ar→List Ar→Bool
 |[],[]=>true
 |x::l,y::m=>Jp x y && Jz l m
 |_,_=>false
theorem Tw:∀a b:List Ar,Jz a b=true↔a=b
 |[],[]=>by simp [Jz]
 |x::l,y::m=>by rw[Jz];simp [iP x y,Tw l m]
 |[],y::m=>by simp [Jz]
 |x::l,[]=>by simp [Jz]
def Lv(p q:Pr):Bool:=Jz p.arrays q.arrays && Kc p.funcs q.funcs
theorem Wc(p q:Pr):Lv p q=true↔p=q:=by
 obtain⟨a,b⟩:=p;obtain⟨c,d⟩:=q;unfold Lv;simp [Tw,To]
def Cb {α:Type}(f:α→α→Bool):List α→List α→Bool
 |[],[]=>true
 |x::l,y::m=>f x y && Cb f l m
 |_,_=>false
theorem Ty:∀l a,Dd l a=Cb Hn l a
 |[],[]=>rfl
 |x::l,y::a=>by rw[Dd,Cb,Ty l a]
 |[],y::a=>by simp [Dd,Cb]
 |x::l,[]=>by simp [Dd,Cb]
theorem Mi:∀l a,Ik l a=Cb Da l a
 |[],[]=>rfl
 |x::l,y::a=>by rw[Ik,Cb,Mi l a]
 |[],y::a=>by simp [Ik,Cb]
 |x::l,[]=>by simp [Ik,Cb]
theorem Uh:∀l a,Kc l a=Cb Ke l a
 |[],[]=>rfl
 |x::l,y::a=>by rw[Kc,Cb,Uh l a]
 |[],y::a=>by simp [Kc,Cb]
 |x::l,[]=>by simp [Kc,Cb]
theorem Tt:∀l a,Jz l a=Cb Jp l a
 |[],[]=>rfl
 |x::l,y::a=>by rw[Jz,Cb,Tt l a]
 |[],y::a=>by simp [Jz,Cb]
 |x::l,[]=>by simp [Jz,Cb]
theorem Qk:∀l a,Ky l a=Cb (fun x y=>x==y) l a
 |[],[]=>rfl
 |x::l,y::a=>by rw[Ky,Cb,Qk l a]
 |[],y::a=>by simp [Ky,Cb]
 |x::l,[]=>by simp [Ky,Cb]
theorem Nf {α:Type}(f:α→α→Bool):∀(l a:List α),l.length≠a.length→Cb f l a=false
 |[],[],h=>absurd rfl h
 |x::l,y::a,h=>by rw[Cb,Nf f l a (by simpa using h)];simp
 |[],y::a,_=>rfl
 |x::l,[],_=>rfl
theorem Jm {α:Type}(f:α→α→Bool)(d:α):∀(l a:List α),l.length=a.length→(∀i,i<l.length→f (l.getD i d) (a.getD i d)=true)→Cb f l a=true
 |[],[],_,_=>rfl
 |x::l,y::a,h,hf=>by
  have b:f x y=true:=by have:=hf 0 (by simp);simpa using this
  rw[Cb,b,Jm f d l a (by simpa using h) (fun i c=>by have:=hf (i+1) (by simpa using c);simpa using this)];rfl
 |[],y::a,h,_=>by simp at h
 |x::l,[],h,_=>by simp at h
theorem Ii {α:Type}(f:α→α→Bool)(d:α):∀(l a:List α) (i:Nat),l.length=a.length→i<l.length→f (l.getD i d) (a.getD i d)=false→Cb f l a=false
 |x::l,y::a,0,_,_,hf=>by rw[Cb,show f x y=false by simpa using hf];rfl
 |x::l,y::a,i+1,h,hi,hf=>by rw[Cb,Ii f d l a i (by simpa using h) (by simpa using hi) (by simpa using hf)];simp
 |[],_,_,_,hi,_=>by simp at hi
 |x::l,[],_,h,_,_=>by simp at h
end Go.Proofs.YthcpopmmlneneaaGreatDoor
