/-
  right, RightExpr of the reference 03: which expressions may be. Condition: the expression lies in memory.
-/
import Derived.Test.YtfhbinbjkpfedaaGreatDoorRows
import Derived.ProofKit
import Derived.OpenShut
import Derived.Deep.DeepHandedRow
import Derived.Lib.LaidTab
import Derived.ChangeSame
import Derived.Test.YtfhbinbjkpfedaaGreatDoorTT01
import Derived.Lib.ItoaLen
import Derived.Test.YtfhbinbjkpfedaaGreatDoorTT09
set_option linter.unusedVariables false
set_option linter.unusedSimpArgs false
namespace Go.Proofs.YtfhbinbjkpfedaaGreatDoor
open Go.ChangeShapes Go.WideShapes Go.ChangeAt Go.RowKit
theorem Na {P:Program}{x:String ×DataW Unit}{l:List (String ×DataW Unit)}{W:World}(h:laidMet P (x::l) W):laidMet P l W:=by
 obtain⟨n,d⟩:=x;obtain⟨ps,⟨g,t,cs,fuel,p,q,hg,ht,hv,hd,hr,rfl⟩,hn,hc⟩:=h;refine⟨q,hr,(List.nodup_append.1 hn).2.1,fun b off hm=>hc b off (List.mem_append_right _ hm)⟩
theorem Yp {H:Type}{enc:TypeId ×Value→H}{P:Program}{f:Func}{s:ChangeSpec}{apart fresh handsOn again:Bool}{W W':World}{args:Array Value}{v:Value}{ds gs:List (DataW H)}{before pa pv:List MemPlace}
  (hW:DataW.Whole enc P f.params.toList s.vars apart W args.toList ds gs before)
  (hres:∀(b:Nat) (sp:Nat→Bool) (hd:Bool),DataW.TrodAll enc P W' b sp hd f.resultTypes.toList (v.resultList f.resultTypes.size) (s.fn H (ds++gs)).results [])
  (hargs:∀sp:Nat→Bool,(∀p∈before,sp p.block=true)→DataW.TrodAll enc P W' 0 sp true f.params.toList args.toList (s.fn H (ds++gs)).args pa)
  (hvars:∀sp:Nat→Bool,(∀p∈before,sp p.block=true)→DataW.TrodVars enc P W' sp s.vars (s.fn H (ds++gs)).vars pv)
  (hps:before=pa++pv) (hb:Below W.heap.size W W')
  (hok:∀(j:Nat) (t:TypeId) (r:Value),f.resultTypes[j]? =some t→(v.resultList f.resultTypes.size)[j]? =some r→Value.okWide P W' .any 0 t r):
  s.post enc P f apart fresh handsOn again W args v W':=by
 have lt:∀p∈before,p.block<W.heap.size:=hW.lt;have old:∀p∈before,(fun k=>decide (k<W.heap.size)) p.block=true:=fun p hp=>decide_eq_true (lt p hp)
 refine⟨ds,gs,before,[],pa,pv,hW,hres _ _ _,hargs _ old,hvars _ old,World.keptBut_mono (fun p hp=>⟨hp,.inr (by rw[hps]at hp;exact List.mem_append.1 hp)⟩) (hb.frame (· ∈before)),fun _=>?_⟩;obtain⟨_,_,_,_,_,fz,nd⟩:=hW;refine⟨hok,_,_,([]++pa)++pv,⟨[]++pa,pv,trodAll_append (hargs _ (fun _ _=>rfl)) (hres _ _ _),hvars _ (fun _ _=>rfl),rfl,fun b off hp=>?_,fun ha=>?_⟩,fun p hp _=>?_⟩
 ·have hin:MemPlace.cell b off∈before:=by rw[hps];exact hp
  have e:=fz b off hin;rw[←hb.frozen (lt _ hin)]at e;exact e
 ·have e:=nd ha
  rw[hps]at e;exact e
 ·rw[hps];exact hp
end Go.Proofs.YtfhbinbjkpfedaaGreatDoor
namespace Go.Proofs.YtfhbinbjkpfedaaGreatDoor
open Go.RowKit Go.Proofs.Tryz
set_option maxHeartbeats 20000000
set_option maxRecDepth 100000
open Go.Lib renaming hid→Za,decDigits→Zg
open Go.Proofs.Tryz renaming prog→Zb
open Bool renaming and_eq_true→Zc,eq_iff_iff→Zd
open Al renaming new→Ze
open List renaming getElem?_eq_getElem→Zf,all_eq_true→Zi,cons_append→Zm,take_append_drop→Zn,length_append→Zp,mem_cons_self→Zq,getElem_of_mem→Zr,take_succ_eq_append_getElem→Zs
open Nat renaming zero_le→Zh,le_refl→Zk,lt_succ_iff_lt_or_eq→Zl
open Below renaming refl→Zj
open _root_.ByteArray renaming size_append→Zo
mutual
def Do:Ex→Ex→Bool
 |.mk k o n nm us,.mk k' o' n' nm' bs=>k==k' && o==o' && n==n' && nm==nm' && Cp us bs
def Cp:List Ex→List Ex→Bool
 |[],[]=>true
 |x::l,y::m=>Do x y && Cp l m
 |_,_=>false
end
mutual
theorem bL:∀a b:Ex,Do a b=true↔a=b
 |.mk k o n nm us,.mk k' o' n' nm' bs=>by
  rw[Do];simp only[Zc,beq_iff_eq,Li us bs,Ex.mk.injEq];simp only[and_assoc]
theorem Li:∀a b:List Ex,Cp a b=true↔a=b
 |[],[]=>by simp [Cp]
 |x::l,y::m=>by rw[Cp];simp [bL x y,Li l m]
 |[],y::m=>by simp [Cp]
 |x::l,[]=>by simp [Cp]
end
mutual
def Bu:St→St→Bool
 |.mk k nm us t e,.mk k' nm' us' t' e'=>k==k' && nm==nm' && Cp us us' && Fs t t' && Fs e e'
def Fs:List St→List St→Bool
 |[],[]=>true
 |x::l,y::m=>Bu x y && Fs l m
 |_,_=>false
end
mutual
theorem Yu:∀a b:St,Bu a b=true↔a=b
 |.mk k nm us t e,.mk k' nm' us' t' e'=>by
  rw[Bu];simp only[Zc,beq_iff_eq,Li us us',Jk t t',Jk e e',St.mk.injEq];simp only[and_assoc]
theorem Jk:∀a b:List St,Fs a b=true↔a=b
 |[],[]=>by simp [Fs]
 |x::l,y::m=>by rw[Fs];simp [Yu x y,Jk l m]
 |[],y::m=>by simp [Fs]
 |x::l,[]=>by simp [Fs]
end
def Gn:List Bs→List Bs→Bool
 |[],[]=>true
 |x::l,y::m=>x==y && Gn l m
 |_,_=>false
theorem Rm:∀a b:List Bs,Gn a b=true↔a=b
 |[],[]=>by simp [Gn]
 |x::l,y::m=>by rw[Gn];simp [Rm l m]
 |[],y::m=>by simp [Gn]
 |x::l,[]=>by simp [Gn]
def Eb(f g:Fu):Bool:=f.name==g.name && Gn f.params g.params && Gn f.locals g.locals && Fs f.body g.body
theorem Yx(f g:Fu):Eb f g=true↔f=g:=by
 obtain⟨a,b,c,d⟩:=f;obtain⟨a',b',c',d'⟩:=g;unfold Eb;simp only[Zc,beq_iff_eq,Rm,Jk,Fu.mk.injEq];simp only[and_assoc]
def Hl:List Fu→List Fu→Bool
 |[],[]=>true
 |x::l,y::m=>Eb x y && Hl l m
 |_,_=>false
theorem Pk:∀a b:List Fu,Hl a b=true↔a=b
 |[],[]=>by simp [Hl]
 |x::l,y::m=>by rw[Hl];simp [Yx x y,Pk l m]
 |[],y::m=>by simp [Hl]
 |x::l,[]=>by simp [Hl]
def Ep(a b:Ar):Bool:=a.name==b.name && a.size==b.size
theorem Ye(f g:Ar):Ep f g=true↔f=g:=by
 obtain⟨a,b⟩:=f;obtain⟨a',b'⟩:=g;unfold Ep;simp
def Gh:List Ar→List Ar→Bool
 |[],[]=>true
 |x::l,y::m=>Ep x y && Gh l m
 |_,_=>false
theorem Pj:∀a b:List Ar,Gh a b=true↔a=b
 |[],[]=>by simp [Gh]
 |x::l,y::m=>by rw[Gh];simp [Ye x y,Pj l m]
 |[],y::m=>by simp [Gh]
 |x::l,[]=>by simp [Gh]
def Fh(p q:Pr):Bool:=Gh p.arrays q.arrays && Hl p.funcs q.funcs
theorem Ks(p q:Pr):Fh p q=true↔p=q:=by
 obtain⟨a,b⟩:=p;obtain⟨c,d⟩:=q;unfold Fh;simp [Pj,Pk]
def Bg {α:Type}(f:α→α→Bool):List α→List α→Bool
 |[],[]=>true
 |x::l,y::m=>f x y && Bg f l m
 |_,_=>false
theorem Jf:∀l m,Cp l m=Bg Do l m
 |[],[]=>rfl
 |x::l,y::m=>by rw[Cp,Bg,Jf l m]
 |[],y::m=>by simp [Cp,Bg]
 |x::l,[]=>by simp [Cp,Bg]
theorem Gk:∀l m,Fs l m=Bg Bu l m
 |[],[]=>rfl
 |x::l,y::m=>by rw[Fs,Bg,Gk l m]
 |[],y::m=>by simp [Fs,Bg]
 |x::l,[]=>by simp [Fs,Bg]
theorem Ll:∀l m,Hl l m=Bg Eb l m
 |[],[]=>rfl
 |x::l,y::m=>by rw[Hl,Bg,Ll l m]
 |[],y::m=>by simp [Hl,Bg]
 |x::l,[]=>by simp [Hl,Bg]
theorem Lk:∀l m,Gh l m=Bg Ep l m
 |[],[]=>rfl
 |x::l,y::m=>by rw[Gh,Bg,Lk l m]
 |[],y::m=>by simp [Gh,Bg]
 |x::l,[]=>by simp [Gh,Bg]
theorem Ki:∀l m,Gn l m=Bg (fun x y=>x==y) l m
 |[],[]=>rfl
 |x::l,y::m=>by rw[Gn,Bg,Ki l m]
 |[],y::m=>by simp [Gn,Bg]
 |x::l,[]=>by simp [Gn,Bg]
theorem Ft {α:Type}(f:α→α→Bool):∀(l m:List α),l.length≠m.length→Bg f l m=false
 |[],[],h=>absurd rfl h
 |x::l,y::m,h=>by rw[Bg,Ft f l m (by simpa using h)];simp
 |[],y::m,_=>rfl
 |x::l,[],_=>rfl
theorem Dz {α:Type}(f:α→α→Bool)(d:α):∀(l m:List α),l.length=m.length→(∀i,i<l.length→f (l.getD i d) (m.getD i d)=true)→Bg f l m=true
 |[],[],_,_=>rfl
 |x::l,y::m,h,hf=>by
  have h0:f x y=true:=by have:=hf 0 (by simp);simpa using this
  rw[Bg,h0,Dz f d l m (by simpa using h) (fun i hi=>by have:=hf (i+1) (by simpa using hi);simpa using this)];rfl
 |[],y::m,h,_=>by simp at h
 |x::l,[],h,_=>by simp at h
theorem Dl {α:Type}(f:α→α→Bool)(d:α):∀(l m:List α) (i:Nat),l.length=m.length→i<l.length→f (l.getD i d) (m.getD i d)=false→Bg f l m=false
 |x::l,y::m,0,_,_,hf=>by rw[Bg,show f x y=false by simpa using hf];rfl
 |x::l,y::m,i+1,h,hi,hf=>by rw[Bg,Dl f d l m i (by simpa using h) (by simpa using hi) (by simpa using hf)];simp
 |[],_,_,_,hi,_=>by simp at hi
 |x::l,[],_,h,_,_=>by simp at h
mutual
def Bj:Ex→Nat
 |.mk _ _ _ _ us=>1+Ah us
def Ah:List Ex→Nat
 |[]=>0
 |x::l=>Bj x+Ah l
end
mutual
def Dh:St→Nat
 |.mk _ _ us t e=>1+Ah us+Ai t+Ai e
def Ai:List St→Nat
 |[]=>0
 |x::l=>Dh x+Ai l
end
def By:List Fu→Nat
 |[]=>0
 |x::l=>Ai x.body+By l
def Fv(p:Pr):Nat:=By p.funcs
theorem Hc(e:Ex):Bj e=1+Ah e.args:=by cases e;rw[Bj];rfl
theorem Mk(x:St):Dh x=1+Ah x.args+Ai x.thn+Ai x.els:=by cases x;rw[Dh];rfl
theorem Kq:∀l m,Ah (l++m)=Ah l+Ah m
 |[],m=>by simp [Ah]
 |x::l,m=>by rw[Zm,Ah,Ah,Kq l m];omega
theorem Kg:∀l m,Ai (l++m)=Ai l+Ai m
 |[],m=>by simp [Ai]
 |x::l,m=>by rw[Zm,Ai,Ai,Kg l m];omega
theorem Ke:∀l m,By (l++m)=By l+By m
 |[],m=>by simp [By]
 |x::l,m=>by rw[Zm,By,By,Ke l m];omega
theorem Mc(l:List Ex)(d:Ex)(k:Nat)(h:k<l.length):Ah (l.take (k+1))=Ah (l.take k)+Bj (l.getD k d):=by
 rw[Zs h,Kq];simp [Ah,Zf h]
theorem Me(l:List St)(d:St)(k:Nat)(h:k<l.length):Ai (l.take (k+1))=Ai (l.take k)+Dh (l.getD k d):=by
 rw[Zs h,Kg];simp [Ai,Zf h]
theorem Mh(l:List Fu)(d:Fu)(k:Nat)(h:k<l.length):By (l.take (k+1))=By (l.take k)+Ai (l.getD k d).body:=by
 rw[Zs h,Ke];simp [By,Zf h]
theorem Jx(l:List Ex)(k:Nat):Ah (l.take k)≤Ah l:=by
 have:=Kq (l.take k) (l.drop k);rw[Zn]at this;omega
theorem Jp(l:List St)(k:Nat):Ai (l.take k)≤Ai l:=by
 have:=Kg (l.take k) (l.drop k);rw[Zn]at this;omega
theorem Jy(l:List Fu)(k:Nat):By (l.take k)≤By l:=by
 have:=Ke (l.take k) (l.drop k);rw[Zn]at this;omega
structure Qc (w:World)(p:Pr)(va vf:Value):Prop where
 a:Bp (· <w.heap.size) w p.arrays va
 f:Bk (· <w.heap.size) w p.funcs vf
 c:Fv p≤1152921504606846976
 t:Cd p=true→(Dv p).length≤140737488355328
theorem Qc.old {w w':World}{p:Pr}{va vf:Value}(h:Qc w p va vf)(hb:Below w.heap.size w w'):Qc w' p va vf:=
 ⟨(h.a.old hb).mono (fun b hl=>Nat.lt_of_lt_of_le hl hb.size),(Bk.old hb h.f).mono (fun b hl=>Nat.lt_of_lt_of_le hl hb.size),h.c,h.t⟩
def WildP(w:World)(r:Ending)(w':World):Prop:= ∃(p:Pr) (va vf:Value),r=.returned (.agg #[va,vf])∧Below w.heap.size w w'∧Qc w' p va vf
theorem cE(u:Nat)(h:u<10):Zg u=[UInt8.ofNat (48+u)]:=by rw[Zg,dif_pos h]
theorem Yi(u:Nat)(h:¬u<10):Zg u=Zg (u / 10)++[UInt8.ofNat (48+u % 10)]:=by rw[Zg,dif_neg h]
theorem Op(u:Nat):Lib.itoa (u:Int)=Zg u:=by
 unfold Lib.itoa;rw[if_neg (by omega)];congr 1
theorem Cu(a b:Bs):Aa a++Aa b=Aa (a++b):=by
 apply ByteArray.ext;simp [Aa]
theorem Sg:∀(u:Nat),u≤9223372036854775807→∀w:World,
  Calls Zb 34 #[.int .i64 (u:Nat)] w fun e w'=>e=.returned (.string (Aa (Lib.itoa (u:Int))))∧Below w.heap.size w w':=by
 intro u
 induction u using Nat.strongRecOn with
 |_ u ih=>
  intro hu w;rw[Op];have huI:(u:Int)≤9223372036854775807:=by omega
  have hm0:0≤(u:Int) % 10:=Int.emod_nonneg _ (by decide);have hm1:(u:Int) % 10<10:=Int.emod_lt_of_pos _ (by decide);have HCV:=Wy (48+(u:Int) % 10) (by omega) (by omega);have HB:=Za ((Zj w.heap.size w).alloc (Zk _) (.cells #[.int .u8 (48+(u:Int) % 10)] 5));have hby:(48+(u:Int) % 10).toNat=48+u % 10:=by omega
  by_cases h10:u<10
  ·have hr:Zg u=[UInt8.ofNat (48+(u:Int) % 10).toNat]:=by rw[cE u h10,hby,Nat.mod_eq_of_lt h10]
   have h10I:(u:Int)<10:=by omega
   rw[hr];clear ih hr hby;generalize UInt8.ofNat (48+(u:Int) % 10).toNat=bt at*;go_enter func34,ntmps34
   go_wp2_with fail
   go_ret
   exact⟨rfl,HB.o⟩
  ·have hr:Zg u=Zg (u / 10)++[UInt8.ofNat (48+(u:Int) % 10).toNat]:=by rw[Yi u h10,hby]
   have h10I:(10:Int)≤(u:Int):=by omega
   have hq:(u:Int) / 10=((u / 10:Nat):Int):=by omega
   have HN:=Za (fun w'=>ih (u / 10) (by omega) (by omega) w');rw[Op]at HN;rw[←hq]at HN;have hlen:(Zg (u / 10)).length≤21:=by
    have:=Lib.itoa_length_le ((u / 10:Nat):Int) (by omega) (by omega)
    rwa[Op]at this
   rw[hr];obtain⟨D,hD⟩:∃D,Zg (u / 10)=D:=⟨_,rfl⟩;rw[hD]at HN hlen ⊢;have hno:¬((Aa D).size+(Aa [UInt8.ofNat (48+(u:Int) % 10).toNat]).size>9223372036854775807):=by
    show ¬(D.toArray.size+[UInt8.ofNat (48+(u:Int) % 10).toNat].toArray.size>_)
    simp;omega
   clear ih hr hby hD hq hlen;generalize UInt8.ofNat (48+(u:Int) % 10).toNat=bt at*;go_enter func34,ntmps34
   go_wp2_with fail
   refine(HN.o _).mono ?_;rintro e w1 ⟨rfl,hb⟩;have HB1:=Za (HB.o.trans (hb.mono HB.o.size));clear hb;go_wp2_with fail
   go_ret
   exact⟨by rw[←Cu];rfl,HB1.o⟩
theorem gG:∀k:Nat,k<19→([.string ⟨#[43]⟩,.string ⟨#[45]⟩,.string ⟨#[42]⟩,.string ⟨#[47]⟩,.string ⟨#[37]⟩,.string ⟨#[38]⟩,.string ⟨#[124]⟩,.string ⟨#[94]⟩,.string ⟨#[60,60]⟩,.string ⟨#[62,62]⟩,.string ⟨#[60]⟩,.string ⟨#[60,61]⟩,.string ⟨#[62]⟩,.string ⟨#[62,61]⟩,.string ⟨#[61,61]⟩,.string ⟨#[33,61]⟩,.string ⟨#[45]⟩,.string ⟨#[33]⟩,.string ⟨#[126]⟩]:List Value)[k]? =some (.string (Aa (Ck ((k:Int)+1)))):=by
 intro k hk;have:k=0∨k=1∨k=2∨k=3∨k=4∨k=5∨k=6∨k=7∨k=8∨k=9∨k=10∨k=11∨k=12∨k=13∨k=14∨k=15∨k=16∨k=17∨k=18:=by omega
 rcases this with rfl|rfl|rfl|rfl|rfl|rfl|rfl|rfl|rfl|rfl|rfl|rfl|rfl|rfl|rfl|rfl|rfl|rfl|rfl<;>rfl
theorem dX:∀k:Nat,k<16→([.int .i64 7,.int .i64 7,.int .i64 8,.int .i64 8,.int .i64 8,.int .i64 3,.int .i64 1,.int .i64 2,.int .i64 6,.int .i64 6,.int .i64 5,.int .i64 5,.int .i64 5,.int .i64 5,.int .i64 4,.int .i64 4]:List Value)[k]? =some (.int .i64 (Au ((k:Int)+1))):=by
 intro k hk;have:k=0∨k=1∨k=2∨k=3∨k=4∨k=5∨k=6∨k=7∨k=8∨k=9∨k=10∨k=11∨k=12∨k=13∨k=14∨k=15:=by omega
 rcases this with rfl|rfl|rfl|rfl|rfl|rfl|rfl|rfl|rfl|rfl|rfl|rfl|rfl|rfl|rfl|rfl<;>rfl
theorem iA(o:Int)(h:o<1∨19<o):Ck o=[]:=by
 have ne:∀j:Int,1≤j→j≤19→o≠j:=fun j a b e=>by omega
 unfold Ck;rw[if_neg (ne 1 (by decide) (by decide)),if_neg (ne 2 (by decide) (by decide)),if_neg (ne 3 (by decide) (by decide)),if_neg (ne 4 (by decide) (by decide)),if_neg (ne 5 (by decide) (by decide)),if_neg (ne 6 (by decide) (by decide)),if_neg (ne 7 (by decide) (by decide)),if_neg (ne 8 (by decide) (by decide)),if_neg (ne 9 (by decide) (by decide)),if_neg (ne 10 (by decide) (by decide)),if_neg (ne 11 (by decide) (by decide)),if_neg (ne 12 (by decide) (by decide)),if_neg (ne 13 (by decide) (by decide)),if_neg (ne 14 (by decide) (by decide)),if_neg (ne 15 (by decide) (by decide)),if_neg (ne 16 (by decide) (by decide)),if_neg (ne 17 (by decide) (by decide)),if_neg (ne 18 (by decide) (by decide)),if_neg (ne 19 (by decide) (by decide))]
theorem fQ(o:Int)(h:o<1∨16<o):Au o=0:=by
 have ne:∀j:Int,1≤j→j≤16→o≠j:=fun j a b e=>by omega
 unfold Au;rw[if_neg (ne 1 (by decide) (by decide)),if_neg (ne 2 (by decide) (by decide)),if_neg (ne 3 (by decide) (by decide)),if_neg (ne 4 (by decide) (by decide)),if_neg (ne 5 (by decide) (by decide)),if_neg (ne 6 (by decide) (by decide)),if_neg (ne 7 (by decide) (by decide)),if_neg (ne 8 (by decide) (by decide)),if_neg (ne 9 (by decide) (by decide)),if_neg (ne 10 (by decide) (by decide)),if_neg (ne 11 (by decide) (by decide)),if_neg (ne 12 (by decide) (by decide)),if_neg (ne 13 (by decide) (by decide)),if_neg (ne 14 (by decide) (by decide)),if_neg (ne 15 (by decide) (by decide)),if_neg (ne 16 (by decide) (by decide))]
def SgnIs(o:Int)(e:Ending):Prop:= ∃b,e=.returned (.tuple #[.string (Aa (Ck o)),.bool b])
theorem Ht(o:Int)(w:World):
  Calls Zb 89 #[.int .i64 o] w fun e w'=>SgnIs o e∧Below w.heap.size w w':=by
 by_cases h:o<1∨19<o
 ·have HSO:=Za (iA o h)
  rcases h with h|h
  ·go_enter func89,ntmps89
   go_wp2_with fail
   go_ret2
   exact⟨⟨_,by rw[HSO.o];rfl⟩,Zj _ _⟩
  ·have h1:¬o<1:=by omega
   go_enter func89,ntmps89
   go_wp2_with fail
   go_ret2
   exact⟨⟨_,by rw[HSO.o];rfl⟩,Zj _ _⟩
 ·obtain⟨k,rfl⟩:∃k:Nat,o=(k:Int)+1:=⟨(o-1).toNat,by omega⟩
  have hk:k<19:=by omega
  have HO:=Za (Ze w [.string ⟨#[43]⟩,.string ⟨#[45]⟩,.string ⟨#[42]⟩,.string ⟨#[47]⟩,.string ⟨#[37]⟩,.string ⟨#[38]⟩,.string ⟨#[124]⟩,.string ⟨#[94]⟩,.string ⟨#[60,60]⟩,.string ⟨#[62,62]⟩,.string ⟨#[60]⟩,.string ⟨#[60,61]⟩,.string ⟨#[62]⟩,.string ⟨#[62,61]⟩,.string ⟨#[61,61]⟩,.string ⟨#[33,61]⟩,.string ⟨#[45]⟩,.string ⟨#[33]⟩,.string ⟨#[126]⟩] 9);have HB:=Za ((Zj w.heap.size w).alloc (Zk _) (.cells ([.string ⟨#[43]⟩,.string ⟨#[45]⟩,.string ⟨#[42]⟩,.string ⟨#[47]⟩,.string ⟨#[37]⟩,.string ⟨#[38]⟩,.string ⟨#[124]⟩,.string ⟨#[94]⟩,.string ⟨#[60,60]⟩,.string ⟨#[62,62]⟩,.string ⟨#[60]⟩,.string ⟨#[60,61]⟩,.string ⟨#[62]⟩,.string ⟨#[62,61]⟩,.string ⟨#[61,61]⟩,.string ⟨#[33,61]⟩,.string ⟨#[45]⟩,.string ⟨#[33]⟩,.string ⟨#[126]⟩]:List Value).toArray 9));have c0:=HO.o.at k _ (gG k hk);have hkI:(k:Int)<19:=by omega
  have hkA:(k:Int)+1≤19:=by omega
  have hkB:(1:Int)≤(k:Int)+1:=by omega
  obtain⟨S,hS⟩:∃S,Ck ((k:Int)+1)=S:=⟨_,rfl⟩;rw[hS]at c0;have HSO:=Za hS;clear hS;obtain⟨W,hW⟩:∃W,w.alloc (.cells ([.string ⟨#[43]⟩,.string ⟨#[45]⟩,.string ⟨#[42]⟩,.string ⟨#[47]⟩,.string ⟨#[37]⟩,.string ⟨#[38]⟩,.string ⟨#[124]⟩,.string ⟨#[94]⟩,.string ⟨#[60,60]⟩,.string ⟨#[62,62]⟩,.string ⟨#[60]⟩,.string ⟨#[60,61]⟩,.string ⟨#[62]⟩,.string ⟨#[62,61]⟩,.string ⟨#[61,61]⟩,.string ⟨#[33,61]⟩,.string ⟨#[45]⟩,.string ⟨#[33]⟩,.string ⟨#[126]⟩]:List Value).toArray 9)=W:=⟨_,rfl⟩;have hW':w.alloc (.cells #[.string ⟨#[43]⟩,.string ⟨#[45]⟩,.string ⟨#[42]⟩,.string ⟨#[47]⟩,.string ⟨#[37]⟩,.string ⟨#[38]⟩,.string ⟨#[124]⟩,.string ⟨#[94]⟩,.string ⟨#[60,60]⟩,.string ⟨#[62,62]⟩,.string ⟨#[60]⟩,.string ⟨#[60,61]⟩,.string ⟨#[62]⟩,.string ⟨#[62,61]⟩,.string ⟨#[61,61]⟩,.string ⟨#[33,61]⟩,.string ⟨#[45]⟩,.string ⟨#[33]⟩,.string ⟨#[126]⟩] 9)=W:=hW;rw[hW]at c0 HB;clear HO h;go_enter func89,ntmps89
  go_wp2_with fail
  go_ret2
  exact⟨⟨_,by rw[HSO.o];rfl⟩,HB.o⟩
theorem Qo(o:Int)(w:World):
  Calls Zb 91 #[.int .i64 o] w fun e w'=>e=.returned (.int .i64 (Au o))∧Below w.heap.size w w':=by
 by_cases h:o<1∨16<o
 ·rw[fQ o h]
  rcases h with h|h
  ·go_enter func91,ntmps91
   go_wp2_with fail
   go_ret
   exact⟨rfl,Zj _ _⟩
  ·have h1:¬o<1:=by omega
   go_enter func91,ntmps91
   go_wp2_with fail
   go_ret
   exact⟨rfl,Zj _ _⟩
 ·obtain⟨k,rfl⟩:∃k:Nat,o=(k:Int)+1:=⟨(o-1).toNat,by omega⟩
  have hk:k<16:=by omega
  have HO:=Za (Ze w [.int .i64 7,.int .i64 7,.int .i64 8,.int .i64 8,.int .i64 8,.int .i64 3,.int .i64 1,.int .i64 2,.int .i64 6,.int .i64 6,.int .i64 5,.int .i64 5,.int .i64 5,.int .i64 5,.int .i64 4,.int .i64 4] 3);have HB:=Za ((Zj w.heap.size w).alloc (Zk _) (.cells ([.int .i64 7,.int .i64 7,.int .i64 8,.int .i64 8,.int .i64 8,.int .i64 3,.int .i64 1,.int .i64 2,.int .i64 6,.int .i64 6,.int .i64 5,.int .i64 5,.int .i64 5,.int .i64 5,.int .i64 4,.int .i64 4]:List Value).toArray 3));have c0:=HO.o.at k _ (dX k hk);have hkI:(k:Int)<16:=by omega
  have hkA:(k:Int)+1≤16:=by omega
  have hkB:(1:Int)≤(k:Int)+1:=by omega
  generalize Au ((k:Int)+1)=S at*;obtain⟨W,hW⟩:∃W,w.alloc (.cells ([.int .i64 7,.int .i64 7,.int .i64 8,.int .i64 8,.int .i64 8,.int .i64 3,.int .i64 1,.int .i64 2,.int .i64 6,.int .i64 6,.int .i64 5,.int .i64 5,.int .i64 5,.int .i64 5,.int .i64 4,.int .i64 4]:List Value).toArray 3)=W:=⟨_,rfl⟩;have hW':w.alloc (.cells #[.int .i64 7,.int .i64 7,.int .i64 8,.int .i64 8,.int .i64 8,.int .i64 3,.int .i64 1,.int .i64 2,.int .i64 6,.int .i64 6,.int .i64 5,.int .i64 5,.int .i64 5,.int .i64 5,.int .i64 4,.int .i64 4] 3)=W:=hW;rw[hW]at c0 HB;clear HO h;go_enter func91,ntmps91
  go_wp2_with fail
  go_ret
  exact⟨rfl,HB.o⟩
def Qg(la:List Ex):Prop:= ∀(lb:List Ex) (D:Nat→Prop) (va vb:Value) (w:World),Aj D w la va→Aj D w lb vb→
 Calls Zb 84 #[va,vb] w fun e w'=>e=.returned (.bool (Cp la lb))∧∃n,w'=w.drewN n
theorem Aj.drewN {D:Nat→Prop}{w:World}{l:List Ex}{v:Value}(h:Aj D w l v)(n:Nat):Aj D (w.drewN n) l v:=Aj.keep (w:=w) (w':=w.drewN n) (fun _ _ _ _ hx=>hx) h
theorem Uo(x y:Ex):Do x y=(x.kind==y.kind && x.op==y.op && x.n==y.n && x.name==y.name && Cp x.args y.args):=by
 cases x;cases y;rw[Do];rfl
theorem eO(x y:Ex):(Do x y=false∧(x.kind !=y.kind)=true)∨(Do x y=false∧(x.kind !=y.kind)=false∧(x.op !=y.op)=true)∨(Do x y=false∧(x.kind !=y.kind)=false∧(x.op !=y.op)=false∧(x.n !=y.n)=true)
  ∨(Do x y=false∧(x.kind !=y.kind)=false∧(x.op !=y.op)=false∧(x.n !=y.n)=false∧(x.name==y.name)=false)
  ∨(Do x y=false∧(x.kind !=y.kind)=false∧(x.op !=y.op)=false∧(x.n !=y.n)=false∧(x.name==y.name)=true∧Cp x.args y.args=false)
  ∨(Do x y=true∧(x.kind !=y.kind)=false∧(x.op !=y.op)=false∧(x.n !=y.n)=false∧(x.name==y.name)=true∧Cp x.args y.args=true):=by
 rw[Uo];simp only[bne]
 cases x.kind==y.kind<;>cases x.op==y.op<;>cases x.n==y.n<;>cases x.name==y.name<;>cases Cp x.args y.args<;>simp
theorem jZ(la:List Ex)(ih:∀x,x∈la→Qg x.args):Qg la:=by
 intro lb D va vb w ha hb;obtain⟨a1,a2,rfl⟩:=ha.shape;obtain⟨b1,b2,rfl⟩:=hb.shape;have l63:=ha.fits.lt;have m63:=hb.fits.lt;rw[Jf]
 by_cases hl:lb.length=la.length
 ·rw[hl]at hb ⊢
  have HA:=Za ha;have HB:=Za hb;have IH:=Za ih;have HL:=Za hl;clear ha hb ih hl m63;go_enter func84,ntmps84
  go_wp2_with fail
  go_loopw [5] (fun s5 wr=> ∃k:Nat,k≤la.length∧s5=.int .i64 k∧(∀i,i<k→Do (la.getD i Ex.nil) (lb.getD i Ex.nil)=true)∧∃n,wr=w.drewN n) (fun s5 _=>la.length-(intOf s5).toNat)
  case atStart=>exact⟨0,Zh _,rfl,fun i hi=>by omega,0,rfl⟩
  case round=>
   obtain⟨k,hk,rfl,hno,hn⟩:=hrel;have HNO:=Za hno;have HN:=Za hn;have HAW:Hid (Aj D wr la (.slice a1 la.length a2)):=by obtain⟨n,rfl⟩:=hn;exact HA.o.drewN n
   have HBW:Hid (Aj D wr lb (.slice b1 la.length b2)):=by obtain⟨n,rfl⟩:=hn;exact HB.o.drewN n
   clear hno hn
   by_cases hlt:k<la.length
   ·obtain⟨xab,xao,xas,rfl,xaD,a0,a1,a2,a3,a4,ah,an⟩:=Aj.cellAt HAW.o k hlt
    obtain⟨xbb,xbo,xbs,rfl,xbD,b0,b1,b2,b3,b4,bh,bn⟩:=Aj.cellAt HBW.o k (by rw[HL.o];exact hlt);obtain⟨a5,a6,rfl⟩:=ah.shape;obtain⟨b5,b6,rfl⟩:=bh.shape;have HAH:=Za ah;have HBH:=Za bh;clear ah bh an bn xaD xbD HAW HBW;have IHX:=Za (IH.out _ (Bf hlt));have HKL:=Za hlt;have hc:=eO (Ao la k) (Ao lb k);generalize hxe:Ao la k=xa at*;generalize hye:Ao lb k=xb at*;have HXE:=Za hxe;have HYE:=Za hye;clear hxe hye;have HC:=Za hc;clear hc;have i0:(0:Int)≤(k:Int):=by omega
    have i1:(k:Int)<(la.length:Int):=by omega
    have HCALL:Hid (∀m,Calls Zb 84 #[.slice a5 xa.args.length a6,.slice b5 xb.args.length b6] (wr.drewN m) fun e w'=>e=.returned (.bool (Cp xa.args xb.args))∧∃n,w'=(wr.drewN m).drewN n):=fun m=>IHX.out _ D _ _ _ (HAH.o.drewN m) (HBH.o.drewN m)
    generalize Cp xa.args xb.args=qq at*;go_wp2_with fail
    go_quiet ((go_at_call 84;exact Calls.quiet_of (HCALL.o _)))
    have HC2:=Za HC.o;rcases HC2.o with⟨e,h1⟩|⟨e,h1,h2⟩|⟨e,h1,h2,h3⟩|⟨e,h1,h2,h3,h4⟩|⟨e,h1,h2,h3,h4,rfl⟩|⟨e,h1,h2,h3,h4,rfl⟩
    all_goals
     have HE:Hid (Do (Ao la k) (Ao lb k)=Do xa xb):=by show _=_;rw[HXE.o,HYE.o]
     have HE2:=Za e;clear HC HC2 e;go_wp2_with fail
     go_quiet (fail)
     go_wp2_with fail
    iterate 5
     ·go_ret
      obtain⟨n0,hn0⟩:=HN.o;exact⟨Af (Dl Do Ex.nil la lb k HL.o.symm HKL.o (HE.o.trans HE2.o)).symm,_,by rw[hn0,World.drewN_drewN,World.drewN_drewN]⟩
    ·go_roundw
     case rel=>exact⟨k+1,by omega,by go_num,fun i hi=>by rcases Zl.1 hi with h|rfl;exact HNO.o i h;exact HE.o.trans HE2.o,by obtain⟨n0,hn0⟩:=HN.o;exact⟨_,by rw[hn0,World.drewN_drewN]⟩⟩
     case measure=>simp [intOf];omega
   ·go_wp2_with fail
    go_ret
    exact⟨Af (Dz Do Ex.nil la lb HL.o.symm (fun i hi=>HNO.o i (by omega))).symm,HN.o⟩
 ·have hne:((la.length:Int) !=(lb.length:Int))=true:=by rw[bne_iff_ne];omega
  have E:Hid (Bg Do la lb=false):=Ft _ _ _ (by omega);clear ha hb ih hl;go_enter func84,ntmps84
  go_wp2_with fail
  go_ret
  exact⟨Af E.out.symm,0,rfl⟩
theorem dH:∀(n:Nat) (l:List Ex),SizeOf.sizeOf l≤n→Qg l
 |0,l,h=>by cases l<;>simp at h
 |n+1,l,h=>jZ l fun x hx=>dH n x.args (by
  have h1:=List.sizeOf_lt_of_mem hx
  cases x with
  |mk k o m nm args=>show SizeOf.sizeOf args≤n;simp at h1;omega)
theorem ref_any(l:List Ex):Qg l:=dH _ l (Zk _)
theorem Av(l:Bs):(Aa l).size=l.length:=by show l.toArray.size=_;simp
theorem dZ {e:Ex}(h:Bb e=true):Du e=true∧(e.args.length:Int)=Ca e∧∀x,x∈e.args→Bb x=true:=by
 rw[Hf,Zc]at h;obtain⟨h1,h2⟩:=h;unfold Bw at h1;simp only[Zc,beq_iff_eq]at h1;exact⟨h1.1.1.1.1,h1.1.1.1.2,Zi.1 h2⟩
def Vm(e:Ex):Prop:=Bb e=true→(Ae e).length≤140737488355328→I64 e.n→∀(D:Nat→Prop) (s:Value) (w:World),Aj D w e.args s→
 Calls Zb 53 #[exV e s] w fun r w'=>r=.returned (.string (Aa (Ae e)))∧Below w.heap.size w w'
theorem Ue(e:Ex)(he:Vm e)(hw:Bb e=true)(l:Int)(hf:(Bh e l).length≤140737488355328)(hn:I64 e.n)(D:Nat→Prop)(s:Value)(w:World)(h:Aj D w e.args s):
  Calls Zb 90 #[exV e s,.int .i64 l] w fun r w'=>r=.returned (.string (Aa (Bh e l)))∧Below w.heap.size w w':=by
 obtain⟨a,c,rfl⟩:=h.shape;have hfe:(Ae e).length≤140737488355328:=by
  unfold Bh Cn at hf;split at hf
  ·simp at hf;omega
  ·exact hf
 have hbA:Below w.heap.size w (w.alloc (.cells #[.int .i64 e.kind,.int .i64 e.op,.int .i64 e.n,.string (Aa e.name),.slice a e.args.length c] 31)):=bA;have GB1:=Za hbA;have GO1:=Za (Ze w [.int .i64 e.kind,.int .i64 e.op,.int .i64 e.n,.string (Aa e.name),.slice a e.args.length c] 31);have HC:=Za (he hw hfe hn D _ _ (h.old hbA));have HE:Hid (Bh e l=Cn e l (Ae e)):=rfl;have hsz:=Av (Ae e);clear hbA h he hw hn hf;go_enter func90,ntmps90
 go_upto_region 1 with(fail)
 generalize w.alloc (.cells #[.int .i64 e.kind,.int .i64 e.op,.int .i64 e.n,.string (Aa e.name),.slice a e.args.length c] 31)=W1 at*;obtain⟨T,hT⟩:∃T,Ae e=T:=⟨_,rfl⟩;rw[hT]at HC HE hsz hfe;clear hT;have q0:=GO1.out.at 0 _ rfl;have q1:=GO1.out.at 1 _ rfl;have q2:=GO1.out.at 2 _ rfl;have q3:=GO1.out.at 3 _ rfl;have q4:=GO1.out.at 4 _ rfl;go_wp2_with fail
 refine HC.o.mono ?_;rintro r w2 ⟨rfl,hb2⟩;have GB2:=Za (GB1.out.trans (hb2.mono GB1.out.size));have GO2:=Za (GO1.out.old hb2);clear hb2 HC q0 q1 q2 q3 q4 GB1 GO1;have q0:=GO2.out.at 0 _ rfl;have q1:=GO2.out.at 1 _ rfl
 by_cases h4:e.kind=4
 ·have HV:=Za (Qo e.op w2)
  rw[h4]at q0
  by_cases hl:Au e.op<l
  ·have HR:Hid (Bh e l=[40]++T++[41]):=by show _=_;rw[HE.o];unfold Cn;rw[if_pos ⟨h4,hl⟩]
   have hno:¬((⟨#[40]⟩:ByteArray).size+(Aa T).size>9223372036854775807):=by rw[hsz];show ¬(1+_>_);omega
   have hno2:¬(((⟨#[40]⟩:ByteArray)++Aa T).size+(⟨#[41]⟩:ByteArray).size>9223372036854775807):=by rw[Zo,hsz];show ¬(1+_+1>_);omega
   clear HE h4;go_wp2_with fail
   refine HV.o.mono ?_;rintro r w3 ⟨rfl,hb3⟩;have GB3:=Za (GB2.out.trans (hb3.mono GB2.out.size));clear hb3 HV q0 q1;go_wp2_with fail
   go_ret
   exact⟨by rw[HR.o,←Cu,←Cu];rfl,GB3.out⟩
  ·have HR:Hid (Bh e l=T):=by show _=_;rw[HE.o];unfold Cn;rw[if_neg (fun h=>hl h.2)]
   clear HE h4;go_wp2_with fail
   refine HV.o.mono ?_;rintro r w3 ⟨rfl,hb3⟩;have GB3:=Za (GB2.out.trans (hb3.mono GB2.out.size));clear hb3 HV q0 q1;go_wp2_with fail
   go_ret
   exact⟨by rw[HR.o];rfl,GB3.out⟩
 ·have HR:Hid (Bh e l=T):=by show _=_;rw[HE.o];unfold Cn;rw[if_neg (fun h=>h4 h.1)]
  have e4:(e.kind==4)=false:=by rw[beq_eq_false_iff_ne];exact h4
  clear HE h4;go_wp2_with fail
  go_ret
  exact⟨by rw[HR.o];rfl,GB2.out⟩
theorem xtT_1 {e:Ex}(h:e.kind=1):Ae e=Lib.itoa e.n:=by cases e;simp only[Ex.kind]at h;subst h;exact Lc _ _ _ _
theorem xtT_2 {e:Ex}(h:e.kind=2):Ae e=e.name:=by cases e;simp only[Ex.kind]at h;subst h;exact Jr _ _ _ _
theorem xtT_3 {e:Ex}(h:e.kind=3)(hl:0<e.args.length):Ae e=Ck e.op++Bh (Ao e.args 0) 9:=by cases e;simp only[Ex.kind]at h;subst h;exact Jc _ _ _ _ hl
theorem xtT_4 {e:Ex}(h:e.kind=4)(hl:1<e.args.length):Ae e=Bh (Ao e.args 0) (Au e.op)++([32]++(Ck e.op++[32]))++Bh (Ao e.args 1) (Au e.op+1):=by cases e;simp only[Ex.kind]at h;subst h;exact Ja _ _ _ _ hl
theorem xtT_5 {e:Ex}(h:e.kind=5):Ae e=e.name++[40]++Ba (e.args.map Ae)++[41]:=by cases e;simp only[Ex.kind]at h;subst h;exact Iu _ _ _ _
theorem xtT_6 {e:Ex}(h:e.kind=6)(hl:0<e.args.length):Ae e=e.name++[91]++Ae (Ao e.args 0)++[93]:=by cases e;simp only[Ex.kind]at h;subst h;exact Iv _ _ _ _ hl
theorem xtT_7 {e:Ex}(h:e.kind=7):Ae e=[114,101,97,100,40,41]:=by cases e;simp only[Ex.kind]at h;subst h;exact Ju _ _ _ _
theorem aU {e:Ex}(h:Du e=true):e.kind=1∨e.kind=2∨e.kind=3∨e.kind=4∨e.kind=5∨e.kind=6∨e.kind=7:=by
 by_cases h1:e.kind=1; · omega
 by_cases h2:e.kind=2; · omega
 by_cases h3:e.kind=3; · omega
 by_cases h4:e.kind=4; · omega
 by_cases h5:e.kind=5; · omega
 by_cases h6:e.kind=6; · omega
 unfold Du at h;rw[if_neg h1,if_neg h2,if_neg h3,if_neg h4,if_neg h5,if_neg h6]at h;have:=of_decide_eq_true h;omega
theorem Aw {A B:ByteArray}(h:A.size+B.size≤9223372036854775807):¬(A.size+B.size>9223372036854775807):=by omega
def Mj(e:Ex):Prop:=(Ae e).length≤140737488355328→I64 e.n→∀(D:Nat→Prop) (s:Value) (w:World),Aj D w e.args s→
 Calls Zb 53 #[exV e s] w fun r w'=>r=.returned (.string (Aa (Ae e)))∧Below w.heap.size w w'
theorem xt_1(e:Ex)(h1:e.kind=1)(hz:0≤e.n):Mj e:=by
 intro hf hn D s w h;have HT:=Za (xtT_1 h1);obtain⟨u,hu⟩:∃u:Nat,e.n=(u:Int):=⟨e.n.toNat,by omega⟩;have hu2:u≤9223372036854775807:=by have:=hn.2;omega
 have HDG:=Za (fun w=>Sg u hu2 w);rw[←hu]at HDG;clear hf hn hz hu2 hu;obtain⟨a,c,rfl⟩:=h.shape;have hbA:Below w.heap.size w (w.alloc (.cells #[.int .i64 e.kind,.int .i64 e.op,.int .i64 e.n,.string (Aa e.name),.slice a e.args.length c] 31)):=bA;have GB1:=Za hbA;have GO1:=Za (Ze w [.int .i64 e.kind,.int .i64 e.op,.int .i64 e.n,.string (Aa e.name),.slice a e.args.length c] 31);have GE1:=Za (h.old hbA);have H1:=Za h1;clear hbA h h1;go_enter func53,ntmps53
 go_upto_region 1 with(fail)
 generalize w.alloc (.cells #[.int .i64 e.kind,.int .i64 e.op,.int .i64 e.n,.string (Aa e.name),.slice a e.args.length c] 31)=W1 at*;have HS:=Za (Ht e.op W1);have q1:=GO1.out.at 1 _ rfl;go_wp2_with fail
 refine HS.o.mono ?_;rintro r w2 ⟨⟨sb,rfl⟩,hb2⟩;have GB2:=Za (GB1.out.trans (hb2.mono GB1.out.size));have GO2:=Za (GO1.out.old hb2);have GE2:=Za (GE1.out.old hb2);clear hb2 HS q1 GB1 GO1 GE1;rw[H1.o]at GO2;have q0:=GO2.out.at 0 _ rfl;have q1:=GO2.out.at 1 _ rfl;have q2:=GO2.out.at 2 _ rfl;have q3:=GO2.out.at 3 _ rfl;have q4:=GO2.out.at 4 _ rfl;go_wp2_with fail
 refine(HDG.o _).mono ?_;rintro r w3 ⟨rfl,hb3⟩;have GB3:=Za (GB2.out.trans (hb3.mono GB2.out.size));clear hb3 HDG q0 q1 q2 q3 q4;go_wp2_with fail
 go_ret
 exact⟨by rw[HT.o];rfl,GB3.out⟩
theorem xt_2(e:Ex)(h1:e.kind=2):Mj e:=by
 intro hf hn D s w h;have HT:=Za (xtT_2 h1);clear hf hn;obtain⟨a,c,rfl⟩:=h.shape;have hbA:Below w.heap.size w (w.alloc (.cells #[.int .i64 e.kind,.int .i64 e.op,.int .i64 e.n,.string (Aa e.name),.slice a e.args.length c] 31)):=bA;have GB1:=Za hbA;have GO1:=Za (Ze w [.int .i64 e.kind,.int .i64 e.op,.int .i64 e.n,.string (Aa e.name),.slice a e.args.length c] 31);have GE1:=Za (h.old hbA);have H1:=Za h1;clear hbA h h1;go_enter func53,ntmps53
 go_upto_region 1 with(fail)
 generalize w.alloc (.cells #[.int .i64 e.kind,.int .i64 e.op,.int .i64 e.n,.string (Aa e.name),.slice a e.args.length c] 31)=W1 at*;have HS:=Za (Ht e.op W1);have q1:=GO1.out.at 1 _ rfl;go_wp2_with fail
 refine HS.o.mono ?_;rintro r w2 ⟨⟨sb,rfl⟩,hb2⟩;have GB2:=Za (GB1.out.trans (hb2.mono GB1.out.size));have GO2:=Za (GO1.out.old hb2);have GE2:=Za (GE1.out.old hb2);clear hb2 HS q1 GB1 GO1 GE1;rw[H1.o]at GO2;have q0:=GO2.out.at 0 _ rfl;have q1:=GO2.out.at 1 _ rfl;have q2:=GO2.out.at 2 _ rfl;have q3:=GO2.out.at 3 _ rfl;have q4:=GO2.out.at 4 _ rfl;go_wp2_with fail
 go_ret
 exact⟨by rw[HT.o];rfl,GB2.out⟩
theorem xt_7(e:Ex)(h1:e.kind=7):Mj e:=by
 intro hf hn D s w h;have HT:=Za (xtT_7 h1);clear hf hn;obtain⟨a,c,rfl⟩:=h.shape;have hbA:Below w.heap.size w (w.alloc (.cells #[.int .i64 e.kind,.int .i64 e.op,.int .i64 e.n,.string (Aa e.name),.slice a e.args.length c] 31)):=bA;have GB1:=Za hbA;have GO1:=Za (Ze w [.int .i64 e.kind,.int .i64 e.op,.int .i64 e.n,.string (Aa e.name),.slice a e.args.length c] 31);have GE1:=Za (h.old hbA);have H1:=Za h1;clear hbA h h1;go_enter func53,ntmps53
 go_upto_region 1 with(fail)
 generalize w.alloc (.cells #[.int .i64 e.kind,.int .i64 e.op,.int .i64 e.n,.string (Aa e.name),.slice a e.args.length c] 31)=W1 at*;have HS:=Za (Ht e.op W1);have q1:=GO1.out.at 1 _ rfl;go_wp2_with fail
 refine HS.o.mono ?_;rintro r w2 ⟨⟨sb,rfl⟩,hb2⟩;have GB2:=Za (GB1.out.trans (hb2.mono GB1.out.size));have GO2:=Za (GO1.out.old hb2);have GE2:=Za (GE1.out.old hb2);clear hb2 HS q1 GB1 GO1 GE1;rw[H1.o]at GO2;have q0:=GO2.out.at 0 _ rfl;have q1:=GO2.out.at 1 _ rfl;have q2:=GO2.out.at 2 _ rfl;have q3:=GO2.out.at 3 _ rfl;have q4:=GO2.out.at 4 _ rfl;go_wp2_with fail
 go_ret
 exact⟨by rw[HT.o];rfl,GB2.out⟩
theorem xt_3(e:Ex)(h1:e.kind=3)(hl:0<e.args.length)(ih:∀x,x∈e.args→Vm x)(hw:∀x,x∈e.args→Bb x=true):Mj e:=by
 intro hf hn D s w h;have HT:=Za (xtT_3 h1 hl);rw[HT.o,Zp]at hf;have hlI:(0:Int)<(e.args.length:Int):=by omega
 have hsz:=Av (Ck e.op);have hpz:=Av (Bh (Ao e.args 0) 9);have HP:=Za (Ue (Ao e.args 0) (ih _ (Bf hl)) (hw _ (Bf hl)) 9 (by omega));have HLL:=Za hl;clear hn ih hw hl;obtain⟨a,c,rfl⟩:=h.shape;have hbA:Below w.heap.size w (w.alloc (.cells #[.int .i64 e.kind,.int .i64 e.op,.int .i64 e.n,.string (Aa e.name),.slice a e.args.length c] 31)):=bA;have GB1:=Za hbA;have GO1:=Za (Ze w [.int .i64 e.kind,.int .i64 e.op,.int .i64 e.n,.string (Aa e.name),.slice a e.args.length c] 31);have GE1:=Za (h.old hbA);have H1:=Za h1;clear hbA h h1;go_enter func53,ntmps53
 go_upto_region 1 with(fail)
 generalize w.alloc (.cells #[.int .i64 e.kind,.int .i64 e.op,.int .i64 e.n,.string (Aa e.name),.slice a e.args.length c] 31)=W1 at*;have HS:=Za (Ht e.op W1);have q1:=GO1.out.at 1 _ rfl;go_wp2_with fail
 refine HS.o.mono ?_;rintro r w2 ⟨⟨sb,rfl⟩,hb2⟩;have GB2:=Za (GB1.out.trans (hb2.mono GB1.out.size));have GO2:=Za (GO1.out.old hb2);have GE2:=Za (GE1.out.old hb2);clear hb2 HS q1 GB1 GO1 GE1;rw[H1.o]at GO2;have q0:=GO2.out.at 0 _ rfl;have q1:=GO2.out.at 1 _ rfl;have q2:=GO2.out.at 2 _ rfl;have q3:=GO2.out.at 3 _ rfl;have q4:=GO2.out.at 4 _ rfl;obtain⟨eb,off,es,rfl,hD,hb,c0,c1,c2,c3,c4,hes,hn64⟩:=GE2.out.at0 HLL.o;have HC:=Za (HP.o hn64 D es w2 hes);clear hes hn64 hD hb HP;obtain⟨P,hP⟩:∃P,Aa (Bh (Ao e.args 0) 9)=P:=⟨_,rfl⟩;obtain⟨S,hS⟩:∃S,Aa (Ck e.op)=S:=⟨_,rfl⟩;have HT2:Hid (Aa (Ae e)=S++P):=by show _=_;rw[HT.o,←Cu,hP,hS]
 have hno:¬(S.size+P.size>9223372036854775807):=Aw (by rw[←hP,←hS];omega);rw[hP]at HC;rw[hS];clear hP hS hsz hpz hf HT;generalize Ao e.args 0=x at*;go_wp2_with fail
 refine HC.o.mono ?_;rintro r w3 ⟨rfl,hb3⟩;have GB3:=Za (GB2.out.trans (hb3.mono GB2.out.size));clear hb3 HC q0 q1 q2 q3 q4 c0 c1 c2 c3 c4;go_wp2_with fail
 go_ret
 exact⟨by rw[HT2.o];rfl,GB3.out⟩
theorem xt_6(e:Ex)(h1:e.kind=6)(hl:0<e.args.length)(ih:∀x,x∈e.args→Vm x)(hw:∀x,x∈e.args→Bb x=true):Mj e:=by
 intro hf hn D s w h;have HT:=Za (xtT_6 h1 hl);rw[HT.o,Zp,Zp,Zp]at hf;have hlI:(0:Int)<(e.args.length:Int):=by omega
 have hsz:=Av e.name;have hpz:=Av (Ae (Ao e.args 0));have HP:=Za (ih _ (Bf hl) (hw _ (Bf hl)) (by omega));have HLL:=Za hl;clear hn ih hw hl;obtain⟨a,c,rfl⟩:=h.shape;have hbA:Below w.heap.size w (w.alloc (.cells #[.int .i64 e.kind,.int .i64 e.op,.int .i64 e.n,.string (Aa e.name),.slice a e.args.length c] 31)):=bA;have GB1:=Za hbA;have GO1:=Za (Ze w [.int .i64 e.kind,.int .i64 e.op,.int .i64 e.n,.string (Aa e.name),.slice a e.args.length c] 31);have GE1:=Za (h.old hbA);have H1:=Za h1;clear hbA h h1;go_enter func53,ntmps53
 go_upto_region 1 with(fail)
 generalize w.alloc (.cells #[.int .i64 e.kind,.int .i64 e.op,.int .i64 e.n,.string (Aa e.name),.slice a e.args.length c] 31)=W1 at*;have HS:=Za (Ht e.op W1);have q1:=GO1.out.at 1 _ rfl;go_wp2_with fail
 refine HS.o.mono ?_;rintro r w2 ⟨⟨sb,rfl⟩,hb2⟩;have GB2:=Za (GB1.out.trans (hb2.mono GB1.out.size));have GO2:=Za (GO1.out.old hb2);have GE2:=Za (GE1.out.old hb2);clear hb2 HS q1 GB1 GO1 GE1;rw[H1.o]at GO2;have q0:=GO2.out.at 0 _ rfl;have q1:=GO2.out.at 1 _ rfl;have q2:=GO2.out.at 2 _ rfl;have q3:=GO2.out.at 3 _ rfl;have q4:=GO2.out.at 4 _ rfl;obtain⟨eb,off,es,rfl,hD,hb,c0,c1,c2,c3,c4,hes,hn64⟩:=GE2.out.at0 HLL.o;obtain⟨Ix,hIx,F,HFB,HFI⟩:=Kl w2;have HCL:Hid (∀n,Calls Zb 53 #[exV (Ao e.args 0) es] (F n) fun r w'=>r=.returned (.string (Aa (Ae (Ao e.args 0))))∧∃m,w'=F m):=fun n=>by
  refine(HP.o hn64 D es (F n) (hes.old (HFB.o n))).mono ?_;rintro r w' ⟨he,hb⟩;exact⟨he,HFI.o w' ((HFB.o n).trans (hb.mono (HFB.o n).size))⟩
 have HST:Hid (∃n,w2.drew=F n):=HFI.o _ (Zj _ _).drew;clear hes hn64 hD hb HP;obtain⟨P,hP⟩:∃P,Aa (Ae (Ao e.args 0))=P:=⟨_,rfl⟩;obtain⟨S,hS⟩:∃S,Aa e.name=S:=⟨_,rfl⟩;have HT2:Hid (Aa (Ae e)=S++⟨#[91]⟩++P++⟨#[93]⟩):=by show _=_;rw[HT.o,←Cu,←Cu,←Cu,hP,hS]
 have e91:(⟨#[91]⟩:ByteArray).size=1:=rfl;have e93:(⟨#[93]⟩:ByteArray).size=1:=rfl;have l91:([91]:Bs).length=1:=rfl;have l93:([93]:Bs).length=1:=rfl;have hno1:¬(S.size+(⟨#[91]⟩:ByteArray).size>9223372036854775807):=Aw (by rw[←hS];omega);have hno2:¬((S++(⟨#[91]⟩:ByteArray)).size+P.size>9223372036854775807):=Aw (by rw[Zo,←hP,←hS];omega);have hno3:¬((S++(⟨#[91]⟩:ByteArray)++P).size+(⟨#[93]⟩:ByteArray).size>9223372036854775807):=Aw (by rw[Zo,Zo,←hP,←hS];omega);rw[hP]at HCL;rw[hS]at q3 GO2;clear hP hS hsz hpz hf HT e91 e93 l91 l93;generalize Ao e.args 0=x at*;go_upto_region 13 with(fail)
 have g3:∀n,(F n).cell? ⟨w.heap.size,3,none⟩=some (.string S):=fun n=>Ac (HFB.o n) q3
 have g4:∀n,(F n).cell? ⟨w.heap.size,4,none⟩=some (.slice (some ⟨eb,off,none⟩) e.args.length c):=fun n=>Ac (HFB.o n) q4
 have d0:∀n,(F n).cell? ⟨eb,off,none⟩=some (.int .i64 x.kind):=fun n=>Ac (HFB.o n) c0
 have d1:∀n,(F n).cell? ⟨eb,off+1,none⟩=some (.int .i64 x.op):=fun n=>Ac (HFB.o n) c1
 have d2:∀n,(F n).cell? ⟨eb,off+2,none⟩=some (.int .i64 x.n):=fun n=>Ac (HFB.o n) c2
 have d3:∀n,(F n).cell? ⟨eb,off+3,none⟩=some (.string (Aa x.name)):=fun n=>Ac (HFB.o n) c3
 have d4:∀n,(F n).cell? ⟨eb,off+4,none⟩=some es:=fun n=>Ac (HFB.o n) c4
 clear q0 q1 q2 q3 q4 c0 c1 c2 c3 c4;go_wp2_with fail
 refine Hv F (by kernel_rfl) (by kernel_rfl) HST.o ?_
 repeat(go_big_quiet_step ((go_at_call 53;exact HCL.o _)))
 refine wpQuiet_nil ?_;intro _ hw';obtain⟨nq,hw''⟩:=hw';subst hw'';have GB3:=Za (GB2.out.trans ((HFB.o nq).mono GB2.out.size));go_wp2_with fail
 go_ret
 exact⟨by rw[HT2.o];rfl,GB3.out⟩
theorem Xx(c:UInt8):Dn c=(decide ((48:Int)≤(c.toNat:Int)) && decide ((c.toNat:Int)≤57)):=by
 unfold Dn;congr 1
 ·rw[decide_eq_decide,UInt8.le_iff_toNat_le];show 48≤c.toNat↔_;omega
 ·rw[decide_eq_decide,UInt8.le_iff_toNat_le];show c.toNat≤57↔_;omega
theorem Un(c:UInt8)(w:World):
  Calls Zb 78 #[.int .u8 c.toNat] w fun e w'=>e=.returned (.bool (Dn c))∧w'=w:=by
 rw[Xx];go_enter func78,ntmps78
 by_cases h1:(48:Int)≤(c.toNat:Int)
 ·by_cases h2:(c.toNat:Int)≤57
  ·go_wp2_with fail
   go_ret
   exact⟨Af (by simp [h1,h2]),rfl⟩
  ·go_wp2_with fail
   go_ret
   exact⟨Af (by simp [h1,h2]),rfl⟩
 ·go_wp2_with fail
  go_ret
  exact⟨Af (by rw[decide_eq_false (show ¬(48:Int)≤(c.toNat:Int)by omega)];rfl),rfl⟩
theorem Vg(c:UInt8):Ce c=(decide ((97:Int)≤(c.toNat:Int)) && decide ((c.toNat:Int)≤122)||decide ((65:Int)≤(c.toNat:Int)) && decide ((c.toNat:Int)≤90)||decide ((c.toNat:Int)=95)):=by
 have e:(c==95)=decide ((c.toNat:Int)=95):=by
  rw[Zd,beq_iff_eq,decide_eq_true_iff,←UInt8.toNat_inj];show c.toNat=95↔_;omega
 have l:∀a:UInt8,decide (a≤c)=decide ((a.toNat:Int)≤(c.toNat:Int)):=fun a=>by rw[decide_eq_decide,UInt8.le_iff_toNat_le];omega
 have u:∀a:UInt8,decide (c≤a)=decide ((c.toNat:Int)≤(a.toNat:Int)):=fun a=>by rw[decide_eq_decide,UInt8.le_iff_toNat_le];omega
 unfold Ce;rw[e,l,u,l,u];show(_||decide ((97:Int)≤_) && decide (_≤(122:Int))||decide ((65:Int)≤_) && decide (_≤(90:Int)))=_
 cases decide ((c.toNat:Int)=95)<;>simp
theorem Jm(c:UInt8)(w:World):
  Calls Zb 77 #[.int .u8 c.toNat] w fun e w'=>e=.returned (.bool (Ce c))∧w'=w:=by
 rw[Vg];go_enter func77,ntmps77
 by_cases h1:(97:Int)≤(c.toNat:Int)<;>by_cases h2:(c.toNat:Int)≤122<;>by_cases h3:(65:Int)≤(c.toNat:Int)<;>by_cases h4:(c.toNat:Int)≤90<;>by_cases h5:(c.toNat:Int)=95
 all_goals first
  |(exfalso;omega)
  |(go_wp2_with fail
    go_ret
    exact⟨Af (by first|rfl|(rw[Zd];simp only[Bool.or_eq_true,Zc,decide_eq_true_eq,beq_iff_eq,Bool.false_eq_true];omega)),rfl⟩)
def Ky:Bs:=[32,105,110,116,32,105,102,32,101,108,115,101,32,119,104,105,108,101,32,98,114,101,97,107,32,99,111,110,116,105,110,117,101,32,114,101,116,117,114,110,32,112,114,105,110,116,32,114,101,97,100,32,116,114,97,112,32]
def Ru(i:Nat)(s:Bs):Bool:=(Ky.drop i).take (s.length+2)==32::s++[32]
theorem Wb:∀(s r:Bs),(∀c,c∈s→c≠32)→(s++32::r).takeWhile (fun c=>c !=32)=s
 |[],r,_=>by simp
 |c::s,r,h=>by
  rw[Zm,List.takeWhile_cons,if_pos (by simpa using h c Zq),Wb s r (fun d hd=>h d (List.mem_cons_of_mem _ hd))]
theorem wrow_at:∀i:Fin 57,Ky.drop i.val=[]∨(Ky.drop i.val).head?≠some 32∨(Ky.drop (i.val+1)).takeWhile (fun c=>c !=32)=[]∨Fd ((Ky.drop (i.val+1)).takeWhile (fun c=>c !=32))=true:=by decide+kernel
theorem word_is {i:Nat}{s:Bs}(hi:i+s.length+2≤57)(hne:s≠[])(hs:∀c,c∈s→c≠32)(h:Ru i s=true):Fd s=true:=by
 unfold Ru at h;rw[beq_iff_eq]at h;have hd:Ky.drop i=32::s++32::(Ky.drop i).drop (s.length+2):=by
  have:=Zn (s.length+2) (Ky.drop i);rw[h]at this;rw[←this];simp
 have hd2:Ky.drop (i+1)=s++32::(Ky.drop i).drop (s.length+2):=by
  rw[←List.drop_drop];rw[hd];simp
 have ht:=Wb s ((Ky.drop i).drop (s.length+2)) hs;rw[←hd2]at ht;rcases wrow_at ⟨i,by omega⟩with e|e|e|e
 ·rw[show Ky.drop (⟨i,_⟩:Fin 57).val=Ky.drop i from rfl,hd]at e;cases e
 ·rw[show Ky.drop (⟨i,_⟩:Fin 57).val=Ky.drop i from rfl,hd]at e;exact absurd rfl e
 ·exact absurd (ht.symm.trans e) hne
 ·rw[ht]at e;exact e
def Pc(s:Bs):Nat:=(Iw.zip [0,4,7,12,18,24,33,40,46,51]).foldl (fun n p=>if p.1==s then p.2 else n) 0
theorem jR:∀s:Bs,Fd s=true→Pc s+s.length+2≤57∧Ru (Pc s) s=true:=by
 intro s h;unfold Fd Iw at h;simp only[List.contains_cons,List.contains_nil,Bool.or_false,Bool.or_eq_true,beq_iff_eq]at h;rcases h with rfl|rfl|rfl|rfl|rfl|rfl|rfl|rfl|rfl|rfl<;>decide+kernel
theorem Va:∀s:Bs,Fd s=true→s.all Ce=true:=by
 intro s h;unfold Fd Iw at h;simp only[List.contains_cons,List.contains_nil,Bool.or_false,Bool.or_eq_true,beq_iff_eq]at h;rcases h with rfl|rfl|rfl|rfl|rfl|rfl|rfl|rfl|rfl|rfl<;>decide+kernel
theorem Wx {c:UInt8}(h:Ce c=true):c≠32:=by rintro rfl;revert h;decide
theorem eP {i n:Nat}:(Aa Ky).extract i (i+n)=Aa ((Ky.drop i).take n):=by
 apply ByteArray.ext
 rw[ByteArray.data_extract];simp [Aa,List.extract_eq_take_drop]
theorem toList_eq(l:Bs):(Aa l).toList=l:=by rw[ByteArray.toList_eq]
theorem Ww(k:Nat)(s:Bs):(((⟨#[32,105,110,116,32,105,102,32,101,108,115,101,32,119,104,105,108,101,32,98,114,101,97,107,32,99,111,110,116,105,110,117,101,32,114,101,116,117,114,110,32,112,114,105,110,116,32,114,101,97,100,32,116,114,97,112,32]⟩:ByteArray).extract k (k+s.length+2)).toList==((⟨#[32]⟩:ByteArray)++Aa s++(⟨#[32]⟩:ByteArray)).toList)=Ru k s:=by
 have e1:((⟨#[32]⟩:ByteArray)++Aa s++(⟨#[32]⟩:ByteArray))=Aa (32::s++[32]):=by
  apply ByteArray.ext;simp [Aa]
 have e2:=eP (i:=k) (n:=s.length+2);rw[e1];show(((Aa Ky).extract k (k+(s.length+2))).toList==_)=_
 rw[e2,toList_eq,toList_eq];rfl
theorem Wj(s:Bs)(hs:s.length≤20)(w:World):
  Calls Zb 79 #[.string (Aa s)] w fun e w'=>e=.returned (.bool (Fd s))∧w'=w:=by
 have hsz:(Aa s).size=s.length:=by show s.toArray.size=_;simp
 have hsI:(s.length:Int)≤20:=by omega
 have HZ:=Za hsz;clear hsz;go_enter func79,ntmps79
 go_wp2_with fail
 go_loopw [3] (fun s3 wr=> ∃k:Nat,k≤s.length∧s3=.int .i64 k∧wr=w∧Hid (∀i,i<k→Ce (s.getD i 0)=true)) (fun s3 _=>s.length-(intOf s3).toNat)
 case atStart=>exact⟨0,Zh _,rfl,rfl,fun i hi=>absurd hi (by omega)⟩
 case round=>
  obtain⟨k,hk,rfl,rfl,HI⟩:=hrel
  by_cases hlt:k<s.length
  ·have hci:∀h,(Aa s)[k]'h=s[k]:=fun _=>rfl
   have hg:s.getD k 0=s[k]:=by simp [Zf hlt]
   have hkI:(k:Int)<(s.length:Int):=by omega
   have HLT:=Za hlt;have HG:=Za hg;clear hg;have HC:=Za (Jm s[k] wr)
   cases hl:Ce s[k]
   ·have hb:Fd s=false:=by
     cases q:Fd s
     ·rfl
     ·have h2:=Zi.1 (Va s q) s[k] (List.getElem_mem hlt)
      rw[hl]at h2;cases h2
    have HB:=Za hb;rw[hl]at HC;clear hb hl;go_wp2_with fail
    refine HC.o.mono ?_;rintro e w1 ⟨rfl,rfl⟩;go_wp2_with fail
    go_ret
    exact⟨Af HB.o.symm,rfl⟩
   ·have HL:=Za hl
    rw[hl]at HC;clear hl;go_wp2_with fail
    refine HC.o.mono ?_;rintro e w1 ⟨rfl,rfl⟩;go_wp2_with fail
    go_roundw
    case rel=>exact⟨k+1,by omega,by go_num,by first|trivial|rfl,fun i hi=>by rcases Zl.1 hi with h|rfl;exact HI.o i h;rw[HG.o];exact HL.o⟩
    case measure=>simp [intOf];omega
  ·have hkl:k=s.length:=by omega
   subst hkl;have HA:Hid (∀c,c∈s→c≠32):=fun c hc=>by
    obtain⟨i,hi,rfl⟩:=Zr hc;have:=HI.o i hi;rw[show s.getD i 0=s[i]by simp [Zf hi]]at this;exact Wx this
   clear HI;go_wp2_with fail
   go_loopw [4] (fun s4 wr'=> ∃k:Nat,k≤57∧s4=.int .i64 k∧wr'=wr∧Hid (∀i,i<k→Ru i s=false)) (fun s4 _=>57-(intOf s4).toNat)
   case atStart=>exact⟨0,Zh _,rfl,rfl,fun i hi=>absurd hi (by omega)⟩
   case round=>
    obtain⟨k,hk',rfl,rfl,HI⟩:=hrel
    by_cases hne:s=[]
    ·subst hne
     go_wp2_with fail
     go_ret
     exact⟨rfl,rfl⟩
    ·have he:(s==[])=false:=by rw[beq_eq_false_iff_ne];exact hne
     have hz:=HZ.o;have S1:IntKind.i64.wrap ((k:Int)+(s.length:Int))=((k+s.length:Nat):Int):=by rw[Int.natCast_add];exact IntWalk.i64_in _ (by omega)
     have S2:IntKind.i64.wrap (((k+s.length:Nat):Int)+2)=((k+s.length+2:Nat):Int):=by rw[show((k+s.length+2:Nat):Int)=((k+s.length:Nat):Int)+2 by omega];exact IntWalk.i64_in _ (by omega)
     have HNE:=Za hne;clear hne
     by_cases hlt:k+s.length+2≤57
     ·have i0:((k+s.length+2:Nat):Int)≤57:=by omega
      have i1:(k:Int)≤((k+s.length+2:Nat):Int):=by omega
      go_wp2_with fail
      ·rename_i hh
       have hx:=(Ww k s).symm.trans hh;go_ret
       exact⟨Af (word_is (by omega) HNE.o HA.o hx).symm,rfl⟩
      ·rename_i hh
       have hx:=Za ((Ww k s).symm.trans hh);have hn57:k+1≤57:=by omega
       clear hh;go_roundw
       case rel=>exact⟨k+1,hn57,by go_num,by first|trivial|rfl,fun i hi=>by rcases Zl.1 hi with h|rfl;exact HI.o i h;exact hx.out⟩
       case measure=>simp [intOf];omega
     ·have i0:¬((k+s.length+2:Nat):Int)≤57:=by omega
      have hb:Fd s=false:=by
       cases q:Fd s
       ·rfl
       ·obtain⟨h1,h2⟩:=jR s q
        rw[HI.o (Pc s) (by omega)]at h2;cases h2
      have HB:=Za hb;clear hb;go_wp2_with fail
      go_ret
      exact⟨Af HB.o.symm,rfl⟩
theorem Qx:∀(b:Bool) (s:Bs),Cw b s=true→∀c,c∈s→(Ce c||Dn c)=true
 |_,[],_,c,hc=>absurd hc (by simp)
 |b,d::s,h,c,hc=>by
  rw[Cw,Zc]at h;rcases List.mem_cons.1 hc with rfl|hc
  ·have h1:=h.1
   cases hl:Ce c
   ·rw[hl]at h1;cases hd:Dn c
    ·rw[hd]at h1;simp at h1
    ·rfl
   ·rfl
  ·exact Qx false s h.2 c hc
theorem Rz:∀(s:Bs),(∀c,c∈s→(Ce c||Dn c)=true)→Cw false s=true
 |[],_=>rfl
 |c::s,h=>by
  rw[Cw,Rz s (fun d hd=>h d (List.mem_cons_of_mem _ hd))];have:=h c Zq;simpa using this
theorem Ig(s:Bs)(w:World):
  Calls Zb 38 #[.string (Aa s)] w fun e w'=>e=.returned (.bool (An s))∧w'=w:=by
 have hsz:(Aa s).size=s.length:=by show s.toArray.size=_;simp
 by_cases h0:s=[]
 ·subst h0
  go_enter func38,ntmps38
  go_wp2_with fail
  go_ret
  exact⟨rfl,rfl⟩
 have hp:0<s.length:=List.length_pos_iff.2 h0;have hpI:(1:Int)≤(s.length:Int):=by omega
 by_cases h20:s.length≤20
 ·have h20I:(s.length:Int)≤20:=by omega
  obtain⟨c,hA,h00⟩:∃c,(Cw true s=(Ce c && Cw false (s.drop 1)))∧∀h,(Aa s)[0]'h=c:=by
   cases s with
   |nil=>exact absurd rfl h0
   |cons c r=>exact⟨c,by rw[Cw];simp,fun _=>rfl⟩
  have hN:An s=(!Fd s && Cw true s):=by unfold An;rw[decide_eq_true h20,show s.isEmpty=false by simpa using h0];simp
  have HC0:=Za (Jm c w)
  cases hl:Ce c
  ·have hb:An s=false:=by rw[hN,hA,hl];simp
   have HB:=Za hb;rw[hl]at HC0;clear hb hl hN hA h0 hsz;go_enter func38,ntmps38
   go_wp2_with fail
   refine HC0.o.mono ?_;rintro e w1 ⟨rfl,rfl⟩;go_wp2_with fail
   go_ret
   exact⟨Af HB.o.symm,rfl⟩
  ·have HN:Hid (∀b,Cw false (s.drop 1)=b→An s=(!Fd s && b)):=fun b h=>by rw[hN,hA,hl,h];simp
   have HBAD:Hid (∀i d,s[i]? =some d→(Ce d||Dn d)=false→An s=false):=fun i d h hb=>by
    cases q:An s
    ·rfl
    ·rw[hN,Zc]at q
     have:=Qx true s q.2 d (List.mem_of_getElem? h);rw[hb]at this;cases this
   rw[hl]at HC0;clear hl hN hA h0 hsz;have HW:=Za (Wj s h20 w);go_enter func38,ntmps38
   go_wp2_with fail
   refine HC0.o.mono ?_;rintro e w1 ⟨rfl,hw1⟩;subst hw1;go_wp2_with fail
   go_loopw [3] (fun s3 wr=> ∃k:Nat,k≤s.length∧s3=.int .i64 k∧wr=w1∧Hid (∀i d,s[i]? =some d→i<k→(Ce d||Dn d)=true)) (fun s3 _=>s.length-(intOf s3).toNat)
   case atStart=>exact⟨0,Zh _,rfl,rfl,fun i _ _ hi=>absurd hi (by omega)⟩
   case round=>
    obtain⟨k,hk,rfl,rfl,HI⟩:=hrel
    by_cases hlt:k<s.length
    ·obtain⟨d,hdk,hci⟩:∃d,s[k]? =some d∧∀h,(Aa s)[k]'h=d:=⟨s[k],Zf hlt,fun _=>rfl⟩
     have hkI:(k:Int)<(s.length:Int):=by omega
     have HLT:=Za hlt;have HC:=Za (Jm d wr);have HG:=Za (Un d wr);have HBK:=Za (HBAD.o k d hdk);have HNX:Hid ((Ce d||Dn d)=true→∀i e,s[i]? =some e→i<k+1→(Ce e||Dn e)=true):=fun hx i e h hi=>by
      rcases Zl.1 hi with h'|h'
      ·exact HI.o i e h h'
      ·subst h';rw[hdk]at h;cases h;exact hx
     clear HI hdk
     cases hl:Ce d
     ·rw[hl]at HC HBK HNX
      cases hg:Dn d
      ·rw[hg]at HG HBK
       clear hl hg HNX;go_wp2_with fail
       refine HC.o.mono ?_;rintro e w2 ⟨rfl,hw2⟩;subst hw2;go_wp2_with fail
       refine HG.o.mono ?_;rintro e w3 ⟨rfl,hw3⟩;subst hw3;go_wp2_with fail
       go_ret
       exact⟨Af (HBK.o rfl).symm,rfl⟩
      ·rw[hg]at HG HNX
       clear hl hg HBK;go_wp2_with fail
       refine HC.o.mono ?_;rintro e w2 ⟨rfl,hw2⟩;subst hw2;go_wp2_with fail
       refine HG.o.mono ?_;rintro e w3 ⟨rfl,hw3⟩;subst hw3;go_wp2_with fail
       go_roundw
       case rel=>exact⟨k+1,by omega,by go_num,by first|trivial|rfl,HNX.o rfl⟩
       case measure=>simp [intOf];omega
     ·rw[hl]at HC HNX
      clear hl HBK;go_wp2_with fail
      refine HC.o.mono ?_;rintro e w2 ⟨rfl,hw2⟩;subst hw2;go_wp2_with fail
      go_roundw
      case rel=>exact⟨k+1,by omega,by go_num,by first|trivial|rfl,HNX.o rfl⟩
      case measure=>simp [intOf];omega
    ·have hkl:k=s.length:=by omega
     subst hkl;have hAll:Cw false (s.drop 1)=true:=Rz _ (fun c hc=>by
      obtain⟨i,hi,rfl⟩:=Zr (List.mem_of_mem_drop hc);exact HI.o i _ (Zf hi) hi)
     have HN2:=Za (HN.o true hAll);clear hAll HI HN HBAD;go_wp2_with fail
     refine HW.o.mono ?_;rintro e w2 ⟨rfl,hw2⟩;subst hw2;go_wp2_with fail
     go_ret
     exact⟨Af (by rw[HN2.o];simp),rfl⟩
 ·have h20I:(20:Int)<(s.length:Int):=by omega
  have hb:An s=false:=by unfold An;rw[decide_eq_false h20];simp
  have HB:=Za hb;clear hb h0 h20 hsz;go_enter func38,ntmps38
  go_wp2_with fail
  go_ret
  exact⟨Af HB.o.symm,rfl⟩
theorem Ob(l:List Bs)(D:Nat→Prop)(v:Value)(w:World)(h:Ay D w l v):
  Calls Zb 39 #[v] w fun e w'=>e=.returned (.bool (l.all An))∧w'=w:=by
 obtain⟨a,c,b,off,rfl,hcap,hf,hp,hc⟩:=h;have l63:=hf.lt;have HP:=Za hp;have HC:=Za hc;clear hp hc hf;go_enter func39,ntmps39
 go_wp2_with fail
 go_loopw [3] (fun s3 wr=> ∃k:Nat,k≤l.length∧s3=.int .i64 k∧wr=w∧Hid (∀i,i<k→An (l.getD i [])=true)) (fun s3 _=>l.length-(intOf s3).toNat)
 case atStart=>exact⟨0,Zh _,rfl,rfl,fun i hi=>absurd hi (by omega)⟩
 case round=>
  obtain⟨k,hk,rfl,rfl,HI⟩:=hrel
  by_cases hlt:k<l.length
  ·have hkI:(k:Int)<(l.length:Int):=by omega
   have c0:=HC.o k hlt;obtain rfl:a=some ⟨b,off,none⟩:=by rcases HP.o with h|h;omega;exact h.1
   have HG:Hid (l.getD k []=l[k]):=by show _=_;simp [Zf hlt]
   have HLT:=Za hlt;have HN:=Za (Ig (l.getD k []) wr);obtain⟨d,hd⟩:∃d,l.getD k []=d:=⟨_,rfl⟩;have HD:=Za hd;have HM:Hid (d∈l):=by show _∈_;rw[←hd,HG.o];exact List.getElem_mem hlt
   rw[hd]at HN c0;clear hd HG
   cases hn:An d
   ·rw[hn]at HN
    have HNF:=Za hn;clear hn;go_wp2_with fail
    refine HN.o.mono ?_;rintro e w1 ⟨rfl,hw1⟩;subst hw1;go_wp2_with fail
    go_ret
    exact⟨Af (by
     cases q:l.all An
     ·rfl
     ·have:=Zi.1 q d HM.o
      rw[HNF.o]at this;cases this),rfl⟩
   ·rw[hn]at HN
    have HNT:=Za hn;clear hn;go_wp2_with fail
    refine HN.o.mono ?_;rintro e w1 ⟨rfl,hw1⟩;subst hw1;go_wp2_with fail
    go_roundw
    case rel=>exact⟨k+1,by omega,by go_num,by first|trivial|rfl,fun i hi=>by rcases Zl.1 hi with h|rfl;exact HI.o i h;rw[HD.o];exact HNT.o⟩
    case measure=>simp [intOf];omega
  ·have hA:l.all An=true:=Zi.2 (fun x hx=>by
    obtain⟨i,hi,rfl⟩:=Zr hx;have:=HI.o i (by omega);simpa [Zf hi]using this)
   have HAA:=Za hA;clear hA HI;go_wp2_with fail
   go_ret
   exact⟨Af HAA.o.symm,rfl⟩
def Gz:Nat→Ex→Nat
 |0,_=>1
 |m+1,e=>e.args.foldl (fun n a=>max n (Gz m a)) 0+1
theorem Lt {α:Type}(f:α→Nat):∀(l:List α) (n k:Nat),l.foldl (fun n a=>max n (f a)) n≤k↔n≤k∧∀a,a∈l→f a≤k
 |[],n,k=>by simp
 |x::l,n,k=>by
  rw[List.foldl_cons,Lt f l];constructor
  ·rintro⟨h1,h2⟩
   exact⟨by omega,fun a ha=>by rcases List.mem_cons.1 ha with rfl|ha;omega;exact h2 a ha⟩
  ·rintro⟨h1,h2⟩
   exact⟨by have:=h2 x Zq;omega,fun a ha=>h2 a (List.mem_cons_of_mem _ ha)⟩
theorem Rj:∀(k m:Nat) (e:Ex),k≤m→(Gz m e≤k↔Fn k e=true)
 |0,m,e,_=>by cases m<;>simp [Gz,Fn]
 |k+1,0,e,h=>absurd h (by omega)
 |k+1,m+1,e,h=>by
  rw[Gz,Fn,Zi,Nat.add_le_add_iff_right,Lt];constructor
  ·exact fun h1 a ha=>(Rj k m a (by omega)).1 (h1.2 a ha)
  ·exact fun h1=>⟨Zh _,fun a ha=>(Rj k m a (by omega)).2 (h1 a ha)⟩
theorem Rw:∀(m:Nat) (e:Ex),Gz m e≤m+1
 |0,e=>Zk _
 |m+1,e=>by rw[Gz,Nat.add_le_add_iff_right,Lt];exact⟨Zh _,fun a _=>Rw m a⟩
theorem aE(e:Ex):(decide ((Gz 41 e:Int)≤40) && Bb e)=Be e:=by
 unfold Be;congr 1
 rw[Zd,decide_eq_true_iff,←Rj 40 41 e (by omega)];omega
def Ik:Nat→List St→Nat
 |0,_=>0
 |m+1,l=>l.foldl (fun n x=>max n (max (1+Ik m x.thn) (1+Ik m x.els))) 0
def Kr(x:St):Bool:=
 let name:=An x.name
 let none:=x.name==[]
 let blocks:=x.thn.length==0 && x.els.length==0
 let fine:=if x.kind=1∨x.kind=2 then name && blocks else if x.kind=3 then none else if x.kind=4 then none && x.els.length==0
  else if x.kind=5∨x.kind=6 then none && blocks else if x.kind=7∨x.kind=8∨x.kind=9 then none && blocks
  else if x.kind=10 then none && blocks && x.args.length==1 && (x.args.headD (.mk 0 0 0 [] [])).kind==5 else false
 fine && x.args.length==(if x.kind=2 then 2 else if x.kind=5∨x.kind=6 then 0 else 1)
mutual
def Jb:St→Bool
 |.mk k nm args thn els=>args.all Be && Ee thn && Ee els && Kr (.mk k nm args thn els)
def Ee:List St→Bool
 |[]=>true
 |x::l=>Jb x && Ee l
end
theorem Jw:∀l,Ee l=l.all Jb
 |[]=>rfl
 |x::l=>by simp [Ee,Jw l]
theorem Nt(x:St):Jb x=(x.args.all Be && Ee x.thn && Ee x.els && Kr x):=by cases x;rw[Jb];rfl
theorem gE(m:Nat)(x:St):(!Ge ((m+1:Nat):Int) x && !In x)=Kr x:=by
 have hm:(((m+1:Nat):Int)==0)=false:=by rw[beq_eq_false_iff_ne];omega
 have hl:∀(l:List St),l.isEmpty=(l.length==0):=fun l=>by cases l<;>rfl
 have hn:An []=false:=rfl;obtain⟨k,nm,args,thn,els⟩:=x;unfold Ge In Kr;dsimp only[St.kind,St.name,St.args,St.thn,St.els];rw[hm,hl,hl];generalize (thn.length==0)=bt;generalize (els.length==0)=be;generalize ((args.headD (.mk 0 0 0 [] [])).kind==5)=hd;generalize args.length=n
 by_cases hk:1≤k∧k≤10
 ·have hc:k=1∨k=2∨k=3∨k=4∨k=5∨k=6∨k=7∨k=8∨k=9∨k=10:=by omega
  have e0:((n:Int)==0)=(n==0):=by rw[Zd,beq_iff_eq,beq_iff_eq];omega
  have e1:((n:Int)==1)=(n==1):=by rw[Zd,beq_iff_eq,beq_iff_eq];omega
  have e2:((n:Int)==2)=(n==2):=by rw[Zd,beq_iff_eq,beq_iff_eq];omega
  have en:(nm==[])=true→An nm=false:=fun h=>by rw[beq_iff_eq.1 h];rfl
  rcases hc with rfl|rfl|rfl|rfl|rfl|rfl|rfl|rfl|rfl|rfl
  all_goals
   simp only[fOk,Ea,Gv,Gu,Dq,Int.reduceLE,Int.reduceEq,and_self,or_self,or_true,true_or,decide_true,decide_false,Bool.not_true,Bool.not_false,Bool.false_or,Bool.true_and,Bool.false_and,Bool.or_false,if_true,if_false,Bool.true_beq,Bool.false_beq,e0,e1,e2,Int.reduceBEq]
   revert en
   cases An nm<;>cases nm==[]<;>cases bt<;>cases be<;>cases hd<;>simp<;>(try(cases n==1<;>simp))
 ·have h1:fOk k=false:=decide_eq_false hk
  rw[h1];have ne:∀j:Int,1≤j→j≤10→k≠j:=fun j a b e=>hk ⟨by omega,by omega⟩
  simp [ne 1 (by decide) (by decide),ne 2 (by decide) (by decide),ne 3 (by decide) (by decide),ne 4 (by decide) (by decide),ne 5 (by decide) (by decide),ne 6 (by decide) (by decide),ne 7 (by decide) (by decide),ne 8 (by decide) (by decide),ne 9 (by decide) (by decide),ne 10 (by decide) (by decide)]
theorem Yq:∀(k m:Nat) (l:List St),k<m→((Ik m l≤k∧Ee l=true)↔l.all (De k)=true)
 |k,0,l,h=>absurd h (by omega)
 |0,m+1,l,_=>by
  cases l with
  |nil=>simp [Ik,Ee]
  |cons x l=>
   rw[Ik,Lt];simp only[List.all_cons,De,Bool.false_and,Bool.false_eq_true,iff_false];rintro⟨⟨_,h⟩,_⟩;have:=h x Zq;omega
 |k+1,m+1,l,h=>by
  rw[Ik,Lt,Jw,Zi,Zi];have one:∀x:St,(max (1+Ik m x.thn) (1+Ik m x.els)≤k+1∧Jb x=true)↔De (k+1) x=true:=by
   intro x;have h1:=Yq k m x.thn (by omega);have h2:=Yq k m x.els (by omega);have h3:De (k+1) x=(!Ge ((k+1:Nat):Int) x && !In x && x.args.all Be && x.thn.all (De k) && x.els.all (De k)):=by rw[De];rfl
   rw[h3,gE,Nt];simp only[Zc];rw[←h1,←h2];constructor
   ·rintro⟨a,⟨⟨b,c⟩,d⟩,e⟩;exact⟨⟨⟨e,b⟩,by omega,c⟩,by omega,d⟩
   ·rintro⟨⟨⟨e,b⟩,a1,c⟩,a2,d⟩;exact⟨by omega,⟨⟨b,c⟩,d⟩,e⟩
  constructor
  ·rintro⟨⟨_,h1⟩,h2⟩ x hx;exact(one x).1 ⟨h1 x hx,h2 x hx⟩
  ·intro h1;exact⟨⟨Zh _,fun x hx=>((one x).2 (h1 x hx)).1⟩,fun x hx=>((one x).2 (h1 x hx)).2⟩
theorem Mu:∀(m:Nat) (l:List St),Ik m l≤m
 |0,l=>Zk _
 |m+1,l=>by
  rw[Ik,Lt];exact⟨Zh _,fun x _=>by have h1:=Mu m x.thn;have h2:=Mu m x.els;omega⟩
theorem Tn(l:List St):(decide ((Ik 42 l:Int)≤40) && Ee l)=l.all (De 40):=by
 rw[Zd,Zc,decide_eq_true_iff,←Yq 40 42 l (by omega)];constructor
 ·rintro⟨a,b⟩;exact⟨by omega,b⟩
 ·rintro⟨a,b⟩;exact⟨by omega,b⟩
theorem Tm {α:Type}(f:α→Nat)(d:α)(l:List α)(k:Nat)(h:k<l.length):(l.take (k+1)).foldl (fun n a=>max n (f a)) 0=max ((l.take k).foldl (fun n a=>max n (f a)) 0) (f (l.getD k d)):=by
 rw[List.take_add_one,List.foldl_append,Zf h];simp [Zf h]
def Uw(e:Ex):Prop:= ∀(m:Nat),m≤41→∀(D:Nat→Prop) (s:Value) (w:World),Aj D w e.args s→
 Calls Zb 56 #[exV e s,.int .i64 m] w fun r w'=>r=.returned (.int .i64 (Gz m e))∧Below w.heap.size w w'
theorem aW(e:Ex)(ih:∀x,x∈e.args→Uw x):Uw e:=by
 intro m hm D s w h;obtain⟨a,c,rfl⟩:=h.shape;have l63:=h.fits.lt;have H:=Za h;have IH:=Za ih;clear h ih;have hbA:Below w.heap.size w (w.alloc (.cells #[.int .i64 e.kind,.int .i64 e.op,.int .i64 e.n,.string (Aa e.name),.slice a e.args.length c] 31)):=bA;have HB:=Za hbA;have HOP:=Za (Ze w [.int .i64 e.kind,.int .i64 e.op,.int .i64 e.n,.string (Aa e.name),.slice a e.args.length c] 31);have HE:=Za (H.out.old hbA);clear hbA;have HR0:Hid (Gz 0 e=1):=by cases e;rfl
 have HR1:Hid (0<m→Gz m e=e.args.foldl (fun n a=>max n (Gz (m-1) a)) 0+1):=by
  intro h0;obtain⟨q,rfl⟩:∃q,m=q+1:=⟨m-1,by omega⟩;rw[Gz];rfl
 have hmI:(m:Int)≤41:=by omega
 go_enter func56,ntmps56
 go_upto_region 1 with(fail)
 generalize w.alloc (.cells #[.int .i64 e.kind,.int .i64 e.op,.int .i64 e.n,.string (Aa e.name),.slice a e.args.length c] 31)=W1 at*;go_wp2_with fail
 go_loopw [5,6] (fun s5 s6 wr=> ∃k n:Nat,k≤e.args.length∧s6=.int .i64 k∧s5=.int .i64 n∧n=(e.args.take k).foldl (fun n a=>max n (Gz (m-1) a)) 0∧n≤41∧(m=0→k=0)∧Hid (Below w.heap.size w wr)∧Hid (Al wr w.heap.size [.int .i64 e.kind,.int .i64 e.op,.int .i64 e.n,.string (Aa e.name),.slice a e.args.length c] 31)∧Hid (Aj D wr e.args (.slice a e.args.length c))) (fun _ s6 _=>e.args.length-(intOf s6).toNat)
 case atStart=>exact⟨0,0,Zh _,rfl,rfl,by simp,by omega,fun _=>rfl,HB,HOP,HE⟩
 case round=>
  obtain⟨k,n,hk,rfl,rfl,hn,hn41,hmk,GB,GO,GE⟩:=hrel;clear HB HOP HE;have q4:=GO.out.at 4 _ rfl
  by_cases hlt:k<e.args.length
  ·have hkI:(k:Int)<(e.args.length:Int):=by omega
   by_cases hm0:0<m
   ·have hmp:(m:Int)>0:=by omega
    have hmp2:(0:Int)<(m:Int):=by omega
    obtain⟨eb,off,es,rfl,hD,c0,c1,c2,c3,c4,hes,hn64⟩:=GE.out.cellAt k hlt;have HIX:=Za (IH.out (Ao e.args k) (Bf hlt) (m-1) (by omega) D es);have HES:=Za hes;have HNX:Hid (max n (Gz (m-1) (Ao e.args k))=(e.args.take (k+1)).foldl (fun n a=>max n (Gz (m-1) a)) 0):=by show _=_;rw[Tm _ Ex.nil _ _ hlt,←hn]
    have hd41:=Rw (m-1) (Ao e.args k);have hdm:Gz (m-1) (Ao e.args k)≤41:=by omega
    have S1:IntKind.i64.wrap ((m:Int)-1)=((m-1:Nat):Int):=by rw[show((m-1:Nat):Int)=(m:Int)-1 by omega];exact IntWalk.i64_in _ (by omega)
    clear hes hn64 hD hn hd41;generalize Ao e.args k=x at*;have HC:=Za (HIX.o wr HES.o);clear HIX HES;clear hmk;go_wp2_with fail
    refine HC.o.mono ?_;rintro r w2 ⟨rfl,hb2⟩;have GB2:=Za (GB.out.trans (hb2.mono GB.out.size));have GO2:=Za (GO.out.old hb2);have GE2:=Za (GE.out.old hb2);have hmx:n≤41∧Gz (m-1) x≤41:=⟨hn41,hdm⟩;clear hb2 q4 c0 c1 c2 c3 c4 HC GB GO GE S1;go_wp2_with fail
    go_roundw
    case rel=>exact⟨k+1,max n (Gz (m-1) x),by omega,by go_num,by go_num,HNX.o,by omega,fun h=>absurd hm0 (by omega),GB2,GO2,GE2⟩
    case measure=>simp [intOf];omega
   ·obtain rfl:m=0:=by omega
    obtain rfl:=hmk rfl;have hn0:n=0:=by rw[hn];simp
    subst hn0;clear hn IH HR1;have hz:¬(((0:Nat):Int)>0):=by omega
    go_wp2_with fail
    go_ret
    exact⟨by rw[HR0.o];rfl,GB.out⟩
  ·have e0:e.args.take k=e.args:=List.take_of_length_le (by omega)
   rw[e0]at hn;have hR:Gz m e=n+1:=by
    by_cases hm0:0<m
    ·rw[HR1.o hm0,hn]
    ·obtain rfl:m=0:=by omega
     obtain rfl:=hmk rfl;have hn0:n=0:=by
      have:e.args=[]:=List.length_eq_zero_iff.1 (by omega);rw[hn,this];rfl
     rw[hn0,HR0.o]
   have S1:IntKind.i64.wrap ((n:Int)+1)=((n+1:Nat):Int):=by rw[show((n+1:Nat):Int)=(n:Int)+1 by omega];exact IntWalk.i64_in _ (by omega)
   have HRR:=Za hR;clear hR hn e0 HR0 HR1 IH;go_wp2_with fail
   go_ret
   exact⟨by rw[HRR.o];rfl,GB.out⟩
theorem Tk:∀(n:Nat) (e:Ex),SizeOf.sizeOf e≤n→Uw e
 |0,e,h=>by cases e;simp at h
 |n+1,e,h=>aW e fun x hx=>Tk n x (by have:=Ex.size_lt hx;omega)
theorem dN(e:Ex):Uw e:=Tk _ e (Zk _)
def Fx(e:Ex)(op n nm:Bool)(k:Int):Bool:=(op||e.op==0) && (n||e.n==0) && (nm||e.name==[]) && ((e.args.length:Int)==k)
theorem iR(e:Ex)(op n nm:Bool)(k:Int)(a:Option Addr)(c:Nat)(w:World):
  Calls Zb 96 #[exV e (.slice a e.args.length c),.bool op,.bool n,.bool nm,.int .i64 k] w fun r w'=>r=.returned (.bool (Fx e op n nm k))∧Below w.heap.size w w':=by
 have HOP:=Za (Ze w [.int .i64 e.kind,.int .i64 e.op,.int .i64 e.n,.string (Aa e.name),.slice a e.args.length c] 31);have q1:=HOP.o.at 1 _ rfl;have q2:=HOP.o.at 2 _ rfl;have q3:=HOP.o.at 3 _ rfl;have q4:=HOP.o.at 4 _ rfl;unfold Fx;show Calls _ _ #[.agg #[.int .i64 e.kind,.int .i64 e.op,.int .i64 e.n,.string (Aa e.name),.slice a e.args.length c],.bool op,.bool n,.bool nm,.int .i64 k] _ _
 generalize e.args.length=len at*;generalize e.kind=kd at*;generalize e.op=o at*;generalize e.n=m at*;generalize e.name=s at*;clear HOP
 cases op<;>cases n<;>cases nm
 all_goals
  go_enter func96,ntmps96
  go_wp2_with fail
 all_goals
  go_ret
  exact⟨Af (by simp_all),bA⟩
def RrOf(e:Ex):Prop:= ∀(D:Nat→Prop) (s:Value) (w:World),Aj D w e.args s→
 Calls Zb 57 #[exV e s] w fun r w'=>r=.returned (.bool (Bb e))∧Below w.heap.size w w'
def swB(e:Ex):Bool:=
 if e.kind=1 then Fx e false true false 0 && decide (0≤e.n)
 else if e.kind=2 then Fx e false false true 0 && An e.name
 else if e.kind=3 then Fx e true false false 1 && decide (17≤e.op) && decide (e.op≤19)
 else if e.kind=4 then Fx e true false false 2 && decide (1≤e.op) && decide (e.op≤16)
 else if e.kind=5 then Fx e false false true e.args.length && An e.name && decide ((e.args.length:Int)≤6)
 else if e.kind=6 then Fx e false false true 1 && An e.name
 else if e.kind=7 then Fx e false false false 0 else false
theorem Vt(o:Int):decide (0<Au o)=(decide (1≤o) && decide (o≤16)):=by
 by_cases h:1≤o∧o≤16
 ·have:o=1∨o=2∨o=3∨o=4∨o=5∨o=6∨o=7∨o=8∨o=9∨o=10∨o=11∨o=12∨o=13∨o=14∨o=15∨o=16:=by omega
  rcases this with rfl|rfl|rfl|rfl|rfl|rfl|rfl|rfl|rfl|rfl|rfl|rfl|rfl|rfl|rfl|rfl<;>decide+kernel
 ·have ne:∀j:Int,1≤j→j≤16→o≠j:=fun j a b e=>h ⟨by omega,by omega⟩
  have e0:Au o=0:=by
   unfold Au;rw[if_neg (ne 1 (by decide) (by decide)),if_neg (ne 2 (by decide) (by decide)),if_neg (ne 3 (by decide) (by decide)),if_neg (ne 4 (by decide) (by decide)),if_neg (ne 5 (by decide) (by decide)),if_neg (ne 6 (by decide) (by decide)),if_neg (ne 7 (by decide) (by decide)),if_neg (ne 8 (by decide) (by decide)),if_neg (ne 9 (by decide) (by decide)),if_neg (ne 10 (by decide) (by decide)),if_neg (ne 11 (by decide) (by decide)),if_neg (ne 12 (by decide) (by decide)),if_neg (ne 13 (by decide) (by decide)),if_neg (ne 14 (by decide) (by decide)),if_neg (ne 15 (by decide) (by decide)),if_neg (ne 16 (by decide) (by decide))]
  rw[e0];rw[show decide ((0:Int)<0)=false from rfl]
  symm
  rw[Bool.and_eq_false_iff,decide_eq_false_iff_not,decide_eq_false_iff_not];omega
theorem swB_eq(e:Ex):swB e=Bw e:=by
 obtain⟨k,o,n,nm,args⟩:=e;unfold swB Bw Du Ca Gd Ho Ds Fx;dsimp only[Ex.kind,Ex.op,Ex.n,Ex.name,Ex.args];have c0:((0:Int)==o)=(o==0):=by rw[Zd,beq_iff_eq,beq_iff_eq];omega
 have c1:((0:Int)==n)=(n==0):=by rw[Zd,beq_iff_eq,beq_iff_eq];omega
 have c2:(([]:Bs)==nm)=(nm==[]):=by rw[Zd,beq_iff_eq,beq_iff_eq];exact eq_comm
 by_cases hk:1≤k∧k≤7
 ·have hc:k=1∨k=2∨k=3∨k=4∨k=5∨k=6∨k=7:=by omega
  rcases hc with rfl|rfl|rfl|rfl|rfl|rfl|rfl
  all_goals
   simp only[Int.reduceEq,or_self,or_true,true_or,if_true,if_false,beq_self_eq_true,Bool.and_true,Bool.true_and,Bool.false_or,Bool.true_or,decide_true,c0,c1,c2,Vt]
  ·cases(o==0)<;>cases(n==0)<;>cases(nm==[])<;>cases((args.length:Int)==0)<;>simp
  ·cases(o==0)<;>cases(n==0)<;>cases An nm<;>cases((args.length:Int)==0)<;>simp
  ·have:(o=17∨o=18∨o=19)↔(17≤o∧o≤19):=by omega
   cases(n==0)<;>cases(nm==[])<;>cases((args.length:Int)==1)<;>simp [this]<;>(rw[Zd];simp only[Zc,decide_eq_true_eq];exact⟨fun h=>⟨of_decide_eq_true h.1,of_decide_eq_true h.2⟩,fun h=>⟨decide_eq_true h.1,decide_eq_true h.2⟩⟩)
  ·have hl:0<Au o↔(1≤o∧o≤16):=by have:=Vt o;rw[Zd,Zc,decide_eq_true_iff,decide_eq_true_iff,decide_eq_true_iff]at this;exact this
   cases(n==0)<;>cases(nm==[])<;>cases((args.length:Int)==2)<;>simp<;>(rw[Zd];simp only[Zc,decide_eq_true_eq,hl];exact⟨fun h=>⟨of_decide_eq_true h.1,of_decide_eq_true h.2⟩,fun h=>⟨decide_eq_true h.1,decide_eq_true h.2⟩⟩)
  ·cases(o==0)<;>cases(n==0)<;>cases An nm<;>simp
  ·cases(o==0)<;>cases(n==0)<;>cases An nm<;>cases((args.length:Int)==1)<;>simp
  ·cases(o==0)<;>cases(n==0)<;>cases(nm==[])<;>cases((args.length:Int)==0)<;>simp
 ·have ne:∀j:Int,1≤j→j≤7→k≠j:=fun j a b e=>hk ⟨by omega,by omega⟩
  simp [ne 1 (by decide) (by decide),ne 2 (by decide) (by decide),ne 3 (by decide) (by decide),ne 4 (by decide) (by decide),ne 5 (by decide) (by decide),ne 6 (by decide) (by decide),ne 7 (by decide) (by decide)]
theorem Wz(e:Ex)(ih:∀x,x∈e.args→RrOf x):RrOf e:=by
 intro D s w h;obtain⟨a,c,rfl⟩:=h.shape;have l63:=h.fits.lt;have H:=Za h;have IH:=Za ih;clear h ih;have hbA:Below w.heap.size w (w.alloc (.cells #[.int .i64 e.kind,.int .i64 e.op,.int .i64 e.n,.string (Aa e.name),.slice a e.args.length c] 31)):=bA;have HB:=Za hbA;have HOP:=Za (Ze w [.int .i64 e.kind,.int .i64 e.op,.int .i64 e.n,.string (Aa e.name),.slice a e.args.length c] 31);have HE:=Za (H.out.old hbA);clear hbA;have HW:Hid (Bb e=(Bw e && e.args.all Bb)):=Hf e;go_enter func57,ntmps57
 go_upto_region 1 with(fail)
 generalize w.alloc (.cells #[.int .i64 e.kind,.int .i64 e.op,.int .i64 e.n,.string (Aa e.name),.slice a e.args.length c] 31)=W1 at*;go_wp2_with fail
 go_loopw [3] (fun s3 wr=> ∃k:Nat,k≤e.args.length∧s3=.int .i64 k∧Hid (∀i,i<k→Bb (Ao e.args i)=true)∧Hid (Below w.heap.size w wr)∧Hid (Al wr w.heap.size [.int .i64 e.kind,.int .i64 e.op,.int .i64 e.n,.string (Aa e.name),.slice a e.args.length c] 31)∧Hid (Aj D wr e.args (.slice a e.args.length c))) (fun s3 _=>e.args.length-(intOf s3).toNat)
 case atStart=>exact⟨0,Zh _,rfl,fun i hi=>absurd hi (by omega),HB,HOP,HE⟩
 case round=>
  obtain⟨k,hk,rfl,HI,GB,GO,GE⟩:=hrel;clear HB HOP HE;have q4:=GO.out.at 4 _ rfl
  by_cases hlt:k<e.args.length
  ·have hkI:(k:Int)<(e.args.length:Int):=by omega
   obtain⟨eb,off,es,rfl,hD,c0,c1,c2,c3,c4,hes,hn64⟩:=GE.out.cellAt k hlt;have HIX:=Za (IH.out (Ao e.args k) (Bf hlt) D es);have HES:=Za hes;have HLT:=Za hlt;clear hes hn64 hD;generalize hx:Ao e.args k=x at*;have HX:=Za hx;clear hx;have HC:=Za (HIX.o wr HES.o);clear HIX HES
   cases hr:Bb x
   ·rw[hr]at HC
    have HRF:=Za hr;clear hr;go_wp2_with fail
    refine HC.o.mono ?_;rintro r w2 ⟨rfl,hb2⟩;have GB2:=Za (GB.out.trans (hb2.mono GB.out.size));clear hb2 q4 c0 c1 c2 c3 c4 HC;go_wp2_with fail
    go_ret
    exact⟨Af (by
     rw[HW.o]
     cases q:e.args.all Bb
     ·simp
     ·have:=Zi.1 q _ (Bf HLT.o)
      rw[HX.o,HRF.o]at this;cases this),GB2.out⟩
   ·rw[hr]at HC
    have HRT:=Za hr;clear hr;go_wp2_with fail
    refine HC.o.mono ?_;rintro r w2 ⟨rfl,hb2⟩;have GB2:=Za (GB.out.trans (hb2.mono GB.out.size));have GO2:=Za (GO.out.old hb2);have GE2:=Za (GE.out.old hb2);clear hb2 q4 c0 c1 c2 c3 c4 HC GB GO GE;go_wp2_with fail
    go_roundw
    case rel=>exact⟨k+1,by omega,by go_num,fun i hi=>by rcases Zl.1 hi with h|rfl;exact HI.o i h;rw[HX.o];exact HRT.o,GB2,GO2,GE2⟩
    case measure=>simp [intOf];omega
  ·have hA:e.args.all Bb=true:=Zi.2 (fun x hx=>by
    obtain⟨i,hi,rfl⟩:=Zr hx;have:=HI.o i (by omega)
    rwa[Ld hi]at this)
   have hW:Bb e=swB e:=by rw[HW.o,hA,swB_eq];simp
   have HWW:=Za hW;clear hW hA HI HW IH;have q0:=GO.out.at 0 _ rfl;have q3:=GO.out.at 3 _ rfl;have HN:=Za (Ig e.name wr);have HBR:=Za (fun op n nm k w=>iR e op n nm k a c w);go_wp2_with fail
   refine HN.o.mono ?_;rintro r w2 ⟨rfl,hw2⟩;subst hw2;have q1:=GO.out.at 1 _ rfl;have q2:=GO.out.at 2 _ rfl;clear HN H;have q0k:=Za q0;have HS:Hid (swB e=swB e):=rfl;have HK:Hid (∀op n nm k (w:World),Calls Zb 96 #[.agg #[.int .i64 e.kind,.int .i64 e.op,.int .i64 e.n,.string (Aa e.name),.slice a e.args.length c],.bool op,.bool n,.bool nm,.int .i64 k] w fun r w'=>r=.returned (.bool (Fx e op n nm k))∧Below w.heap.size w w'):=HBR.o;clear HBR HS q0k;have hall:(e.kind=1∨e.kind=2∨e.kind=3∨e.kind=4∨e.kind=5∨e.kind=6∨e.kind=7)∨(e.kind≠1∧e.kind≠2∧e.kind≠3∧e.kind≠4∧e.kind≠5∧e.kind≠6∧e.kind≠7):=by omega
   rcases hall with(h1|h1|h1|h1|h1|h1|h1)|⟨h1,h2,h3,h4,h5,h6,h7⟩
   ·have HS:Hid (swB e=(Fx e false true false 0 && decide (0≤e.n))):=by show _=_;unfold swB;rw[if_pos h1]
    have HC:=Za (fun w=>HK.o false true false 0 w);rw[h1]at q0 HC GO;obtain⟨b,hb⟩:∃b,Fx e false true false 0=b:=⟨_,rfl⟩;rw[hb]at HC HS;clear HK h1 hb
    cases b<;>by_cases t0:0≤e.n
    all_goals
     go_wp2_with fail
     refine(HC.o _).mono ?_;rintro r w3 ⟨rfl,hb3⟩;have GB3:=Za (GB.out.trans (hb3.mono GB.out.size));have GO3:=Za (GO.out.old hb3);have r1:=GO3.out.at 1 _ rfl;have r2:=GO3.out.at 2 _ rfl;have r4:=GO3.out.at 4 _ rfl;go_wp2_with fail
     go_ret
     exact⟨Af (by rw[HWW.o,HS.o];try simp_all),GB3.out⟩
   ·have HS:Hid (swB e=(Fx e false false true 0 && An e.name)):=by show _=_;unfold swB;rw[if_neg (by omega)];rw[if_pos h1]
    have HC:=Za (fun w=>HK.o false false true 0 w);rw[h1]at q0 HC GO;obtain⟨b,hb⟩:∃b,Fx e false false true 0=b:=⟨_,rfl⟩;rw[hb]at HC HS;clear HK h1 hb;obtain⟨nn,hnn⟩:∃nn,An e.name=nn:=⟨_,rfl⟩;rw[hnn]at HS ⊢;clear hnn
    cases b
    all_goals
     go_wp2_with fail
     refine(HC.o _).mono ?_;rintro r w3 ⟨rfl,hb3⟩;have GB3:=Za (GB.out.trans (hb3.mono GB.out.size));have GO3:=Za (GO.out.old hb3);have r1:=GO3.out.at 1 _ rfl;have r2:=GO3.out.at 2 _ rfl;have r4:=GO3.out.at 4 _ rfl;go_wp2_with fail
     go_ret
     exact⟨Af (by rw[HWW.o,HS.o];try simp_all),GB3.out⟩
   ·have HS:Hid (swB e=(Fx e true false false 1 && decide (17≤e.op) && decide (e.op≤19))):=by show _=_;unfold swB;rw[if_neg (by omega)];rw[if_neg (by omega)];rw[if_pos h1]
    have HC:=Za (fun w=>HK.o true false false 1 w);rw[h1]at q0 HC GO;obtain⟨b,hb⟩:∃b,Fx e true false false 1=b:=⟨_,rfl⟩;rw[hb]at HC HS;clear HK h1 hb
    cases b<;>by_cases t0:17≤e.op<;>by_cases t1:e.op≤19
    all_goals try(exfalso;omega)
    all_goals
     go_wp2_with fail
     refine(HC.o _).mono ?_;rintro r w3 ⟨rfl,hb3⟩;have GB3:=Za (GB.out.trans (hb3.mono GB.out.size));have GO3:=Za (GO.out.old hb3);have r1:=GO3.out.at 1 _ rfl;have r2:=GO3.out.at 2 _ rfl;have r4:=GO3.out.at 4 _ rfl;go_wp2_with fail
     go_ret
     exact⟨Af (by rw[HWW.o,HS.o];try simp_all),GB3.out⟩
   ·have HS:Hid (swB e=(Fx e true false false 2 && decide (1≤e.op) && decide (e.op≤16))):=by show _=_;unfold swB;rw[if_neg (by omega)];rw[if_neg (by omega)];rw[if_neg (by omega)];rw[if_pos h1]
    have HC:=Za (fun w=>HK.o true false false 2 w);rw[h1]at q0 HC GO;obtain⟨b,hb⟩:∃b,Fx e true false false 2=b:=⟨_,rfl⟩;rw[hb]at HC HS;clear HK h1 hb
    cases b<;>by_cases t0:1≤e.op<;>by_cases t1:e.op≤16
    all_goals try(exfalso;omega)
    all_goals
     go_wp2_with fail
     refine(HC.o _).mono ?_;rintro r w3 ⟨rfl,hb3⟩;have GB3:=Za (GB.out.trans (hb3.mono GB.out.size));have GO3:=Za (GO.out.old hb3);have r1:=GO3.out.at 1 _ rfl;have r2:=GO3.out.at 2 _ rfl;have r4:=GO3.out.at 4 _ rfl;go_wp2_with fail
     go_ret
     exact⟨Af (by rw[HWW.o,HS.o];try simp_all),GB3.out⟩
   ·have HS:Hid (swB e=(Fx e false false true e.args.length && An e.name && decide ((e.args.length:Int)≤6))):=by show _=_;unfold swB;rw[if_neg (by omega)];rw[if_neg (by omega)];rw[if_neg (by omega)];rw[if_neg (by omega)];rw[if_pos h1]
    have HC:=Za (fun w=>HK.o false false true (e.args.length:Int) w);rw[h1]at q0 HC GO;obtain⟨b,hb⟩:∃b,Fx e false false true e.args.length=b:=⟨_,rfl⟩;rw[hb]at HC HS;clear HK h1 hb;obtain⟨nn,hnn⟩:∃nn,An e.name=nn:=⟨_,rfl⟩;rw[hnn]at HS ⊢;clear hnn
    cases b<;>cases nn<;>by_cases t0:(e.args.length:Int)≤6
    all_goals
     go_wp2_with fail
     refine(HC.o _).mono ?_;rintro r w3 ⟨rfl,hb3⟩;have GB3:=Za (GB.out.trans (hb3.mono GB.out.size));have GO3:=Za (GO.out.old hb3);have r1:=GO3.out.at 1 _ rfl;have r2:=GO3.out.at 2 _ rfl;have r4:=GO3.out.at 4 _ rfl;go_wp2_with fail
     go_ret
     exact⟨Af (by rw[HWW.o,HS.o];try simp_all),GB3.out⟩
   ·have HS:Hid (swB e=(Fx e false false true 1 && An e.name)):=by show _=_;unfold swB;rw[if_neg (by omega)];rw[if_neg (by omega)];rw[if_neg (by omega)];rw[if_neg (by omega)];rw[if_neg (by omega)];rw[if_pos h1]
    have HC:=Za (fun w=>HK.o false false true 1 w);rw[h1]at q0 HC GO;obtain⟨b,hb⟩:∃b,Fx e false false true 1=b:=⟨_,rfl⟩;rw[hb]at HC HS;clear HK h1 hb;obtain⟨nn,hnn⟩:∃nn,An e.name=nn:=⟨_,rfl⟩;rw[hnn]at HS ⊢;clear hnn
    cases b
    all_goals
     go_wp2_with fail
     refine(HC.o _).mono ?_;rintro r w3 ⟨rfl,hb3⟩;have GB3:=Za (GB.out.trans (hb3.mono GB.out.size));have GO3:=Za (GO.out.old hb3);have r1:=GO3.out.at 1 _ rfl;have r2:=GO3.out.at 2 _ rfl;have r4:=GO3.out.at 4 _ rfl;go_wp2_with fail
     go_ret
     exact⟨Af (by rw[HWW.o,HS.o];try simp_all),GB3.out⟩
   ·have HS:Hid (swB e=(Fx e false false false 0)):=by show _=_;unfold swB;rw[if_neg (by omega)];rw[if_neg (by omega)];rw[if_neg (by omega)];rw[if_neg (by omega)];rw[if_neg (by omega)];rw[if_neg (by omega)];rw[if_pos h1]
    have HC:=Za (fun w=>HK.o false false false 0 w);rw[h1]at q0 HC GO;obtain⟨b,hb⟩:∃b,Fx e false false false 0=b:=⟨_,rfl⟩;rw[hb]at HC HS;clear HK h1 hb
    cases b
    all_goals
     go_wp2_with fail
     refine(HC.o _).mono ?_;rintro r w3 ⟨rfl,hb3⟩;have GB3:=Za (GB.out.trans (hb3.mono GB.out.size));have GO3:=Za (GO.out.old hb3);have r1:=GO3.out.at 1 _ rfl;have r2:=GO3.out.at 2 _ rfl;have r4:=GO3.out.at 4 _ rfl;go_wp2_with fail
     go_ret
     exact⟨Af (by rw[HWW.o,HS.o];try simp_all),GB3.out⟩
   ·have HS:Hid (swB e=false):=by show _=_;unfold swB;rw[if_neg h1,if_neg h2,if_neg h3,if_neg h4,if_neg h5,if_neg h6,if_neg h7]
    have e1:(e.kind==1)=false:=by rw[beq_eq_false_iff_ne];exact h1
    have e2:(e.kind==2)=false:=by rw[beq_eq_false_iff_ne];exact h2
    have e3:(e.kind==3)=false:=by rw[beq_eq_false_iff_ne];exact h3
    have e4:(e.kind==4)=false:=by rw[beq_eq_false_iff_ne];exact h4
    have e5:(e.kind==5)=false:=by rw[beq_eq_false_iff_ne];exact h5
    have e6:(e.kind==6)=false:=by rw[beq_eq_false_iff_ne];exact h6
    have e7:(e.kind==7)=false:=by rw[beq_eq_false_iff_ne];exact h7
    go_wp2_with fail
    go_ret
    exact⟨Af (by rw[HWW.o,HS.o]),GB.out⟩
theorem Rt:∀(n:Nat) (e:Ex),SizeOf.sizeOf e≤n→RrOf e
 |0,e,h=>by cases e;simp at h
 |n+1,e,h=>Wz e fun x hx=>Rt n x (by have:=Ex.size_lt hx;omega)
theorem cB(e:Ex):RrOf e:=Rt _ e (Zk _)
theorem Hj(e:Ex)(D:Nat→Prop)(s:Value)(w:World)(h:Aj D w e.args s):
  Calls Zb 21 #[exV e s] w fun r w'=>r=.returned (.bool (Be e))∧Below w.heap.size w w':=by
 obtain⟨a,c,rfl⟩:=h.shape;have H:=Za h;have HD:=Za (fun(w:World) h=>dN e 41 (by omega) D (.slice a e.args.length c) w h);have HR:=Za (fun(w:World) h=>cB e D (.slice a e.args.length c) w h);have hle:=Rw 41 e;have E:Hid ((decide ((Gz 41 e:Int)≤40) && Bb e)=Be e):=aE e;have hbA:Below w.heap.size w (w.alloc (.cells #[.int .i64 e.kind,.int .i64 e.op,.int .i64 e.n,.string (Aa e.name),.slice a e.args.length c] 31)):=bA;have HB:=Za hbA;have HOP:=Za (Ze w [.int .i64 e.kind,.int .i64 e.op,.int .i64 e.n,.string (Aa e.name),.slice a e.args.length c] 31);have HE:=Za (H.out.old hbA);clear hbA h;go_enter func21,ntmps21
 go_upto_region 1 with(fail)
 generalize w.alloc (.cells #[.int .i64 e.kind,.int .i64 e.op,.int .i64 e.n,.string (Aa e.name),.slice a e.args.length c] 31)=W1 at*;generalize Gz 41 e=dn at*;have q0:=HOP.o.at 0 _ rfl;have q1:=HOP.o.at 1 _ rfl;have q2:=HOP.o.at 2 _ rfl;have q3:=HOP.o.at 3 _ rfl;have q4:=HOP.o.at 4 _ rfl;have HC:=Za (HD.o W1 HE.o)
 by_cases ht:(dn:Int)≤40
 ·rw[decide_eq_true ht]at E
  go_wp2_with fail
  refine HC.o.mono ?_;rintro r w2 ⟨rfl,hb2⟩;have GB2:=Za (HB.o.trans (hb2.mono HB.o.size));have GO2:=Za (HOP.o.old hb2);have HC2:=Za (HR.o w2 (HE.o.old hb2));clear hb2 q0 q1 q2 q3 q4 HC HD HR HE HOP HB;have q0:=GO2.out.at 0 _ rfl;have q1:=GO2.out.at 1 _ rfl;have q2:=GO2.out.at 2 _ rfl;have q3:=GO2.out.at 3 _ rfl;have q4:=GO2.out.at 4 _ rfl;go_wp2_with fail
  refine HC2.o.mono ?_;rintro r w3 ⟨rfl,hb3⟩;have GB3:=Za (GB2.out.trans (hb3.mono GB2.out.size));clear hb3 q0 q1 q2 q3 q4;go_wp2_with fail
  go_ret
  exact⟨Af E.out,GB3.out⟩
 ·rw[decide_eq_false ht]at E
  go_wp2_with fail
  refine HC.o.mono ?_;rintro r w2 ⟨rfl,hb2⟩;have GB2:=Za (HB.o.trans (hb2.mono HB.o.size));clear hb2 q0 q1 q2 q3 q4 HC HD HR HE HOP HB;go_wp2_with fail
  go_ret
  exact⟨Af E.out,GB2.out⟩
end Go.Proofs.YtfhbinbjkpfedaaGreatDoor
