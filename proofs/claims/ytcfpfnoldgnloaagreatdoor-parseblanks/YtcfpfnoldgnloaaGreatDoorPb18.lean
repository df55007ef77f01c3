/-
  The parser takes statements' tokens and gives them back. Plain functions alone.
-/
import Derived.Test.YtcfpfnoldgnloaaGreatDoorRows
import Derived.ProofKit
import Derived.OpenShut
import Derived.Deep.DeepHandedRow
import Derived.Lib.LaidTab
import Derived.ChangeSame
import Derived.Lib.ItoaLen
import Derived.Lib.AtoiTie
import Derived.Test.YtcfpfnoldgnloaaGreatDoorPb12
import Derived.Test.YtcfpfnoldgnloaaGreatDoorPb10
import Derived.WideLaws
import Derived.Lib.SmallJoins
import Derived.ChangeSlices
import Derived.WideKeyArgs
import Derived.Lib.LaidU8T
import Derived.PinnedBridge
import Derived.Shelf.Vars
set_option linter.unusedVariables false
set_option linter.unusedSimpArgs false
namespace Go.Proofs.YtcfpfnoldgnloaaGreatDoor
open Go.ChangeShapes Go.WideShapes Go.ChangeAt Go.RowKit
theorem Sr {P:Program}{x:String ×DataW Unit}{l:List (String ×DataW Unit)}{W:World}(h:laidMet P (x::l) W):laidMet P l W:=by
 obtain⟨n,d⟩:=x;obtain⟨ps,⟨g,t,cs,fuel,p,q,hg,ht,hv,hd,hr,rfl⟩,hn,hc⟩:=h;refine⟨q,hr,(List.nodup_append.1 hn).2.1,fun b off hm=>hc b off (List.mem_append_right _ hm)⟩
theorem lH {H:Type}{enc:TypeId ×Value→H}{P:Program}{f:Func}{s:ChangeSpec}{apart fresh handsOn again:Bool}{W W':World}{args:Array Value}{v:Value}{ds gs:List (DataW H)}{before pa pv:List MemPlace}
  (hW:DataW.Whole enc P f.params.toList s.vars apart W args.toList ds gs before)
  (hres:∀(b:Nat) (sp:Nat→Bool) (hd:Bool),DataW.TrodAll enc P W' b sp hd f.resultTypes.toList (v.resultList f.resultTypes.size) (s.fn H (ds++gs)).results [])
  (hargs:∀sp:Nat→Bool,(∀p∈before,sp p.block=true)→DataW.TrodAll enc P W' 0 sp true f.params.toList args.toList (s.fn H (ds++gs)).args pa)
  (hvars:∀sp:Nat→Bool,(∀p∈before,sp p.block=true)→DataW.TrodVars enc P W' sp s.vars (s.fn H (ds++gs)).vars pv)
  (hps:before=pa++pv) (hb:Below W.heap.size W W')
  (hok:∀(j:Nat) (t:TypeId) (r:Value),f.resultTypes[j]? =some t→(v.resultList f.resultTypes.size)[j]? =some r→Value.okWide P W' .any 0 t r):
  s.post enc P f apart fresh handsOn again W args v W':=by
 have lt:∀p∈before,p.block<W.heap.size:=hW.lt;have old:∀p∈before,(fun k=>decide (k<W.heap.size)) p.block=true:=fun p hp=>decide_eq_true (lt p hp)
 refine⟨ds,gs,before,[],pa,pv,hW,hres _ _ _,hargs _ old,hvars _ old,World.keptBut_mono (fun p hp=>⟨hp,.inr (by rw[hps]at hp;exact List.mem_append.1 hp)⟩) (hb.frame (· ∈before)),fun _=>?_⟩;obtain⟨_,_,_,_,_,fz,nd⟩:=hW;refine⟨hok,_,_,([]++pa)++pv,⟨[]++pa,pv,trodAll_append (hargs _ (fun _ _=>rfl)) (hres _ _ _),hvars _ (fun _ _=>rfl),rfl,fun b off hp=>?_,fun ha=>?_⟩,fun p hp _=>?_⟩
 ·have hin:MemPlace.cell b off∈before:=by rw[hps];exact hp
  have e:=fz b off hin;rw[←hb.frozen (lt _ hin)]at e;exact e
 ·have e:=nd ha
  rw[hps]at e;exact e
 ·rw[hps];exact hp
end Go.Proofs.YtcfpfnoldgnloaaGreatDoor
namespace Go.Proofs.YtcfpfnoldgnloaaGreatDoor
open Go.RowKit Go.Proofs.Tryz
set_option maxHeartbeats 20000000
set_option maxRecDepth 100000
open Go.Lib renaming hid→Za,decodeGo→Zc,decDigits→Zd,atoiAll→Ze,itoa→Zf,parseUint10→Zg,hasPrefix→Zi
open Go.Proofs.Tryz renaming prog→Zb
open List renaming takeWhile_cons→Zh
theorem Lo(u:Nat):∀c,c∈Zd u→Bn c=true:=by
 induction u using Nat.strongRecOn with
 |_ u ih=>
  intro c hc;have dig:∀d,d<10→Bn (UInt8.ofNat (48+d))=true:=by decide
  rw[Zd]at hc
  by_cases h:u<10
  ·rw[dif_pos h]at hc
   rw[List.mem_singleton.1 hc];exact dig u h
  ·rw[dif_neg h]at hc
   rcases List.mem_append.1 hc with hc|hc
   ·exact ih (u / 10) (by omega) c hc
   ·rw[List.mem_singleton.1 hc];exact dig _ (by omega)
theorem Sx(u:Nat):Zd u≠[]:=by
 rw[Zd];split
 ·exact List.cons_ne_nil _ _
 ·simp
theorem Wj(b:UInt8)(d:Nat)(hb:b.toNat=48+d)(hd:d<10):∀(l:List UInt8) (acc n:Nat),Zg acc l=.ok n→n*10+d<18446744073709551616→Zg acc (l++[b])=.ok (n*10+d)
 |[],acc,n,h,hn=>by
  simp only[Zg]at h
  cases h
  show Zg acc [b]=_
  simp only[Zg];rw[if_pos (by omega),if_neg (by omega),if_neg (by omega)];congr 2;omega
 |c::l,acc,n,h,hn=>by
  simp only[Zg,List.cons_append]at h ⊢;split at h
  ·rename_i h1
   rw[if_pos h1];split at h
   ·cases h
   ·rename_i h2
    rw[if_neg h2];split at h
    ·cases h
    ·rename_i h3
     rw[if_neg h3];exact Wj b d hb hd l _ n h hn
  ·cases h
theorem mK(u:Nat)(hu:u<18446744073709551616):Zg 0 (Zd u)=.ok u:=by
 induction u using Nat.strongRecOn with
 |_ u ih=>
  have hb:∀d,d<10→(UInt8.ofNat (48+d)).toNat=48+d:=fun d hd=>by rw[UInt8.toNat_ofNat'];exact Nat.mod_eq_of_lt (by omega)
  rw[Zd]
  by_cases h:u<10
  ·rw[dif_pos h]
   have:=Wj (UInt8.ofNat (48+u)) u (hb u h) h [] 0 0 rfl (by omega);simpa using this
  ·rw[dif_neg h]
   have:=Wj (UInt8.ofNat (48+u % 10)) (u % 10) (hb _ (by omega)) (by omega) _ 0 _ (ih (u / 10) (by omega) (by omega)) (by omega);rw[this];congr 1;omega
theorem sV(u:Nat)(hn:Zd u≠[])(hm:∀c,c∈Zd u→48≤c.toNat∧c.toNat≤57)(hu:u≤9223372036854775807):Ze (Zd u)=.ok (u:Int):=by
 have hp:=mK u (by omega);generalize Zd u=l at*
 cases l with
 |nil=>exact absurd rfl hn
 |cons c r=>
  have hc:=hm c List.mem_cons_self;unfold Ze;dsimp only;rw[if_neg (by omega)];unfold Lib.parseMag;rw[if_neg (by simp),hp];dsimp only;rw[if_neg (by omega),if_neg (by omega),if_neg (by omega)]
def Mo(r:Int):Bool:=decide (r=32∨r=9∨r=10∨r=13)
def Be(c:UInt8):Bool:=c==32||c==9||c==10||c==13
def In(c:UInt8):Bool:=Cc c||Bn c
theorem Si(p:UInt8→Bool)(l:Bs):l=l.takeWhile p++l.dropWhile p∧(∀c,c∈l.takeWhile p→p c=true)∧(l.dropWhile p=[]∨∃c r,l.dropWhile p=c::r∧p c=false):=by
 refine⟨(List.takeWhile_append_dropWhile).symm,fun c hc=>?_,?_⟩
 ·induction l with
  |nil=>cases hc
  |cons a l ih=>
   rw[Zh]at hc;split at hc
   ·rcases List.mem_cons.1 hc with rfl|hc
    ·assumption
    ·exact ih hc
   ·cases hc
 ·induction l with
  |nil=>exact .inl rfl
  |cons a l ih=>
   rw[List.dropWhile_cons]
   cases h:p a with
   |true=>rw[if_pos rfl];exact ih
   |false=>exact .inr ⟨a,l,rfl,h⟩
theorem Pq(p:UInt8→Bool)(a b:Bs)(ha:∀c,c∈a→p c=true)(hb:b=[]∨∃c r,b=c::r∧p c=false):(a++b).takeWhile p=a∧(a++b).dropWhile p=b:=by
 induction a with
 |nil=>
  rcases hb with rfl|⟨c,r,rfl,h⟩
  ·exact⟨rfl,rfl⟩
  ·exact⟨by rw[List.nil_append,Zh,h];rfl,by rw[List.nil_append,List.dropWhile_cons,h];rfl⟩
 |cons x a ih=>
  have hx:=ha x List.mem_cons_self;obtain⟨h1,h2⟩:=ih (fun c hc=>ha c (List.mem_cons_of_mem _ hc));rw[List.cons_append,Zh,List.dropWhile_cons,hx];exact⟨by rw[if_pos rfl,h1],by rw[if_pos rfl,h2]⟩
theorem qO(r:Int)(w:World):Calls Zb 85 #[.int .i32 r] w fun e w'=>e=.returned (.bool (Mo r))∧w=w':=by
 go_enter func85,ntmps85
 go_wp2
 all_goals go_ret
 all_goals(refine⟨Au ?_,rfl⟩;rw[Bool.eq_iff_iff];simp [Mo];try omega)
theorem nY(r:Int)(w:World):Calls Zb 143 #[.int .i32 r] w fun e w'=>e=.returned (.bool (Gk r||Hw r))∧w=w':=by
 cases hl:Gk r
 ·go_enter func143,ntmps143
  go_wp2_with fail
  refine(Iz _ _).mono ?_;rw[hl];rintro e w1 ⟨rfl,rfl⟩;go_wp2_with fail
  refine(Mv _ _).mono ?_;rintro e w1 ⟨rfl,rfl⟩;go_wp2_with fail
  go_ret
  exact⟨rfl,rfl⟩
 ·go_enter func143,ntmps143
  go_wp2_with fail
  refine(Iz _ _).mono ?_;rw[hl];rintro e w1 ⟨rfl,rfl⟩;go_wp2_with fail
  go_ret
  exact⟨rfl,rfl⟩
def Vx(pr:Int→Bool)(pb:UInt8→Bool):Prop:= ∀(l:Bs) (k:Nat) (h:k<l.length),∃r d,Utf8.decode (Aa l) k=(r,d)∧pr r=pb l[k]∧(pr r=true→d=1)∧r≤2147483647
theorem on_word:Vx (fun r=>Gk r||Hw r) In:=fun l k h=>by
 obtain⟨r,d,h1,h2,h3,h4,h5,h6⟩:=decode_at l k h;refine⟨r,d,h1,(by show(Gk r||Hw r)=(Cc l[k]||Bn l[k]);rw[h3,h4]),fun hp=>?_,h6⟩;rcases(Bool.or_eq_true _ _).mp hp with h|h
 ·exact(h5 (Uv h)).2
 ·exact(h5 (Rf h)).2
theorem tE:Vx Hw Bn:=fun l k h=>by
 obtain⟨r,d,h1,h2,h3,h4,h5,h6⟩:=decode_at l k h;exact⟨r,d,h1,h4,fun hp=>(h5 (Rf hp)).2,h6⟩
theorem Sz(c:UInt8):Mo (c.toNat:Nat)=Be c:=by
 rw[Bool.eq_iff_iff];simp [Mo,Be,←UInt8.toNat_inj];omega
theorem tF:Vx Mo Be:=fun l k h=>by
 obtain⟨r,d,h1,h2,h3,h4,h5,h6⟩:=decode_at l k h;have low:∀r:Nat,Mo r=true→r<128:=fun r h=>by simp [Mo]at h;omega
 refine⟨r,d,h1,?_,fun hp=>(h5 (low r hp)).2,h6⟩
 by_cases hr:r<128
 ·rw[(h5 hr).1];exact Sz _
 ·have h7:Mo r=false:=by cases hq:Mo (r:Nat)with|false=>rfl|true=>exact absurd (low r hq) hr
  rw[h7];have hs:k<(Aa l).size:=h;have he:(Aa l)[k]'hs=l[k]:=rfl
  cases hq:Be l[k]with
  |false=>rfl
  |true=>
   rw[←Sz]at hq;have:=low _ hq;rw[decode_ascii (Aa l) k hs (by rw[he];exact this)]at h1
   cases h1
   exact absurd (by rw[he];exact this) hr
theorem dP(F:Nat)(pr:Int→Bool)(pb:UInt8→Bool)(hF:∀(r:Int) (w:World),Calls Zb F #[.int .i32 r] w fun e w'=>e=.returned (.bool (pr r))∧w=w')(hp:Vx pr pb)(hE:∀(args:Array Value) (w:World),Sem.run Zb (callFunc F args) w=.ok (.enter F args) w)(l:Bs)(w:World):
  Calls Zb 84 #[.string (Aa l),.func (.func F) #[] #[]] w fun e w'=>e=.returned (.int .i64 (l.takeWhile pb).length)∧Below w.heap.size w w':=by
 have HF:=Za hF;have HP:=Za hp;have HE:=Za hE;obtain⟨hs,ha,hb⟩:=Si pb l;obtain⟨a,hae⟩:∃a,l.takeWhile pb=a:=⟨_,rfl⟩;obtain⟨b,hbe⟩:∃b,l.dropWhile pb=b:=⟨_,rfl⟩;rw[hae]at hs ha ⊢;rw[hbe]at hs hb;have HL:=Za hs;have HA:=Za ha;have HB:=Za hb;have hlen:l.length=a.length+b.length:=by rw[hs,List.length_append]
 have hle:a.length≤l.length:=by omega
 clear hF hp hE hs ha hb hae hbe;have HLEN:=Za hlen;clear hlen;go_enter func84,ntmps84
 go_wp2_with fail
 go_loopw [5,6] (fun _ _ wr=> ∃k:Nat,k≤a.length∧wr=w.iter (Aa l) k) (fun _ _ wr=>a.length+1-wr.iterPos w.heap.size)
 case atStart=>exact⟨0,Nat.zero_le _,rfl⟩
 case round=>
  obtain⟨k,hk,rfl⟩:=hrel
  by_cases hlt:k<l.length
  ·have hnx:=fun ty=>run_next_any (P:=Zb) w (Aa l) k ty hlt
   obtain⟨r,d,hd,h1,h2,h3⟩:=HP.o l k hlt;rw[hd]at hnx
   by_cases hka:k<a.length
   ·have hc:l[k]=a[k]:=by have:=HL.o;subst this;exact List.getElem_append_left hka
    have hq:pr r=true:=by rw[h1,hc];exact HA.o _ (List.getElem_mem hka)
    obtain rfl:=h2 hq;have HQ:=Za hq;clear hc hq h1 h2 hd;go_wp2_with fail
    rw[HE.o,Oper.upon_enter];refine(HF.o _ _).mono ?_;rw[HQ.o];rintro e w1 ⟨rfl,rfl⟩;go_wp2_with fail
    go_roundw
    case rel=>exact⟨k+1,hka,rfl⟩
    case measure=>simp;omega
   ·have hke:k=a.length:=by omega
    subst hke;have hbn:b≠[]:=by intro e;have:=HLEN.o;rw[e]at this;simp at this;omega
    obtain⟨c,q,hb,hc2⟩:=HB.o.resolve_left hbn;have hc:l[a.length]=c:=by have:=HL.o;subst this;subst hb;simp
    have hq:pr r=false:=by rw[h1,hc];exact hc2
    have HQ:=Za hq;clear hc hc2 hb h1 h2 hd hq;go_wp2_with fail
    rw[HE.o,Oper.upon_enter];refine(HF.o _ _).mono ?_;rw[HQ.o];rintro e w1 ⟨rfl,rfl⟩;go_wp2_with fail
    go_ret
    exact⟨rfl,bA⟩
  ·have hnx:=fun ty=>run_next_end (P:=Zb) w (Aa l) k ty hlt
   have hz:l.length=a.length:=by omega
   go_wp2_with fail
   go_ret
   exact⟨Iv (by omega),bA⟩
theorem qY(l:Bs)(w:World):Calls Zb 84 #[.string (Aa l),.func (.func 85) #[] #[]] w fun e w'=>e=.returned (.int .i64 (l.takeWhile Be).length)∧Below w.heap.size w w':=dP _ _ _ qO tF (fun _ _=>rfl) l w
theorem rS(l:Bs)(w:World):Calls Zb 84 #[.string (Aa l),.func (.func 143) #[] #[]] w fun e w'=>e=.returned (.int .i64 (l.takeWhile In).length)∧Below w.heap.size w w':=dP _ _ _ nY on_word (fun _ _=>rfl) l w
theorem qB(l:Bs)(w:World):Calls Zb 84 #[.string (Aa l),.func (.func 91) #[] #[]] w fun e w'=>e=.returned (.int .i64 (l.takeWhile Bn).length)∧Below w.heap.size w w':=dP _ _ _ Mv tE (fun _ _=>rfl) l w
def Xo:List Bs:=[[61,61],[33,61],[60,61],[62,61],[60,60],[62,62],[40],[41],[123],[125],[91],[93],[44],[59],[61],[124],[94],[38],[43],[45],[42],[47],[37],[33],[126],[60],[62]]
def Et(l:Bs):Bool:=Xo.contains l
theorem Iw {t:Bs}(h:Et t=true):t=[61,61]∨t=[33,61]∨t=[60,61]∨t=[62,61]∨t=[60,60]∨t=[62,62]∨t=[40]∨t=[41]∨t=[123]∨t=[125]∨t=[91]∨t=[93]∨t=[44]∨t=[59]∨t=[61]∨t=[124]∨t=[94]∨t=[38]∨t=[43]∨t=[45]∨t=[42]∨t=[47]∨t=[37]∨t=[33]∨t=[126]∨t=[60]∨t=[62]:=by
 simpa [Et,Xo]using h
def Co(l:Bs):Nat:=l.count 10
abbrev T4:=Int ×Bs ×Int
def Ow(s:Bs):Option T4:=if Ia (s.takeWhile In)=true then some (2,s.takeWhile In,0)else if Am (s.takeWhile In)=true then some (1,s.takeWhile In,0)else none
def cM(s:Bs):Option T4:=match Ze (s.takeWhile Bn)with
 |.ok n=>if Zf n=s.takeWhile Bn then some (3,s.takeWhile Bn,n)else none
 |_=>none
def fO(r:Nat):Bool:=decide (r<32∨r=39∨r=92∨r=65533)
def eH(s:Bs):Option T4:=if fO (Zc (Aa (s.drop 1))).1=true then none else if Zi (s.drop (1+(Zc (Aa (s.drop 1))).2)) [39]=true then some (3,s.take ((Zc (Aa (s.drop 1))).2+2),((Zc (Aa (s.drop 1))).1:Int))else none
def Ny(s:Bs):Option T4:=if Et (s.take 2)=true then some (4,s.take 2,0)else if Et (s.take 1)=true then some (4,s.take 1,0)else none
def Oc(s:Bs):Option T4:=match s with
 |[]=>none
 |c::_=>if Cc c=true then Ow s else if Bn c=true then cM s else if c=39 then eH s else Ny s
def He(s:Bs):Bs:=(Lib.cut s [10]).1
def Xs(s:Bs):Bool:=Lib.validD (He s) && !Lib.contains (He s) [239,191,189]
def Fs:Nat→Bs→Bs ×Nat ×Bool
 |0,s=>(s,0,true)
 |f+1,s=>if Zi (s.dropWhile Be) [47,47]=true then
   (if Xs (s.dropWhile Be)=true then((Fs f ((s.dropWhile Be).drop (He (s.dropWhile Be)).length)).1,Co (s.takeWhile Be)+(Fs f ((s.dropWhile Be).drop (He (s.dropWhile Be)).length)).2.1,(Fs f ((s.dropWhile Be).drop (He (s.dropWhile Be)).length)).2.2)
   else(s.dropWhile Be,Co (s.takeWhile Be),false))
  else(s.dropWhile Be,Co (s.takeWhile Be),true)
def Ql:Nat→Bs→Nat→Except Nat (List Tk)
 |0,_,line=>.error line
 |f+1,s,line=>
  if(Fs (s.length+1) s).2.2=true then
   (if(Fs (s.length+1) s).1=[]then .ok [⟨5,[],0,((line+(Fs (s.length+1) s).2.1:Nat):Int)⟩]
   else match Oc (Fs (s.length+1) s).1 with
    |none=>.error (line+(Fs (s.length+1) s).2.1)
    |some (k,x,n)=>match Ql f ((Fs (s.length+1) s).1.drop x.length) (line+(Fs (s.length+1) s).2.1)with
     |.error e=>.error e
     |.ok l=>.ok (⟨k,x,n,((line+(Fs (s.length+1) s).2.1:Nat):Int)⟩::l))
  else .error (line+(Fs (s.length+1) s).2.1)
theorem gC(n b0 b1 b2 b3:Nat)(h:1≤n):(Lib.decodeN n b0 b1 b2 b3).2≤n∧(Lib.decodeN n b0 b1 b2 b3).2≤4:=by
 unfold Lib.decodeN
 repeat' split
 all_goals(simp only;omega)
theorem iT(s:Bs):(Zc (Aa s)).2≤s.length∧(Zc (Aa s)).2≤4:=by
 have hs:(Aa s).size=s.length:=by show s.toArray.size=_;simp
 unfold Zc;split
 ·simp
 ·rw[Lib.decode_at]
  have:=gC ((Aa s).size-0) ((Aa s).get! 0).toNat ((Aa s).get! (0+1)).toNat ((Aa s).get! (0+2)).toNat ((Aa s).get! (0+3)).toNat (by omega);rw[←hs];omega
theorem Ux(s:Bs):(Zc (Aa s)).1≤2147483647:=by
 unfold Zc;split
 ·decide
 ·exact decode_le _ _
theorem gF {l:Bs}{n:Int}(h:Ze l=.ok n):I64 n:=by
 unfold Ze at h
 cases l with
 |nil=>cases h
 |cons c r=>
  dsimp only at h;split at h
  ·cases h
  ·cases h
  ·rename_i u hu
   split at h
   ·cases h
   ·split at h
    ·cases h
    ·rename_i h1 h2
     cases h
     show _∧_
     split
     ·rename_i h3;have:¬9223372036854775808<u:=fun h4=>h2 ⟨h3,h4⟩;constructor<;>omega
     ·rename_i h3;have:¬9223372036854775808≤u:=fun h4=>h1 ⟨h3,h4⟩;constructor<;>omega
theorem Rp(p:UInt8→Bool)(s:Bs):s.drop (s.takeWhile p).length=s.dropWhile p:=by
 have h:=(Si p s).1;obtain⟨a,ha⟩:∃a,s.takeWhile p=a:=⟨_,rfl⟩;obtain⟨b,hb⟩:∃b,s.dropWhile p=b:=⟨_,rfl⟩;rw[ha,hb]at h ⊢;rw[h];exact List.drop_left
theorem Ls(p:UInt8→Bool)(s:Bs):s=s.takeWhile p++s.drop (s.takeWhile p).length:=by
 rw[Rp];exact(Si p s).1
theorem tokF_ok {s:Bs}{k:Int}{x:Bs}{n:Int}(h:Oc s=some (k,x,n)):x≠[]∧s=x++s.drop x.length∧I64 n∧(1≤k∧k≤4):=by
 have z:I64 0:=⟨by decide,by decide⟩;have tk:∀m,s≠[]→s.take (m+1)≠[]∧s=s.take (m+1)++s.drop (s.take (m+1)).length:=by
  intro m hs;constructor
  ·cases s with
   |nil=>exact absurd rfl hs
   |cons c t=>simp
  ·rw[List.length_take]
   rcases Nat.le_total (m+1) s.length with h|h
   ·rw[Nat.min_eq_left h,List.take_append_drop]
   ·rw[Nat.min_eq_right h,List.drop_length,List.append_nil,List.take_of_length_le h]
 cases s with
 |nil=>cases h
 |cons c t=>
  have hs:c::t≠[]:=by simp
  unfold Oc at h;dsimp only at h;split at h
  ·rename_i hc
   have hw:(c::t).takeWhile In≠[]:=by rw[Zh,show In c=true by unfold In;rw[hc];rfl];simp
   unfold Ow at h;split at h
   ·cases h;exact⟨hw,Ls _ _,z,by decide,by decide⟩
   ·split at h
    ·cases h;exact⟨hw,Ls _ _,z,by decide,by decide⟩
    ·cases h
  ·split at h
   ·rename_i hd
    have hw:(c::t).takeWhile Bn≠[]:=by rw[Zh,hd];simp
    unfold cM at h;split at h
    ·rename_i m hm
     split at h
     ·cases h;exact⟨hw,Ls _ _,gF hm,by decide,by decide⟩
     ·cases h
    ·cases h
   ·split at h
    ·unfold eH at h
     split at h
     ·cases h
     ·split at h
      ·cases h
       have hr:=Ux ((c::t).drop 1);exact⟨(tk _ hs).1,(tk _ hs).2,⟨by omega,by omega⟩,by decide,by decide⟩
      ·cases h
    ·unfold Ny at h
     split at h
     ·cases h;exact⟨(tk 1 hs).1,(tk 1 hs).2,z,by decide,by decide⟩
     ·split at h
      ·cases h;exact⟨(tk 0 hs).1,(tk 0 hs).2,z,by decide,by decide⟩
      ·cases h
def oP(w:World):Prop:=Lib.TabIs Zb w "internal/strconv.uint64pow10" .u64 Lib.pow10Tab
theorem oP.keep {w w':World}(h:oP w)(hb:w'.heap[3]? =w.heap[3]?):oP w':=by
 have hg:Tryz.prog.globalNamed "internal/strconv.uint64pow10" =some 3:=by kernel_rfl
 unfold oP Lib.TabIs World.var? at*;simp only[hg,Option.bind_eq_bind,Option.bind_some]at*;rw[hb];exact h
structure Jj (w:World):Prop where
 pow:oP w
 max:∃m,w.cell? ⟨0,0,none⟩=some (.int .i64 m)
 utf:Lib.Utf8Tabs 1 2 w
 syn:∃te pe,w.cell? ⟨4,0,none⟩=some (.iface te pe)
 ran:∃te pe,w.cell? ⟨5,0,none⟩=some (.iface te pe)
theorem Jj.lt {w:World}(h:Jj w):3<w.heap.size:=by
 have gTab:Tryz.prog.globalNamed "internal/strconv.uint64pow10" =some 3:=by kernel_rfl
 exact World.block_lt_of_cell? _ _ (Lib.TabIs.cell h.pow gTab 0 (by decide))
theorem Jj.old {w w':World}(h:Jj w)(hb:Below w.heap.size w w'):Jj w':=
 ⟨h.pow.keep (hb.block _ h.lt),by obtain⟨m,hm⟩:=h.max;exact⟨m,Ad hb hm⟩,Utf8Tabs_below h.utf hb,by obtain⟨m,p,hm⟩:=h.syn;exact⟨m,p,Ad hb hm⟩,by obtain⟨m,p,hm⟩:=h.ran;exact⟨m,p,Ad hb hm⟩⟩
theorem oA(n:Int)(h0: -9223372036854775808≤n)(h1:n≤9223372036854775807)(w:World)(ht:oP w):
  Calls Zb 35 #[.int .i64 n] w fun e w'=>e=.returned (.string (Aa (Zf n)))∧Below w.heap.size w w':=by
 refine(Tryz.strconv_Itoa n h0 h1 w ht).mono ?_;rintro e w' ⟨rfl,k,os,rfl⟩;exact⟨rfl,rfl,rfl,rfl,by simp,fun i hi=>by simp [Sort.grow,World.drewN,Array.getElem?_append_left hi]⟩
theorem pE(t:Bs)(hz:t.length≤1000000)(w:World)(hl:Jj w):
  Calls Zb 145 #[.string (Aa t)] w fun e w'=>(match Ze t with|.ok n=>e=.returned (.tuple #[.int .i64 n,.nilIface])|_=> ∃n T p,e=.returned (.tuple #[.int .i64 n,.iface T p]))∧Below w.heap.size w w':=by
 have hs:(Aa t).size=t.length:=by show t.toArray.size=_;simp
 cases ha:Ze t
 ·rename_i v
  refine(Tryz.strconv_Atoi_ok (Aa t) (by omega) v ha w).mono ?_;rintro e w' ⟨rfl,hw⟩;refine⟨rfl,?_⟩;rcases hw with rfl|⟨u,rfl⟩
  ·exact Below.refl _ _
  ·exact Joins.below_bytesWorld _ w 5 u (Nat.le_refl _)
 ·obtain⟨te,pe,hv⟩:=hl.syn
  refine(Any.strconv_Atoi_syntax Tryz.laysC172 (Aa t) (by omega) ha _ w hv (.inr ⟨te,pe,rfl⟩)).mono ?_;rintro e w' ⟨N,rfl,_,_,hb⟩;exact⟨⟨_,_,_,rfl⟩,hb⟩
 ·obtain⟨te,pe,hv⟩:=hl.ran
  refine(Any.strconv_Atoi_range Tryz.laysC172 (Aa t) (by omega) ha _ w hv (.inr ⟨te,pe,rfl⟩)).mono ?_;rintro e w' ⟨N,rfl,_,_,hb⟩;exact⟨⟨_,_,_,rfl⟩,hb⟩
def Ku(kind:Int)(text:Bs)(n line:Int):Value:=.agg #[.int .i64 kind,.string (Aa text),.int .i64 n,.int .i64 line]
theorem Vl(w0 w:World)(h:Below w0.heap.size w0 w)(v0 v1 v2 v3:Value):Below w0.heap.size w0 ((((w.setCell ⟨w0.heap.size,0,none⟩ v0).setCell ⟨w0.heap.size,1,none⟩ v1).setCell ⟨w0.heap.size,2,none⟩ v2).setCell ⟨w0.heap.size,3,none⟩ v3):=
 have st:∀(v:World) (i:Nat) (x:Value),Below w0.heap.size v (v.setCell ⟨w0.heap.size,i,none⟩ x):=fun v i x=>(Below.refl _ _).setCell (p:=⟨w0.heap.size,i,none⟩) (Nat.le_refl _) x
 (((h.trans (st _ _ _)).trans (st _ _ _)).trans (st _ _ _)).trans (st _ _ _)
theorem Se(s:Bs)(n:Nat):(Aa s).extract 0 n=Aa (s.take n):=by
 apply ByteArray.ext
 rw[ByteArray.data_extract];simp [Aa]
theorem Rv(s:Bs)(m n:Nat)(hn:n=s.length):(Aa s).extract m n=Aa (s.drop m):=by
 subst hn;apply ByteArray.ext
 rw[ByteArray.data_extract];simp [Aa,List.take_of_length_le]
def Xr(o:Option T4)(w:World)(e:Ending)(w':World):Prop:=(∃k x n ok,e=.returned (.tuple #[Ku k x n 0,.bool ok])∧o=if ok=true then some (k,x,n)else none)∧Below w.heap.size w w'
theorem Qt(p:UInt8→Bool)(s:Bs):s.take (s.takeWhile p).length=s.takeWhile p:=by
 have h:=Ls p s;obtain⟨a,ha⟩:∃a,s.takeWhile p=a:=⟨_,rfl⟩;rw[ha]at h ⊢;rw[h];exact List.take_left
theorem Xz(p:UInt8→Bool)(s:Bs):(s.takeWhile p).length≤s.length:=by
 have:=congrArg List.length (Ls p s);rw[List.length_append]at this;omega
theorem sO(s:Bs)(w:World):Calls Zb 90 #[.string (Aa s)] w (Xr (Ow s) w):=by
 have HR:=Za (fun w1=>rS s w1);have HX:=Za ((Se s (s.takeWhile In).length).trans (congrArg Aa (Qt In s)));have hle:(s.takeWhile In).length≤s.length:=Xz _ _;have hF:Hid (∀ok1 ok2,Ia (s.takeWhile In)=ok1→Am (s.takeWhile In)=ok2→Ow s=if ok1=true then some (2,s.takeWhile In,0)else if ok2=true then some (1,s.takeWhile In,0)else none):=Za (by rintro _ _ rfl rfl;rfl);obtain⟨a,ha⟩:∃a,s.takeWhile In=a:=⟨_,rfl⟩;rw[ha]at HR HX hF hle;have hl1:(a.length:Int)≤(s.length:Int):=by omega
 obtain⟨o,ho⟩:∃o,Ow s=o:=⟨_,rfl⟩;rw[ho]at hF ⊢;have HO:=Za (Ae.new w [.int .i64 0,.string ⟨#[]⟩,.int .i64 0,.int .i64 0] 50);have HB0:=Za ((Below.refl w.heap.size w).alloc (Nat.le_refl _) (.cells #[.int .i64 0,.string ⟨#[]⟩,.int .i64 0,.int .i64 0] 50));clear ha ho;go_enter func90,ntmps90
 go_wp2_with fail
 refine(HR.o _).mono ?_;rintro e w1 ⟨rfl,hb1⟩;have HO1:=Za (HO.o.old hb1);have HB1:=Za (HB0.o.trans (hb1.mono HB0.o.size));clear hb1;go_wp2_with fail
 rw[HX.o];refine(Wi a _).mono ?_
 cases hw:Ia a
 ·rintro e w2 ⟨rfl,hw2⟩
  obtain rfl:w1=w2:=hw2;have HW:=Za hw;clear hw;go_wp2_with fail
  refine(Lu a _).mono ?_;rintro e w2 ⟨rfl,hb2⟩;have HO2:=Za (HO1.o.old hb2);have HB2:=Za (HB1.o.trans (hb2.mono HB1.o.size));have hG:=hF.out _ (Am a) HW.o rfl;have HG:=Za hG;clear hb2 hG;generalize Am a=ok at*;have q0:=HO2.o.at 0 _ rfl;have q1:=HO2.o.at 1 _ rfl;have q2:=HO2.o.at 2 _ rfl;have q3:=HO2.o.at 3 _ rfl;have f0:=HO2.o.fz 0;have f1:=HO2.o.fz 1;have f2:=HO2.o.fz 2;have f3:=HO2.o.fz 3;have ql:=HO2.o.lt;go_wp2_with fail
  have HS:=Za ((((HO2.o.set 0 (.int .i64 1)).set 1 (.string (Aa a))).set 2 (.int .i64 0)).set 3 (.int .i64 0));have e0:=HS.o.at 0 _ rfl;have e1:=HS.o.at 1 _ rfl;have e2:=HS.o.at 2 _ rfl;have e3:=HS.o.at 3 _ rfl;exact bodyPost_ret (v:=.tuple #[Ku 1 a 0 0,.bool ok]) (by simp [results,results90,go_sem,Ku,e0,e1,e2,e3]) rfl ⟨⟨_,_,_,_,rfl,by rw[HG.o];rfl⟩,Vl w _ HB2.o _ _ _ _⟩
 ·rintro e w2 ⟨rfl,hw2⟩
  obtain rfl:w1=w2:=hw2;have HG:=Za (hF.out _ (Am a) hw rfl);clear hw;have q0:=HO1.o.at 0 _ rfl;have q1:=HO1.o.at 1 _ rfl;have q2:=HO1.o.at 2 _ rfl;have q3:=HO1.o.at 3 _ rfl;have f0:=HO1.o.fz 0;have f1:=HO1.o.fz 1;have f2:=HO1.o.fz 2;have f3:=HO1.o.fz 3;have ql:=HO1.o.lt;go_wp2_with fail
  have HS:=Za ((((HO1.o.set 0 (.int .i64 2)).set 1 (.string (Aa a))).set 2 (.int .i64 0)).set 3 (.int .i64 0));have e0:=HS.o.at 0 _ rfl;have e1:=HS.o.at 1 _ rfl;have e2:=HS.o.at 2 _ rfl;have e3:=HS.o.at 3 _ rfl;exact bodyPost_ret (v:=.tuple #[Ku 2 a 0 0,.bool true]) (by simp [results,results90,go_sem,Ku,e0,e1,e2,e3]) rfl ⟨⟨_,_,_,_,rfl,HG.o⟩,Vl w _ HB1.o _ _ _ _⟩
theorem mI(s:Bs)(hz:s.length≤1000000)(w:World)(hl:Jj w):Calls Zb 92 #[.string (Aa s)] w (Xr (cM s) w):=by
 have HR:=Za (fun w1=>qB s w1);have HL:=Za hl;have HX:=Za ((Se s (s.takeWhile Bn).length).trans (congrArg Aa (Qt Bn s)));have hle:(s.takeWhile Bn).length≤s.length:=Xz _ _;have hF:Hid (cM s=match Ze (s.takeWhile Bn)with|.ok n=>if Zf n=s.takeWhile Bn then some (3,s.takeWhile Bn,n)else none|_=>none):=rfl;obtain⟨a,ha⟩:∃a,s.takeWhile Bn=a:=⟨_,rfl⟩;rw[ha]at HR HX hF hle;have hl1:(a.length:Int)≤(s.length:Int):=by omega
 have HZ:=Za (show a.length≤1000000 by omega);obtain⟨o,ho⟩:∃o,cM s=o:=⟨_,rfl⟩;rw[ho]at hF ⊢;have HO:=Za (Ae.new w [.int .i64 0,.string ⟨#[]⟩,.int .i64 0,.int .i64 0] 50);have HB0:=Za ((Below.refl w.heap.size w).alloc (Nat.le_refl _) (.cells #[.int .i64 0,.string ⟨#[]⟩,.int .i64 0,.int .i64 0] 50));clear ha ho hl hz;go_enter func92,ntmps92
 go_wp2_with fail
 refine(HR.o _).mono ?_;rintro e w1 ⟨rfl,hb1⟩;have HO1:=Za (HO.o.old hb1);have HB1:=Za (HB0.o.trans (hb1.mono HB0.o.size));clear hb1;go_wp2_with fail
 rw[HX.o];refine(pE a HZ.o w1 (HL.o.old HB1.o)).mono ?_;rintro e w2 ⟨he,hb2⟩;have HO2:=Za (HO1.o.old hb2);have HB2:=Za (HB1.o.trans (hb2.mono HB1.o.size));clear hb2
 cases hat:Ze a
 ·rename_i n
  rw[hat]at he hF;dsimp only at he hF;subst he;obtain⟨n1,n2⟩:=gF hat;have HF:=Za hF;clear hF hat;go_wp2_with fail
  refine(oA n n1 n2 w2 (HL.o.old HB2.o).pow).mono ?_;rintro e w3 ⟨rfl,hb3⟩;have HO3:=Za (HO2.o.old hb3);have HB3:=Za (HB2.o.trans (hb3.mono HB2.o.size));clear hb3
  cases hq:(Zf n==a)
  ·have HE:=Za (show ¬Zf n=a by intro h;rw[h]at hq;simp at hq)
   generalize Zf n=u at*;have q0:=HO3.o.at 0 _ rfl;have q1:=HO3.o.at 1 _ rfl;have q2:=HO3.o.at 2 _ rfl;have q3:=HO3.o.at 3 _ rfl;have f0:=HO3.o.fz 0;have f1:=HO3.o.fz 1;have f2:=HO3.o.fz 2;have f3:=HO3.o.fz 3;have ql:=HO3.o.lt;go_wp2_with fail
   have HS:=Za ((((HO3.o.set 0 (.int .i64 3)).set 1 (.string (Aa a))).set 2 (.int .i64 n)).set 3 (.int .i64 0));have e0:=HS.o.at 0 _ rfl;have e1:=HS.o.at 1 _ rfl;have e2:=HS.o.at 2 _ rfl;have e3:=HS.o.at 3 _ rfl;exact bodyPost_ret (v:=.tuple #[Ku 3 a n 0,.bool false]) (by simp [results,results92,go_sem,Ku,e0,e1,e2,e3]) rfl ⟨⟨_,_,_,_,rfl,by rw[HF.o,if_neg HE.o];rfl⟩,Vl w _ HB3.o _ _ _ _⟩
  ·have HE:=Za (show Zf n=a by simpa using hq)
   generalize Zf n=u at*;have q0:=HO3.o.at 0 _ rfl;have q1:=HO3.o.at 1 _ rfl;have q2:=HO3.o.at 2 _ rfl;have q3:=HO3.o.at 3 _ rfl;have f0:=HO3.o.fz 0;have f1:=HO3.o.fz 1;have f2:=HO3.o.fz 2;have f3:=HO3.o.fz 3;have ql:=HO3.o.lt;go_wp2_with fail
   have HS:=Za ((((HO3.o.set 0 (.int .i64 3)).set 1 (.string (Aa a))).set 2 (.int .i64 n)).set 3 (.int .i64 0));have e0:=HS.o.at 0 _ rfl;have e1:=HS.o.at 1 _ rfl;have e2:=HS.o.at 2 _ rfl;have e3:=HS.o.at 3 _ rfl;exact bodyPost_ret (v:=.tuple #[Ku 3 a n 0,.bool true]) (by simp [results,results92,go_sem,Ku,e0,e1,e2,e3]) rfl ⟨⟨_,_,_,_,rfl,by rw[HF.o,if_pos HE.o];rfl⟩,Vl w _ HB3.o _ _ _ _⟩
 all_goals
  rw[hat]at he hF;obtain⟨n,T,p,rfl⟩:=he;have HF:=Za hF;clear hF hat;have q0:=HO2.o.at 0 _ rfl;have q1:=HO2.o.at 1 _ rfl;have q2:=HO2.o.at 2 _ rfl;have q3:=HO2.o.at 3 _ rfl;have f0:=HO2.o.fz 0;have f1:=HO2.o.fz 1;have f2:=HO2.o.fz 2;have f3:=HO2.o.fz 3;have ql:=HO2.o.lt;go_wp2_with fail
  have HS:=Za ((((HO2.o.set 0 (.int .i64 3)).set 1 (.string (Aa a))).set 2 (.int .i64 n)).set 3 (.int .i64 0));have e0:=HS.o.at 0 _ rfl;have e1:=HS.o.at 1 _ rfl;have e2:=HS.o.at 2 _ rfl;have e3:=HS.o.at 3 _ rfl;exact bodyPost_ret (v:=.tuple #[Ku 3 a n 0,.bool false]) (by simp [results,results92,go_sem,Ku,e0,e1,e2,e3]) rfl ⟨⟨_,_,_,_,rfl,HF.o⟩,Vl w _ HB2.o _ _ _ _⟩
theorem lK(s:Bs)(h0:s≠[])(hz:s.length≤1000000)(w:World)(hl:Jj w):Calls Zb 93 #[.string (Aa s)] w (Xr (eH s) w):=by
 have h1:1≤s.length:=List.length_pos_iff.2 h0;have HX1:=Za (Rv s 1);obtain⟨d1,d2⟩:=iT (s.drop 1);have d3:=Ux (s.drop 1);rw[List.length_drop]at d1;have hF:Hid (eH s=if fO (Zc (Aa (s.drop 1))).1=true then none else if Zi (s.drop (1+(Zc (Aa (s.drop 1))).2)) [39]=true then some (3,s.take ((Zc (Aa (s.drop 1))).2+2),((Zc (Aa (s.drop 1))).1:Int))else none):=rfl;obtain⟨r,hr⟩:∃r,(Zc (Aa (s.drop 1))).1=r:=⟨_,rfl⟩;obtain⟨d,hd⟩:∃d,(Zc (Aa (s.drop 1))).2=d:=⟨_,rfl⟩;have hde:Zc (Aa (s.drop 1))=(r,d):=by rw[←hr,←hd]
 rw[hr]at hF d3;rw[hd]at hF d1 d2;have HDE:=Za hde;have HL:=Za hl;have HX2:=Za (Rv s (1+d));have HX3:=Za (Se s (d+2));obtain⟨o,ho⟩:∃o,eH s=o:=⟨_,rfl⟩;rw[ho]at hF ⊢;have HO:=Za (Ae.new w [.int .i64 0,.string ⟨#[]⟩,.int .i64 0,.int .i64 0] 50);have HB0:=Za ((Below.refl w.heap.size w).alloc (Nat.le_refl _) (.cells #[.int .i64 0,.string ⟨#[]⟩,.int .i64 0,.int .i64 0] 50));have l4:(1:Int)≤(s.length:Int):=by omega
 have rI:(r:Int)≤2147483647:=by omega
 have rJ:(0:Int)≤(r:Int):=by omega
 have dI:(d:Int)≤4:=by omega
 have dJ:(0:Int)≤(d:Int):=by omega
 have dK:1+(d:Int)≤(s.length:Int):=by omega
 have dL:1+d≤s.length:=by omega
 have HZ:=Za hz;clear hr hd hde ho hl h0 d1 d2 d3 hz;go_enter func93,ntmps93
 go_wp2_with fail
 rw[HX1.o _ rfl];refine(Tryz.utf8_DecodeRuneInString (Aa (s.drop 1)) _ (HL.o.old HB0.o).utf).mono ?_;rw[HDE.o];rintro e w1 ⟨rfl,hb1⟩;have HO1:=Za (HO.o.old hb1);have HB1:=Za (HB0.o.trans (hb1.mono HB0.o.size));clear hb1;have hbad:fO r=true↔r<32∨r=39∨r=92∨r=65533:=by unfold fO;exact decide_eq_true_iff
 by_cases hb:fO r=true
 ·have HF:Hid (o=none):=by show _=_;rw[hF.out,if_pos hb]
  have hc:(r:Int)<32∨(¬(r:Int)<32∧((r:Int)==39)=true)∨(¬(r:Int)<32∧((r:Int)==39)=false∧((r:Int)==92)=true)∨(¬(r:Int)<32∧((r:Int)==39)=false∧((r:Int)==92)=false∧((r:Int)==65533)=true):=by
   simp only[beq_iff_eq,beq_eq_false_iff_ne];rcases hbad.1 hb with h|h|h|h<;>omega
  clear hb hbad hF;rcases hc with c1|⟨c1,c2⟩|⟨c1,c2,c3⟩|⟨c1,c2,c3,c4⟩
  all_goals
   have q0:=HO1.o.at 0 _ rfl;have q1:=HO1.o.at 1 _ rfl;have q2:=HO1.o.at 2 _ rfl;have q3:=HO1.o.at 3 _ rfl;have f0:=HO1.o.fz 0;have f1:=HO1.o.fz 1;have f2:=HO1.o.fz 2;have f3:=HO1.o.fz 3;have ql:=HO1.o.lt;go_wp2_with fail
   have HS:=Za ((((HO1.o.set 0 (.int .i64 0)).set 1 (.string (Aa []))).set 2 (.int .i64 0)).set 3 (.int .i64 0));have e0:=HS.o.at 0 _ rfl;have e1:=HS.o.at 1 _ rfl;have e2:=HS.o.at 2 _ rfl;have e3:=HS.o.at 3 _ rfl;exact bodyPost_ret (v:=.tuple #[Ku 0 [] 0 0,.bool false]) (by simp [results,results93,go_sem,Ku,e0,e1,e2,e3]) rfl ⟨⟨_,_,_,_,rfl,HF.o⟩,Vl w _ HB1.o _ _ _ _⟩
 ·have c1:¬(r:Int)<32:=fun h=>hb (hbad.2 (.inl (by omega)))
  have c2:((r:Int)==39)=false:=by rw[beq_eq_false_iff_ne];exact fun h=>hb (hbad.2 (.inr (.inl (by omega))))
  have c3:((r:Int)==92)=false:=by rw[beq_eq_false_iff_ne];exact fun h=>hb (hbad.2 (.inr (.inr (.inl (by omega)))))
  have c4:((r:Int)==65533)=false:=by rw[beq_eq_false_iff_ne];exact fun h=>hb (hbad.2 (.inr (.inr (.inr (by omega)))))
  have HNB:=Za hb;clear hb hbad;go_wp2_with fail
  rw[HX2.o _ rfl];refine(Tryz.strings_HasPrefix (Aa (s.drop (1+d))) (Aa [39]) w1).mono ?_;rintro e w2 ⟨he,hw2⟩;replace he:e=.returned (.bool (Zi (s.drop (1+d)) [39])):=he;obtain rfl:w1=w2:=hw2.symm
  cases hp:Zi (s.drop (1+d)) [39]
  ·rw[hp]at he
   subst he;have HF:Hid (o=none):=by show _=_;rw[hF.out,if_neg HNB.o,if_neg (by rw[hp];decide)]
   clear hp hF;have q0:=HO1.o.at 0 _ rfl;have q1:=HO1.o.at 1 _ rfl;have q2:=HO1.o.at 2 _ rfl;have q3:=HO1.o.at 3 _ rfl;have f0:=HO1.o.fz 0;have f1:=HO1.o.fz 1;have f2:=HO1.o.fz 2;have f3:=HO1.o.fz 3;have ql:=HO1.o.lt;go_wp2_with fail
   have HS:=Za ((((HO1.o.set 0 (.int .i64 0)).set 1 (.string (Aa []))).set 2 (.int .i64 0)).set 3 (.int .i64 0));have e0:=HS.o.at 0 _ rfl;have e1:=HS.o.at 1 _ rfl;have e2:=HS.o.at 2 _ rfl;have e3:=HS.o.at 3 _ rfl;exact bodyPost_ret (v:=.tuple #[Ku 0 [] 0 0,.bool false]) (by simp [results,results93,go_sem,Ku,e0,e1,e2,e3]) rfl ⟨⟨_,_,_,_,rfl,HF.o⟩,Vl w _ HB1.o _ _ _ _⟩
  ·rw[hp]at he
   subst he;have HF:Hid (o=some (3,s.take (d+2),(r:Int))):=by show _=_;rw[hF.out,if_neg HNB.o,if_pos hp]
   have hl2:2+d≤s.length:=by
    have:(s.drop (1+d))≠[]:=by intro h;rw[h]at hp;exact absurd hp (by decide)
    have:=List.length_pos_iff.2 this;rw[List.length_drop]at this;omega
   have hl3:(d:Int)+2≤(s.length:Int):=by omega
   have hl4:d+2≤s.length:=by omega
   have hx3:=HX3.o;generalize s.take (d+2)=k at*;clear hp hF hl2;have q0:=HO1.o.at 0 _ rfl;have q1:=HO1.o.at 1 _ rfl;have q2:=HO1.o.at 2 _ rfl;have q3:=HO1.o.at 3 _ rfl;have f0:=HO1.o.fz 0;have f1:=HO1.o.fz 1;have f2:=HO1.o.fz 2;have f3:=HO1.o.fz 3;have ql:=HO1.o.lt;go_wp2_with fail
   have HS:=Za ((((HO1.o.set 0 (.int .i64 3)).set 1 (.string (Aa k))).set 2 (.int .i64 r)).set 3 (.int .i64 0));have e0:=HS.o.at 0 _ rfl;have e1:=HS.o.at 1 _ rfl;have e2:=HS.o.at 2 _ rfl;have e3:=HS.o.at 3 _ rfl;exact bodyPost_ret (v:=.tuple #[Ku 3 k r 0,.bool true]) (by simp [results,results93,go_sem,Ku,e0,e1,e2,e3]) rfl ⟨⟨_,_,_,_,rfl,HF.o⟩,Vl w _ HB1.o _ _ _ _⟩
end Go.Proofs.YtcfpfnoldgnloaaGreatDoor
namespace Go.Proofs.YtcfpfnoldgnloaaGreatDoor
open Go.ChangeShapes Go.WideShapes Go.ChangeAt Go.RowKit
set_option maxHeartbeats 4000000
set_option maxRecDepth 100000
theorem zgTab:Tryz.prog.globalNamed "internal/strconv.uint64pow10" =some 3:=by kernel_rfl
theorem oD:(Tryz.prog.globals[3]?).map (·.type)=some 211:=by kernel_rfl
theorem qR:Tryz.prog.cellsOf 211=20:=by kernel_rfl
theorem zcellsU:Tryz.prog.cellsOf 194=1:=by kernel_rfl
theorem zU8:U8Extra Tryz.prog Tryz.lays196_ren:=⟨by kernel_rfl,by kernel_rfl,by kernel_rfl,by kernel_rfl,by kernel_rfl,by kernel_rfl,by kernel_rfl⟩
theorem zaccept:Rows.laid_unicode_utf8_acceptRanges=Lib.acceptData:=by kernel_rfl
theorem dG {H:Type}{enc:TypeId ×Value→H}{P:Program}{w:World}{base:Nat}{sp:Nat→Bool}{held:Bool}{fuel:Nat}{t:TypeId}{ms:Array (String ×TypeId)}{cs:List Value}{nm:String}{d:DataW H}{p:List MemPlace}(ht:P.underlying t=some (.interface ms))
  (h:DataW.trod enc P w base sp held fuel t cs=some (.iface nm d,p)):∃u v,cs=[.iface u v]:=by
 cases fuel with
 |zero=>simp [DataW.trod]at h
 |succ fuel=>
  unfold DataW.trod at h;rw[ht]at h;split at h<;>simp_all
theorem iS {w:World}{n:String}{g:Nat}{nm:String}{d:DataW Unit}(hg:Tryz.prog.globalNamed n=some g)(hy:(Tryz.prog.globals[g]?).map (·.type)=some 160)(h:Lib.VarReads Tryz.prog w n (.iface nm d)):∃te pe,w.cell? ⟨g,0,none⟩=some (.iface te pe):=by
 obtain⟨g',t,cs,fuel,p,h1,h2,h3,h4⟩:=h;rw[hg]at h1
 cases h1
 rw[hy]at h2
 cases h2
 obtain⟨u,v,e⟩:=dG Tryz.underlying160 h4;refine⟨u,v,?_⟩;unfold World.var? at h3;rw[hg]at h3;simp only[Option.bind_some]at h3;unfold World.cell?
 cases hh:w.heap[g]? with
 |none=>rw[hh]at h3;cases h3
 |some o=>
  rw[hh]at h3
  cases o with
  |cells cs' T fz=>
   simp at h3;subst h3;have e2:cs'= #[.iface u v]:=by rw[←Array.toArray_toList (xs:=cs'),e]
   simp [e2]
  |_=>cases h3
theorem zlib_of {W:World}(h:laidMetH Tryz.prog Rows.parseDeepRow.laid W)(hsh:W.ShapedOpen Tryz.prog):Jj W:=by
 have h':laidMet Tryz.prog Rows.parseDeepRow.laid W:=h;refine⟨?_,?_,?_,?_,?_⟩
 ·exact Lib.tabIs_of_head (rest:=_) zgTab oD Tryz.underlying211 Tryz.underlying194 zcellsU qR (Sr (Sr h'))
 ·exact cell_of_shapedOpen_int (zero:= #[.int .i64 0]) (t:=3) hsh (of_decide_eq_true (by kernel_rfl)) (by kernel_rfl) rfl (by kernel_rfl) (by kernel_rfl) Tryz.underlying3
 ·refine utf8Tabs_of_readsT (U8Types.of196 Tryz.lays196) zU8 ?_ ?_
  ·have:=Lib.laidMet.reads h' (n:= "unicode/utf8.first") (d:=Rows.laid_unicode_utf8_first) (.tail _ (.tail _ (.tail _ (.tail _ (.tail _ (.tail _ (.head _)))))))
   rw[←Pinned.utf8First_eq];exact this
  ·have:=Lib.laidMet.reads h' (n:= "unicode/utf8.acceptRanges") (d:=Rows.laid_unicode_utf8_acceptRanges) (.tail _ (.tail _ (.tail _ (.head _))))
   rw[←zaccept];exact this
 ·exact iS (n:= "strconv.ErrSyntax") (by kernel_rfl) (by kernel_rfl) (Lib.laidMet.reads h' (n:= "strconv.ErrSyntax") (d:=Rows.laid_strconv_ErrSyntax) (.tail _ (.tail _ (.tail _ (.tail _ (.tail _ (.head _)))))))
 ·exact iS (n:= "strconv.ErrRange") (by kernel_rfl) (by kernel_rfl) (Lib.laidMet.reads h' (n:= "strconv.ErrRange") (d:=Rows.laid_strconv_ErrRange) (.tail _ (.tail _ (.tail _ (.tail _ (.head _))))))
end Go.Proofs.YtcfpfnoldgnloaaGreatDoor
namespace Go.Proofs.YtcfpfnoldgnloaaGreatDoor
open Go.RowKit
set_option maxHeartbeats 20000000
set_option maxRecDepth 100000
open List renaming mem_cons_self→Za,append_assoc→Zb,append_nil→Zc,mem_of_find?_eq_some→Zd
structure T3 where
 kind:Int
 text:Bs
 num:Int
def t3(t:Tk):T3:=⟨t.kind,t.text,t.num⟩
inductive Pc where
 |t (x:T3)
 |g (b:Bs)
def Pc.text:Pc→Bs|t x=>x.text|g b=>b
def Az(l:List Pc):Bs:=l.flatMap Pc.text
def Gc:List Pc→List T3
 |[]=>[]
 |.t x::l=>x::Gc l
 |.g _::l=>Gc l
theorem Ap(a b:List Pc):Az (a++b)=Az a++Az b:=List.flatMap_append
theorem Hz:∀a b:List Pc,Gc (a++b)=Gc a++Gc b
 |[],b=>rfl
 |.t x::a,b=>by simp [Gc,Hz a b]
 |.g x::a,b=>by simp [Gc,Hz a b]
abbrev sg(s:Bs):Pc:=.t ⟨4,s,0⟩
abbrev wd(s:Bs):Pc:=.t ⟨2,s,0⟩
abbrev nmp(s:Bs):Pc:=.t ⟨1,s,0⟩
abbrev nu(n:Int):Pc:=.t ⟨3,Lib.itoa n,n⟩
def Ho:List (List Pc)→List Pc
 |[]=>[]
 |x::l=>x++l.flatMap (fun y=>[sg [44],.g [32]]++y)
def Hl(e:Ex)(level:Int)(l:List Pc):List Pc:=if e.kind=4∧Al e.op<level then [sg [40]]++l++[sg [41]]else l
def Gq(k o n:Int)(nm:Bs)(args:List Ex)(ts:List (List Pc)):List Pc:=
 if k=1 then [nu n]
 else if k=2 then [nmp nm]
 else if k=3 then [sg (Aw o)]++Hl (Bx args 0) 9 (ts.getD 0 [])
 else if k=4 then Hl (Bx args 0) (Al o) (ts.getD 0 [])++([.g [32],sg (Aw o),.g [32]])++Hl (Bx args 1) (Al o+1) (ts.getD 1 [])
 else if k=5 then [nmp nm,sg [40]]++Ho ts++[sg [41]]
 else if k=6 then [nmp nm,sg [91]]++ts.getD 0 []++[sg [93]]
 else if k=7 then [wd [114,101,97,100],sg [40],sg [41]]else []
mutual
def Ck:Ex→List Pc
 |.mk k o n nm args=>Gq k o n nm args (nL args)
def nL:List Ex→List (List Pc)
 |[]=>[]
 |x::l=>Ck x::nL l
end
theorem jF:∀l,nL l=l.map Ck
 |[]=>rfl
 |x::l=>by simp [nL,jF l]
theorem Mj(k o n:Int)(nm:Bs)(args:List Ex):Ck (.mk k o n nm args)=Gq k o n nm args (args.map Ck):=by
 rw[Ck,jF]
theorem Su(o n:Int)(nm:Bs)(args:List Ex):Ck (.mk 1 o n nm args)=[nu n]:=by
 rw[Mj];unfold Gq;rw[if_pos rfl]
theorem Sy(o n:Int)(nm:Bs)(args:List Ex):Ck (.mk 2 o n nm args)=[nmp nm]:=by
 rw[Mj];unfold Gq;rw[if_neg (by decide),if_pos rfl]
def Da(e:Ex)(level:Int):List Pc:=Hl e level (Ck e)
theorem Th(o n:Int)(nm:Bs)(x:Ex):Ck (.mk 3 o n nm [x])=sg (Aw o)::Da x 9:=by
 rw[Mj];unfold Gq;rw[if_neg (by decide),if_neg (by decide),if_pos rfl];rfl
theorem Tr(o n:Int)(nm:Bs)(x y:Ex):Ck (.mk 4 o n nm [x,y])=Da x (Al o)++([.g [32],sg (Aw o),.g [32]]++Da y (Al o+1)):=by
 rw[Mj];unfold Gq;rw[if_neg (by decide),if_neg (by decide),if_neg (by decide),if_pos rfl,Zb];rfl
theorem Lp(o n:Int)(nm:Bs)(args:List Ex):Ck (.mk 5 o n nm args)=nmp nm::sg [40]::(Ho (args.map Ck)++[sg [41]]):=by
 rw[Mj];unfold Gq;rw[if_neg (by decide),if_neg (by decide),if_neg (by decide),if_neg (by decide),if_pos rfl];simp
theorem Tz(o n:Int)(nm:Bs)(x:Ex):Ck (.mk 6 o n nm [x])=nmp nm::sg [91]::(Ck x++[sg [93]]):=by
 rw[Mj];unfold Gq;rw[if_neg (by decide),if_neg (by decide),if_neg (by decide),if_neg (by decide),if_neg (by decide),if_pos rfl];rfl
theorem Ud(o n:Int)(nm:Bs)(args:List Ex):Ck (.mk 7 o n nm args)=[wd [114,101,97,100],sg [40],sg [41]]:=by
 rw[Mj];unfold Gq;rw[if_neg (by decide),if_neg (by decide),if_neg (by decide),if_neg (by decide),if_neg (by decide),if_neg (by decide),if_pos rfl]
theorem jA:∀l:List (List Pc),Az (Ho l)=Bo (l.map Az)
 |[]=>rfl
 |x::l=>by
  unfold Ho Bo;rw[List.map_cons];dsimp only;rw[Ap];congr 1
  unfold Az;rw[List.flatMap_assoc,List.flatMap_map];rfl
theorem Td(e:Ex)(lv:Int)(l:List Pc):Az (Hl e lv l)=Fx e lv (Az l):=by
 unfold Hl Fx;split
 ·rw[Ap,Ap];rfl
 ·rfl
theorem bG(e:Ex):Az (Ck e)=Ak e:=by
 obtain⟨k,o,n,nm,args⟩:=e;rw[Mj,Hj];have ih:(args.map Ck).map Az=args.map Ak:=by
  rw[List.map_map];exact List.map_congr_left (fun x hx=>bG x)
 have hg:∀i,Az ((args.map Ck).getD i [])=(args.map Ak).getD i []:=by
  intro i;rw[←ih];simp only[List.getD_eq_getElem?_getD,List.getElem?_map]
  cases args[i]? <;>rfl
 show Az (Gq k o n nm args (args.map Ck))=Fk k o n nm args (args.map Ak)
 unfold Gq Fk;split
 ·simp [Az,Pc.text]
 split
 ·simp [Az,Pc.text]
 split
 ·rw[Ap,Td,hg];simp [Az,Pc.text]
 split
 ·rw[Ap,Ap,Td,Td,hg,hg];simp [Az,Pc.text]
 split
 ·rw[Ap,Ap,jA,ih];simp [Az,Pc.text]
 split
 ·rw[Ap,Ap,hg];simp [Az,Pc.text]
 split
 ·rfl
 ·rfl
termination_by SizeOf.sizeOf e
decreasing_by
 have:=List.sizeOf_lt_of_mem hx;simp only[Ex.mk.sizeOf_spec];omega
def Ev {α:Type}(g:Nat→PR α)(z:PR α):Prop:= ∃f0,∀f,f0≤f→g f=z
theorem Ev.two {α β:Type}{g:Nat→PR α}{h:Nat→PR β}{y:PR α}{z:PR β}(hg:Ev g y)(hh:Ev h z):∃f0,∀f,f0≤f→g f=y∧h f=z:=by
 obtain⟨a,ha⟩:=hg;obtain⟨b,hb⟩:=hh;exact⟨max a b,fun f hf=>⟨ha f (by omega),hb f (by omega)⟩⟩
theorem Ev.succ {α:Type}{g:Nat→PR α}{z:PR α}(h:∃f0,∀f,f0≤f→g (f+1)=z):Ev g z:=by
 obtain⟨a,ha⟩:=h;refine⟨a+1,fun f hf=>?_⟩;obtain⟨k,rfl⟩:∃k,f=k+1:=⟨f-1,by omega⟩;exact ha k (by omega)
theorem Ev.const {α:Type}{g:Nat→PR α}{z:PR α}(h:∀f,g (f+1)=z):Ev g z:=Ev.succ ⟨0,fun f _=>h f⟩
theorem Ev.one {α β:Type}{g:Nat→PR α}{h:Nat→PR β}{y:PR α}{z:PR β}(hg:Ev g y)(k:∀f,g f=y→h (f+1)=z):Ev h z:=by
 obtain⟨a,ha⟩:=hg;exact Ev.succ ⟨a,fun f hf=>k f (ha f hf)⟩
theorem Ev.both {α β γ:Type}{g:Nat→PR α}{h:Nat→PR β}{q:Nat→PR γ}{x:PR α}{y:PR β}{z:PR γ}(hg:Ev g x)(hh:Ev h y)(k:∀f,g f=x→h f=y→q (f+1)=z):Ev q z:=by
 obtain⟨a,ha⟩:=Ev.two hg hh;exact Ev.succ ⟨a,fun f hf=>k f (ha f hf).1 (ha f hf).2⟩
def For(ts:List Tk)(l:List Pc):Prop:=ts.map t3=Gc l
theorem For.app {ts:List Tk}{a b:List Pc}(h:For ts (a++b)):∃t1 t2,ts=t1++t2∧For t1 a∧For t2 b:=by
 unfold For at h;rw[Hz]at h;obtain⟨t1,t2,e,h1,h2⟩:=List.map_eq_append_iff.1 h;exact⟨t1,t2,e,h1,h2⟩
theorem For.cons {ts:List Tk}{x:T3}{l:List Pc}(h:For ts (.t x::l)):∃t r,ts=t::r∧t3 t=x∧For r l:=by
 unfold For at h;obtain⟨t,r,e,h1,h2⟩:=List.map_eq_cons_iff.1 (show ts.map t3=x::Gc l from h);exact⟨t,r,e,h1,h2⟩
theorem For.gap {ts:List Tk}{b:Bs}{l:List Pc}(h:For ts (.g b::l)):For ts l:=h
theorem For.nil {ts:List Tk}(h:For ts []):ts=[]:=List.map_eq_nil_iff.1 h
theorem Cw {t:Tk}{s:Bs}(h:t3 t=⟨4,s,0⟩):isP s t=true:=by
 unfold t3 at h;injection h with h1 h2 h3
 unfold isP;simp [h1,h2]
theorem Lq {t:Tk}{s:Bs}(h:t3 t=⟨2,s,0⟩):isP s t=true:=by
 unfold t3 at h;injection h with h1 h2 h3
 unfold isP;simp [h1,h2]
theorem Mz {t:Tk}{s:Bs}(h:t.kind=1∨t.kind=3∨t.kind=5):isP s t=false:=by
 unfold isP;rcases h with h|h|h<;>simp [h]
theorem Dg {t:Tk}{s:Bs}(h:t.text≠s):isP s t=false:=by
 unfold isP;simp [h]
theorem We {lv:Int}{t:Tk}{r:List Tk}:Dp lv (t::r)=0↔∀i:Nat,i<16→isP (Aw ((i:Int)+1)) t=true→Al ((i:Int)+1)<lv:=by
 unfold Dp;dsimp only;constructor
 ·intro h i hi hp
  rcases hf:(((List.range 16).map fun i:Nat=>(i:Int)+1).find? fun op=>isP (Aw op) t && decide (lv≤Al op))with _|op
  ·rw[List.find?_eq_none]at hf
   have:=hf ((i:Int)+1) (List.mem_map.2 ⟨i,List.mem_range.2 hi,rfl⟩);rw[hp]at this;simp at this;exact this
  ·rw[hf]at h
   have hm:=Zd hf;obtain⟨j,_,e⟩:=List.mem_map.1 hm;simp at h;omega
 ·intro h
  rcases hf:(((List.range 16).map fun i:Nat=>(i:Int)+1).find? fun op=>isP (Aw op) t && decide (lv≤Al op))with _|op
  ·rfl
  ·have hs:=List.find?_some hf
   have hm:=Zd hf;obtain⟨j,hj,e⟩:=List.mem_map.1 hm;subst e;simp at hs;have:=h j (List.mem_range.1 hj) hs.1;omega
theorem Yl {a b:Int}{l:List Tk}(h:Dp a l=0)(hab:a≤b):Dp b l=0:=by
 cases l with
 |nil=>rfl
 |cons t r=>
  rw[We]at h ⊢;intro i hi hp;have:=h i hi hp;omega
theorem sG(op:Int):Al op≤8:=by
 unfold Al
 repeat' split
 all_goals omega
theorem Rk {op:Int}(h:0<Al op):∃i:Fin 16,op=(i.val:Int)+1:=by
 have:op=1∨op=2∨op=3∨op=4∨op=5∨op=6∨op=7∨op=8∨op=9∨op=10∨op=11∨op=12∨op=13∨op=14∨op=15∨op=16:=by
  unfold Al at h
  revert h
  repeat' split
  all_goals(intro h;first|omega|(exfalso;exact absurd h (by decide)))
 rcases this with h|h|h|h|h|h|h|h|h|h|h|h|h|h|h|h
 ·exact⟨0,h⟩
 ·exact⟨1,h⟩
 ·exact⟨2,h⟩
 ·exact⟨3,h⟩
 ·exact⟨4,h⟩
 ·exact⟨5,h⟩
 ·exact⟨6,h⟩
 ·exact⟨7,h⟩
 ·exact⟨8,h⟩
 ·exact⟨9,h⟩
 ·exact⟨10,h⟩
 ·exact⟨11,h⟩
 ·exact⟨12,h⟩
 ·exact⟨13,h⟩
 ·exact⟨14,h⟩
 ·exact⟨15,h⟩
theorem iO:∀i j:Fin 16,Aw ((i.val:Int)+1)=Aw ((j.val:Int)+1)→i=j:=by decide
theorem Db {s:Bs}{t:Tk}(h:isP s t=true):t.text=s:=by
 unfold isP at h;simp at h;exact h.2
theorem vI {lv op:Int}{t:Tk}{r:List Tk}(ho:0<Al op)(hl:lv≤Al op)(ht:isP (Aw op) t=true):Dp lv (t::r)=op:=by
 obtain⟨i,rfl⟩:=Rk ho;unfold Dp;dsimp only;rcases hf:(((List.range 16).map fun i:Nat=>(i:Int)+1).find? fun op=>isP (Aw op) t && decide (lv≤Al op))with _|op
 ·rw[List.find?_eq_none]at hf
  have:=hf ((i.val:Int)+1) (List.mem_map.2 ⟨i.val,List.mem_range.2 i.isLt,rfl⟩);rw[ht]at this;simp at this;omega
 ·have hs:=List.find?_some hf
  have hm:=Zd hf;obtain⟨j,hj,e⟩:=List.mem_map.1 hm;subst e;simp at hs;have e1:=Db ht;have e2:=Db hs.1;have:=iO i ⟨j,List.mem_range.1 hj⟩ (e1.symm.trans e2);subst this;rfl
theorem oO {lv:Int}{t:Tk}{r:List Tk}(h:∀i:Fin 16,t.text≠Aw ((i.val:Int)+1)):Dp lv (t::r)=0:=by
 rw[We];intro i hi hp;exact absurd (Db hp) (h ⟨i,hi⟩)
theorem bin_lvl {op lv:Int}{t:Tk}{r:List Tk}(ho:0<Al op)(ht:isP (Aw op) t=true)(hl:Al op<lv):Dp lv (t::r)=0:=by
 obtain⟨i,rfl⟩:=Rk ho;rw[We];intro j hj hp;have:=iO i ⟨j,hj⟩ ((Db ht).symm.trans (Db hp));subst this;exact hl
theorem jD {lv:Int}{l r:List Tk}{x:Ex}{z:PR Ex}(h1:Ev (fun f=>Br f l) (.ok (x,r)))(h2:Ev (fun f=>Jz f lv x r) z):Ev (fun f=>Bf f lv l) z:=
 Ev.both h1 h2 (fun f e1 e2=>by(try dsimp only at e1 e2 ⊢);rw[Bf,e1];exact e2)
theorem bL {lv:Int}{l:List Tk}{x:Ex}(h:Dp lv l=0):Ev (fun f=>Jz f lv x l) (.ok (x,l)):=
 Ev.const (fun f=>by(try dsimp only);rw[Jz,if_pos h])
theorem oG {lv op:Int}{t:Tk}{l r:List Tk}{x y:Ex}{z:PR Ex}(ho:0<Al op)(hl:lv≤Al op)(ht:isP (Aw op) t=true)(h1:Ev (fun f=>Bf f (Al op+1) l) (.ok (y,r)))(h2:Ev (fun f=>Jz f lv (.mk 4 op 0 [] [x,y]) r) z):Ev (fun f=>Jz f lv x (t::l)) z:=
 Ev.both h1 h2 (fun f e1 e2=>by
  (try dsimp only at e1 e2 ⊢);have hb:Dp lv (t::l)=op:=vI ho hl ht;have h0:op≠0:=by rintro rfl;exact absurd ho (by decide)
  rw[Jz,hb,if_neg h0,List.drop_one,List.tail_cons,e1];exact e2)
theorem dR {t:Tk}{r:List Tk}(h:isP (Aw 17) t=false∧isP (Aw 18) t=false∧isP (Aw 19) t=false):Fh (t::r)=none:=by
 unfold Fh;rw[Af h.1,Af h.2.1,Af h.2.2]
theorem un_some {op:Int}{t:Tk}{r:List Tk}(ho:op=17∨op=18∨op=19)(h:isP (Aw op) t=true):Fh (t::r)=some (op,r):=by
 have ht:=Db h;unfold Fh;rcases ho with rfl|rfl|rfl
 ·rw[An h]
 ·rw[Af (Dg (by rw[ht];decide)),An h]
 ·rw[Af (Dg (by rw[ht];decide)),Af (Dg (by rw[ht];decide)),An h]
theorem qI {op:Int}{t:Tk}{l r:List Tk}{x:Ex}(ho:op=17∨op=18∨op=19)(h:isP (Aw op) t=true)(h1:Ev (fun f=>Br f l) (.ok (x,r))):Ev (fun f=>Br f (t::l)) (.ok (.mk 3 op 0 [] [x],r)):=
 Ev.one h1 (fun f e=>by(try dsimp only at e ⊢);rw[Br,un_some ho h];dsimp only;rw[e])
theorem mT {t:Tk}{r:List Tk}(h:t.text≠Aw 17∧t.text≠Aw 18∧t.text≠Aw 19):Fh (t::r)=none:=dR ⟨Dg h.1,Dg h.2.1,Dg h.2.2⟩
theorem gR {t u:Tk}{l r:List Tk}{x:Ex}(h:isP [40] t=true)(hu:isP [41] u=true)(h1:Ev (fun f=>Bf f 1 l) (.ok (x,u::r))):Ev (fun f=>Br f (t::l)) (.ok (x,r)):=
 Ev.one h1 (fun f e=>by
  (try dsimp only at e ⊢);have ht:=Db h;rw[Br,mT ⟨by rw[ht];decide,by rw[ht];decide,by rw[ht];decide⟩];dsimp only;rw[An h];dsimp only;rw[e];dsimp only;rw[Ch hu])
theorem lJ {t u v:Tk}{r:List Tk}(h:isP [114,101,97,100] t=true)(hu:isP [40] u=true)(hv:isP [41] v=true):Ev (fun f=>Br f (t::u::v::r)) (.ok (.mk 7 0 0 [] [],r)):=
 Ev.const (fun f=>by
  (try dsimp only);have ht:=Db h;rw[Br,mT ⟨by rw[ht];decide,by rw[ht];decide,by rw[ht];decide⟩];dsimp only;rw[Af (Dg (by rw[ht];decide)),An h];dsimp only;rw[Ch hu];dsimp only;rw[Ch hv])
theorem qV {t:Tk}{r:List Tk}(h:t.kind=3):Ev (fun f=>Br f (t::r)) (.ok (.mk 1 0 t.num [] [],r)):=
 Ev.const (fun f=>by
  (try dsimp only);have hk:∀s,isP s t=false:=fun s=>Mz (.inr (.inl h))
  rw[Br,dR ⟨hk _,hk _,hk _⟩];dsimp only;rw[Af (hk _),Af (hk _)];dsimp only;rw[if_pos h])
theorem Rc {t:Tk}{l:List Tk}{z:PR Ex}(h:t.kind=1)(h1:Ev (fun f=>Dj f t.text l) z):Ev (fun f=>Br f (t::l)) z:=
 Ev.one h1 (fun f e=>by
  (try dsimp only at e ⊢);have hk:∀s,isP s t=false:=fun s=>Mz (.inl h)
  rw[Br,dR ⟨hk _,hk _,hk _⟩];dsimp only;rw[Af (hk _),Af (hk _)];dsimp only;rw[if_neg (by rw[h];decide),if_pos h];exact e)
theorem qK {s:Bs}{l:List Tk}(h1:Bp [40] l=none)(h2:Bp [91] l=none):Ev (fun f=>Dj f s l) (.ok (.mk 2 0 0 s [],l)):=
 Ev.const (fun f=>by(try dsimp only);rw[Dj,h1,h2])
theorem lZ {s:Bs}{t:Tk}{l r:List Tk}{a:List Ex}(h:isP [40] t=true)(h1:Ev (fun f=>Hg f l) (.ok (a,r))):Ev (fun f=>Dj f s (t::l)) (.ok (.mk 5 0 0 s a,r)):=
 Ev.one h1 (fun f e=>by(try dsimp only at e ⊢);rw[Dj,An h];dsimp only;rw[e])
theorem qM {s:Bs}{t u:Tk}{l r:List Tk}{x:Ex}(h:isP [91] t=true)(hu:isP [93] u=true)(h1:Ev (fun f=>Bf f 1 l) (.ok (x,u::r))):Ev (fun f=>Dj f s (t::l)) (.ok (.mk 6 0 0 s [x],r)):=
 Ev.one h1 (fun f e=>by
  (try dsimp only at e ⊢);have ht:=Db h;rw[Dj,Af (Dg (by rw[ht];decide)),An h];dsimp only;rw[e];dsimp only;rw[Ch hu])
theorem fE {t:Tk}{r:List Tk}(h:isP [41] t=true):Ev (fun f=>Hg f (t::r)) (.ok ([],r)):=
 Ev.const (fun f=>by(try dsimp only);rw[Hg,An h])
theorem aV {l:List Tk}{z:PR (List Ex)}(h:Bp [41] l=none)(h1:Ev (fun f=>Jv f [] l) z):Ev (fun f=>Hg f l) z:=
 Ev.one h1 (fun f e=>by(try dsimp only at e ⊢);rw[Hg,h];exact e)
theorem rW {a:List Ex}{x:Ex}{t:Tk}{l r:List Tk}(ht:isP [41] t=true)(h1:Ev (fun f=>Bf f 1 l) (.ok (x,t::r))):Ev (fun f=>Jv f a l) (.ok (a++[x],r)):=
 Ev.one h1 (fun f e=>by
  (try dsimp only at e ⊢);have h:=Db ht;rw[Jv,e];dsimp only;rw[Af (Dg (by rw[h];decide))];dsimp only;rw[Ch ht])
theorem lL {a:List Ex}{x:Ex}{t:Tk}{l r:List Tk}{z:PR (List Ex)}(ht:isP [44] t=true)(h1:Ev (fun f=>Bf f 1 l) (.ok (x,t::r)))(h2:Ev (fun f=>Jv f (a++[x]) r) z):Ev (fun f=>Jv f a l) z:=
 Ev.both h1 h2 (fun f e1 e2=>by(try dsimp only at e1 e2 ⊢);rw[Jv,e1];dsimp only;rw[An ht];exact e2)
inductive WEx:Ex→Prop
 |num (n:Int) (h:0≤n):WEx (.mk 1 0 n [] [])
 |var (s:Bs) (h:Am s=true):WEx (.mk 2 0 0 s [])
 |one (o:Int) (x:Ex) (ho:o=17∨o=18∨o=19) (hx:WEx x):WEx (.mk 3 o 0 [] [x])
 |two (o:Int) (x y:Ex) (ho:0<Al o) (hx:WEx x) (hy:WEx y):WEx (.mk 4 o 0 [] [x,y])
 |call (s:Bs) (l:List Ex) (h:Am s=true) (hl:l.length≤6) (hx:∀x,x∈l→WEx x):WEx (.mk 5 0 0 s l)
 |idx (s:Bs) (x:Ex) (h:Am s=true) (hx:WEx x):WEx (.mk 6 0 0 s [x])
 |read:WEx (.mk 7 0 0 [] [])
theorem vB:∀(e:Ex),Cn e=true→WEx e
 |.mk k o n nm args,h=>by
  rw[Ll]at h;simp only[Bool.and_eq_true,List.all_eq_true]at h;obtain⟨hw,ha⟩:=h;have ih:∀x,x∈args→WEx x:=fun x hx=>vB x (ha x hx)
  clear ha;unfold Cy at hw;simp only[Bool.and_eq_true,beq_iff_eq]at hw;obtain⟨⟨⟨⟨h1,h2⟩,h3⟩,h4⟩,h5⟩:=hw;unfold Hn at h1;unfold Dm at h2;unfold Ir at h3;unfold Le at h4;unfold En at h5;simp only[Ex.kind,Ex.op,Ex.n,Ex.name,Ex.args]at h1 h2 h3 h4 h5
  by_cases k1:k=1
  ·subst k1
   simp at h1 h2 h3 h4 h5;subst h2 h3 h5;exact .num n (of_decide_eq_true h1)
  by_cases k2:k=2
  ·subst k2
   simp at h1 h2 h3 h4 h5;subst h2 h3 h4;exact .var nm h1
  by_cases k3:k=3
  ·subst k3
   simp at h1 h2 h3 h4 h5;obtain⟨x,rfl⟩:=List.length_eq_one_iff.1 (by omega:args.length=1);subst h4 h5;exact .one o x (of_decide_eq_true h1) (ih x (by simp))
  by_cases k4:k=4
  ·subst k4
   simp at h1 h2 h3 h4 h5;obtain⟨x,y,rfl⟩:∃x y,args=[x,y]:=by
    match args,h2 with
    |[x,y],_=>exact⟨x,y,rfl⟩
   subst h4 h5;exact .two o x y (of_decide_eq_true h1) (ih x (by simp)) (ih y (by simp))
  by_cases k5:k=5
  ·subst k5
   simp at h1 h2 h3 h4 h5;subst h3 h4;exact .call nm args h1.1 (by have:=of_decide_eq_true h1.2;omega) ih
  by_cases k6:k=6
  ·subst k6
   simp at h1 h2 h3 h4 h5;obtain⟨x,rfl⟩:=List.length_eq_one_iff.1 (by omega:args.length=1);subst h3 h4;exact .idx nm x h1 (ih x (by simp))
  ·simp [k1,k2,k3,k4,k5,k6]at h1 h2 h3 h4 h5
   have h1:=of_decide_eq_true h1;subst h1 h2 h3 h4 h5;exact .read
termination_by e=>SizeOf.sizeOf e
decreasing_by
 exact Ex.size_lt (e:=.mk k o n nm args) hx
def eO(e:Ex):Int:=if e.kind=4 then Al e.op else 9
def Qw(l:List Tk):Prop:=Bp [40] l=none∧Bp [91] l=none
theorem Uh {t:Tk}{r:List Tk}(h:t.text≠[40]∧t.text≠[91]):Qw (t::r):=⟨Af (Dg h.1),Af (Dg h.2)⟩
def Nk(e:Ex):Prop:= ∀ts rest,For ts (Da e 9)→Qw rest→Ev (fun f=>Br f (ts++rest)) (.ok (e,rest))
def Uc(e:Ex):Prop:= ∀lv ts rest z,lv≤eO e→For ts (Ck e)→Qw rest→Dp (eO e+1) rest=0→Ev (fun f=>Jz f lv e rest) z→Ev (fun f=>Bf f lv (ts++rest)) z
theorem Ln {e:Ex}(hk:e.kind≠4)(h:Nk e):Uc e:=by
 intro lv ts rest z hl hf hn hb hz;refine jD (h ts rest ?_ hn) hz;have:Da e 9=Ck e:=by unfold Da Hl;rw[if_neg (by rintro⟨h1,_⟩;exact hk h1)]
 rw[this];exact hf
theorem Wf {e:Ex}(ht:Nk e)(hc:Uc e){L lv:Int}(hL:L≤9)(hl:lv≤L){ts rest:List Tk}{z:PR Ex}(hf:For ts (Da e L))(hn:Qw rest)(hb:Dp (L+1) rest=0)(hz:Ev (fun f=>Jz f lv e rest) z):Ev (fun f=>Bf f lv (ts++rest)) z:=by
 by_cases hw:e.kind=4∧Al e.op<L
 ·have h9:Da e 9=Da e L:=by
   unfold Da Hl;rw[if_pos hw,if_pos ⟨hw.1,by omega⟩]
  exact jD (ht ts rest (by rw[h9];exact hf) hn) hz
 ·have h0:Da e L=Ck e:=by unfold Da Hl;rw[if_neg hw]
  have hle:L≤eO e:=by
   unfold eO;split
   ·rename_i h4
    have:¬Al e.op<L:=fun h=>hw ⟨h4,h⟩
    omega
   ·exact hL
  rw[h0]at hf;exact hc lv ts rest z (by omega) hf hn (Yl hb (by omega)) hz
theorem Mq {e:Ex}(hc:Uc e){ts rest:List Tk}(hf:For ts (Ck e))(hn:Qw rest)(hb:Dp 1 rest=0)(h1:1≤eO e):Ev (fun f=>Bf f 1 (ts++rest)) (.ok (e,rest)):=
 hc 1 ts rest _ h1 hf hn (Yl hb (by omega)) (bL hb)
theorem Te {e:Ex}(h:WEx e):1≤eO e:=by
 cases h with
 |two o x y ho hx hy=>show 1≤Al o;omega
 |_=>show(1:Int)≤9;decide
theorem Of {lv:Int}{t:Tk}{r:List Tk}(h:t.text=[41]∨t.text=[93]∨t.text=[44]∨t.text=[59]∨t.text=[]):Dp lv (t::r)=0:=by
 refine oO (fun i=>?_);rcases h with h|h|h|h|h<;>(rw[h];revert i;decide)
theorem Nb {t:Tk}{r:List Tk}(h:t.text=[41]∨t.text=[93]∨t.text=[44]∨t.text=[59]∨t.text=[]):Qw (t::r):=by
 refine Uh ?_;rcases h with h|h|h|h|h<;>(rw[h];decide)
theorem gE {op:Int}{t:Tk}{r:List Tk}(ho:0<Al op)(h:isP (Aw op) t=true):Qw (t::r):=by
 refine Uh ?_;rw[Db h];obtain⟨i,rfl⟩:=Rk ho;clear ho h
 revert i;decide
theorem Oq(x:Ex)(l:List Ex):Ho ((x::l).map Ck)=Ck x++l.flatMap (fun y=>[sg [44],.g [32]]++Ck y):=by
 show Ck x++(l.map Ck).flatMap (fun y=>[sg [44],.g [32]]++y)=_
 rw[List.flatMap_map]
theorem Qq:∀(l:List Ex) (a:List Ex) (x:Ex) (ts rest:List Tk) (t:Tk),(∀y,y∈x::l→Uc y∧WEx y)→For ts (Ck x++l.flatMap (fun y=>[sg [44],.g [32]]++Ck y))→isP [41] t=true→
  Ev (fun f=>Jv f a (ts++t::rest)) (.ok (a++x::l,rest))
 |[],a,x,ts,rest,t,hl,hf,ht=>by
  have hx:=hl x Za;rw[List.flatMap_nil,Zc]at hf;have tt:=Db ht;exact rW ht (Mq hx.1 hf (Nb (.inl tt)) (Of (.inl tt)) (Te hx.2))
 |y::l,a,x,ts,rest,t,hl,hf,ht=>by
  have hx:=hl x Za;obtain⟨t1,t2,rfl,h1,h2⟩:=hf.app;rw[List.flatMap_cons]at h2;obtain⟨c,t2,rfl,hc,h2⟩:=For.cons (by simpa using h2);have hc:=Cw hc;have ih:=Qq l (a++[x]) y t2 rest t (fun z hz=>hl z (List.mem_cons_of_mem _ hz)) (by have:=For.gap h2;simpa using this) ht;have tc:=Db hc;rw[Zb];rw[Zb]at ih;exact lL hc (Mq hx.1 h1 (Nb (.inr (.inr (.inl tc)))) (Of (.inr (.inr (.inl tc)))) (Te hx.2)) ih
theorem Uz {e:Ex}(h:WEx e):∀(lv:Int),∃x l,Gc (Da e lv)=x::l∧x.text≠[41]∧x.kind≠5:=by
 have wrap:∀(e:Ex) (lv:Int),(∃x l,Gc (Ck e)=x::l∧x.text≠[41]∧x.kind≠5)→∃x l,Gc (Da e lv)=x::l∧x.text≠[41]∧x.kind≠5:=by
  intro e lv h;unfold Da Hl;split
  ·exact⟨_,_,rfl,by decide,(by show _≠(5:Int);first|exact(by decide:(3:Int)≠5)|exact(by decide:(1:Int)≠5)|exact(by decide:(4:Int)≠5)|exact(by decide:(2:Int)≠5))⟩
  ·exact h
 have name:∀(s:Bs),Am s=true→s≠[41]:=by
  rintro s h rfl;exact absurd h (by decide)
 induction h with
 |num n h=>
  intro lv;refine wrap _ _ ?_;rw[Su];refine⟨_,_,rfl,?_,(by show _≠(5:Int);first|exact(by decide:(3:Int)≠5)|exact(by decide:(1:Int)≠5)|exact(by decide:(4:Int)≠5)|exact(by decide:(2:Int)≠5))⟩;show Lib.itoa n≠[41]
  intro e;unfold Lib.itoa at e;rw[if_neg (by omega)]at e;have:=Lo n.toNat 41 (by rw[e];exact Za);exact absurd this (by decide)
 |var s h=>intro lv;refine wrap _ _ ?_;rw[Sy];exact⟨_,_,rfl,name s h,(by show _≠(5:Int);first|exact(by decide:(3:Int)≠5)|exact(by decide:(1:Int)≠5)|exact(by decide:(4:Int)≠5)|exact(by decide:(2:Int)≠5))⟩
 |one o x ho hx ih=>
  intro lv;refine wrap _ _ ?_;rw[Th];refine⟨_,_,rfl,?_,(by show _≠(5:Int);first|exact(by decide:(3:Int)≠5)|exact(by decide:(1:Int)≠5)|exact(by decide:(4:Int)≠5)|exact(by decide:(2:Int)≠5))⟩;rcases ho with rfl|rfl|rfl<;>decide
 |two o x y ho hx hy ihx ihy=>
  intro lv;refine wrap _ _ ?_;rw[Tr,Hz];obtain⟨u,l,e,h⟩:=ihx (Al o);rw[e];exact⟨_,_,rfl,h⟩
 |call s l h hl hx ih=>intro lv;refine wrap _ _ ?_;rw[Lp];exact⟨_,_,rfl,name s h,(by show _≠(5:Int);first|exact(by decide:(3:Int)≠5)|exact(by decide:(1:Int)≠5)|exact(by decide:(4:Int)≠5)|exact(by decide:(2:Int)≠5))⟩
 |idx s x h hx ih=>intro lv;refine wrap _ _ ?_;rw[Tz];exact⟨_,_,rfl,name s h,(by show _≠(5:Int);first|exact(by decide:(3:Int)≠5)|exact(by decide:(1:Int)≠5)|exact(by decide:(4:Int)≠5)|exact(by decide:(2:Int)≠5))⟩
 |read=>intro lv;refine wrap _ _ ?_;rw[Ud];exact⟨_,_,rfl,by decide,(by show _≠(5:Int);first|exact(by decide:(3:Int)≠5)|exact(by decide:(1:Int)≠5)|exact(by decide:(4:Int)≠5)|exact(by decide:(2:Int)≠5))⟩
theorem Ke {e:Ex}(h:e.kind≠4)(lv:Int):Da e lv=Ck e:=by
 unfold Da Hl;rw[if_neg (by rintro⟨h1,_⟩;exact h h1)]
theorem Fg {t:Tk}{x:T3}(h:t3 t=x):t.kind=x.kind∧t.text=x.text∧t.num=x.num:=by subst h;exact⟨rfl,rfl,rfl⟩
theorem iW {e:Ex}(h:WEx e):Nk e∧Uc e:=by
 induction h with
 |num n h=>
  have ht:Nk (.mk 1 0 n [] []):=by
   intro ts rest hf hn;rw[Ke (by simp [Ex.kind]),Su]at hf;obtain⟨t,r,rfl,h3,hr⟩:=hf.cons;obtain⟨k1,k2,k3⟩:=Fg h3;rw[hr.nil];have:=qV (t:=t) (r:=rest) k1;rw[k3]at this;exact this
  exact⟨ht,Ln (by simp [Ex.kind]) ht⟩
 |var s h=>
  have ht:Nk (.mk 2 0 0 s []):=by
   intro ts rest hf hn;rw[Ke (by simp [Ex.kind]),Sy]at hf;obtain⟨t,r,rfl,h3,hr⟩:=hf.cons;obtain⟨k1,k2,k3⟩:=Fg h3;rw[hr.nil];have:=Rc (t:=t) (l:=rest) k1 (qK hn.1 hn.2);rw[k2]at this;exact this
  exact⟨ht,Ln (by simp [Ex.kind]) ht⟩
 |one o x ho hx ih=>
  have ht:Nk (.mk 3 o 0 [] [x]):=by
   intro ts rest hf hn;rw[Ke (by simp [Ex.kind]),Th]at hf;obtain⟨t,r,rfl,h3,hr⟩:=hf.cons;exact qI ho (Cw h3) (ih.1 r rest hr hn)
  exact⟨ht,Ln (by simp [Ex.kind]) ht⟩
 |two o x y ho hx hy ihx ihy=>
  have hle:=sG o;have hc:Uc (.mk 4 o 0 [] [x,y]):=by
   intro lv ts rest z hl hf hn hb hz;have hlv:eO (.mk 4 o 0 [] [x,y])=Al o:=rfl;rw[hlv]at hl hb;rw[Tr]at hf;obtain⟨t1,t2,rfl,h1,h2⟩:=hf.app;obtain⟨t,r,rfl,h3,hr⟩:=For.cons (For.gap (show For t2 (.g [32]::sg (Aw o):: .g [32]::Da y (Al o+1))from h2));have hs:=Cw h3;rw[Zb];refine Wf ihx.1 ihx.2 (L:=Al o) (by omega) hl h1 (gE ho hs) (bin_lvl ho hs (by omega)) ?_;refine oG ho hl hs ?_ hz;exact Wf ihy.1 ihy.2 (L:=Al o+1) (by omega) (Int.le_refl _) hr.gap hn (Yl hb (by omega)) (bL hb)
  refine⟨?_,hc⟩;intro ts rest hf hn;have:Da (.mk 4 o 0 [] [x,y]) 9=sg [40]::(Ck (.mk 4 o 0 [] [x,y])++[sg [41]]):=by
   unfold Da Hl;rw[if_pos ⟨rfl,by show Al o<9;omega⟩];rfl
  rw[this]at hf;obtain⟨t,r,rfl,h3,hr⟩:=hf.cons;obtain⟨t1,t2,rfl,h1,h2⟩:=hr.app;obtain⟨u,q,rfl,h4,hq⟩:=h2.cons;rw[hq.nil];have hu:=Cw h4;have tu:=Db hu;have hr1:(t::(t1++[u]))++rest=t::(t1++u::rest):=by simp
  rw[hr1];refine gR (Cw h3) hu ?_;exact Mq hc h1 (Nb (.inl tu)) (Of (.inl tu)) (by show 1≤Al o;omega)
 |call s l h hl hx ih=>
  have ht:Nk (.mk 5 0 0 s l):=by
   intro ts rest hf hn;rw[Ke (by simp [Ex.kind]),Lp]at hf;obtain⟨t,r,rfl,h3,hr⟩:=hf.cons;obtain⟨k1,k2,k3⟩:=Fg h3;obtain⟨o,r,rfl,h4,hr⟩:=hr.cons;obtain⟨t1,t2,rfl,h1,h2⟩:=hr.app;obtain⟨u,q,rfl,h5,hq⟩:=h2.cons;rw[hq.nil];have hu:=Cw h5;have hr1:(t::o::(t1++[u]))++rest=t::o::(t1++u::rest):=by simp
   rw[hr1];have key:Ev (fun f=>Hg f (t1++u::rest)) (.ok (l,rest)):=by
    cases l with
    |nil=>
     have:t1=[]:=h1.nil;subst this;exact fE hu
    |cons x l=>
     have hm:=Qq l [] x t1 rest u (fun y hy=>⟨(ih y hy).2,hx y hy⟩) (by
      have e:Ho ((x::l).map Ck)=Ck x++l.flatMap (fun y=>[sg [44],.g [32]]++Ck y):=by
       exact Oq x l
      rw[←e];exact h1) hu
     refine aV ?_ hm;obtain⟨w,l',e',n1,n2⟩:=Uz (hx x Za) 0;have e0:Da x 0=Ck x:=by
      unfold Da Hl;rw[if_neg];rintro⟨q1,q2⟩;have:=Te (hx x Za);unfold eO at this;rw[if_pos q1]at this;omega
     rw[e0]at e';have e1:t1.map t3=w::(l'++Gc (l.flatMap (fun y=>[sg [44],.g [32]]++Ck y))):=by
      have q:For t1 (Ho ((x::l).map Ck)):=h1;have e:Ho ((x::l).map Ck)=Ck x++l.flatMap (fun y=>[sg [44],.g [32]]++Ck y):=by
       exact Oq x l
      rw[e]at q;unfold For at q;rw[q,Hz,e'];rfl
     obtain⟨a,b,rfl,e2,_⟩:=List.map_eq_cons_iff.1 e1;rw[List.cons_append];refine Af (Dg ?_);rw[show a.text=w.text from by rw[←e2];rfl];exact n1
   have:=Rc (t:=t) (l:=o::(t1++u::rest)) k1 (lZ (Cw h4) key);rw[k2]at this;exact this
  exact⟨ht,Ln (by simp [Ex.kind]) ht⟩
 |idx s x h hx ih=>
  have ht:Nk (.mk 6 0 0 s [x]):=by
   intro ts rest hf hn;rw[Ke (by simp [Ex.kind]),Tz]at hf;obtain⟨t,r,rfl,h3,hr⟩:=hf.cons;obtain⟨k1,k2,k3⟩:=Fg h3;obtain⟨o,r,rfl,h4,hr⟩:=hr.cons;obtain⟨t1,t2,rfl,h1,h2⟩:=hr.app;obtain⟨u,q,rfl,h5,hq⟩:=h2.cons;rw[hq.nil];have hu:=Cw h5;have tu:=Db hu;have hr1:(t::o::(t1++[u]))++rest=t::o::(t1++u::rest):=by simp
   rw[hr1];have:=Rc (t:=t) (l:=o::(t1++u::rest)) k1 (qM (Cw h4) hu (Mq ih.2 h1 (Nb (.inr (.inl tu))) (Of (.inr (.inl tu))) (Te hx)));rw[k2]at this;exact this
  exact⟨ht,Ln (by simp [Ex.kind]) ht⟩
 |read=>
  have ht:Nk (.mk 7 0 0 [] []):=by
   intro ts rest hf hn;rw[Ke (by simp [Ex.kind]),Ud]at hf;obtain⟨t,r,rfl,h3,hr⟩:=hf.cons;obtain⟨u,r,rfl,h4,hr⟩:=hr.cons;obtain⟨v,r,rfl,h5,hr⟩:=hr.cons;rw[hr.nil];exact lJ (Lq h3) (Cw h4) (Cw h5)
  exact⟨ht,Ln (by simp [Ex.kind]) ht⟩
def Dy(t:Nat)(l:List Pc):List Pc:=[.g (Jl t)]++l++[.g [10]]
def Yv(l:List Ex)(i:Nat):List Pc:=Ck (Bx l i)
def Cl(t:Nat)(k:Int)(nm:Bs)(args:List Ex)(noEls:Bool)(T E:List Pc):List Pc:=
 if k=1 then Dy t ([nmp nm,.g [32],sg [61],.g [32]]++Yv args 0++[sg [59]])
 else if k=2 then Dy t ([nmp nm,sg [91]]++Yv args 0++[sg [93],.g [32],sg [61],.g [32]]++Yv args 1++[sg [59]])
 else if k=3 then Dy t ([wd [105,102],.g [32],sg [40]]++Yv args 0++[sg [41],.g [32],sg [123]])++(T++((if noEls then []else Dy t [sg [125],.g [32],wd [101,108,115,101],.g [32],sg [123]]++E)++Dy t [sg [125]]))
 else if k=4 then Dy t ([wd [119,104,105,108,101],.g [32],sg [40]]++Yv args 0++[sg [41],.g [32],sg [123]])++(T++Dy t [sg [125]])
 else if k=5 then Dy t [wd [98,114,101,97,107],sg [59]]
 else if k=6 then Dy t [wd [99,111,110,116,105,110,117,101],sg [59]]
 else if k=7 then Dy t ([wd [114,101,116,117,114,110],.g [32]]++Yv args 0++[sg [59]])
 else if k=8 then Dy t ([wd [112,114,105,110,116],sg [40]]++Yv args 0++[sg [41],sg [59]])
 else if k=9 then Dy t ([wd [116,114,97,112],sg [40]]++Yv args 0++[sg [41],sg [59]])
 else if k=10 then Dy t (Yv args 0++[sg [59]])else []
mutual
def Ec(t:Nat):St→List Pc
 |.mk k nm args thn els=>Cl t k nm args els.isEmpty (Cs (t+1) thn) (Cs (t+1) els)
def Cs(t:Nat):List St→List Pc
 |[]=>[]
 |x::l=>Ec t x++Cs t l
end
theorem Gj(t:Nat)(l:List Pc)(m:List Bs)(h:Az l=m.flatten):Az (Dy t l)=ln t m:=by
 unfold Dy ln;rw[Ap,Ap,h];show(Jl t++[])++m.flatten++([10]++[])=_
 rw[Zc,Zc]
theorem Ks(l:List Ex)(i:Nat):Az (Yv l i)=Ak (Bx l i):=bG _
theorem dM(t:Nat)(k:Int)(nm:Bs)(args:List Ex)(ne:Bool)(T E:List Pc):Az (Cl t k nm args ne T E)=Dd t k nm args ne (Az T) (Az E):=by
 unfold Cl Dd
 by_cases h1:k=1
 ·rw[if_pos h1,if_pos h1]
  refine Gj _ _ _ ?_;simp only[Ap,Ks];simp [Az,Pc.text]
 rw[if_neg h1,if_neg h1]
 by_cases h2:k=2
 ·rw[if_pos h2,if_pos h2]
  refine Gj _ _ _ ?_;simp only[Ap,Ks];simp [Az,Pc.text]
 rw[if_neg h2,if_neg h2]
 by_cases h3:k=3
 ·rw[if_pos h3,if_pos h3]
  rw[Ap,Ap,Ap];refine congr (congrArg _ (Gj _ _ _ ?_)) (congrArg _ (congr (congrArg _ ?_) (Gj _ _ _ ?_)))
  ·simp only[Ap,Ks];simp [Az,Pc.text]
  ·cases ne with
   |true=>rfl
   |false=>
    show Az (Dy t _++E)=ln t _++Az E
    rw[Ap];refine congrArg (· ++_) (Gj _ _ _ ?_);simp [Az,Pc.text]
  ·simp [Az,Pc.text]
 rw[if_neg h3,if_neg h3]
 by_cases h4:k=4
 ·rw[if_pos h4,if_pos h4]
  rw[Ap,Ap];refine congr (congrArg _ (Gj _ _ _ ?_)) (congrArg _ (Gj _ _ _ ?_))
  ·simp only[Ap,Ks];simp [Az,Pc.text]
  ·simp [Az,Pc.text]
 rw[if_neg h4,if_neg h4]
 by_cases h5:k=5
 ·rw[if_pos h5,if_pos h5]
  refine Gj _ _ _ ?_;simp [Az,Pc.text]
 rw[if_neg h5,if_neg h5]
 by_cases h6:k=6
 ·rw[if_pos h6,if_pos h6]
  refine Gj _ _ _ ?_;simp [Az,Pc.text]
 rw[if_neg h6,if_neg h6]
 by_cases h7:k=7
 ·rw[if_pos h7,if_pos h7]
  refine Gj _ _ _ ?_;simp only[Ap,Ks];simp [Az,Pc.text]
 rw[if_neg h7,if_neg h7]
 by_cases h8:k=8
 ·rw[if_pos h8,if_pos h8]
  refine Gj _ _ _ ?_;simp only[Ap,Ks];simp [Az,Pc.text]
 rw[if_neg h8,if_neg h8]
 by_cases h9:k=9
 ·rw[if_pos h9,if_pos h9]
  refine Gj _ _ _ ?_;simp only[Ap,Ks];simp [Az,Pc.text]
 rw[if_neg h9,if_neg h9]
 by_cases h10:k=10
 ·rw[if_pos h10,if_pos h10]
  refine Gj _ _ _ ?_;simp only[Ap,Ks];simp [Az,Pc.text]
 rw[if_neg h10,if_neg h10];rfl
mutual
theorem qL(t:Nat):∀x:St,Az (Ec t x)=Cp t x
 |.mk k nm args thn els=>by rw[Ec,Cp,dM,Ng (t+1) thn,Ng (t+1) els]
theorem Ng(t:Nat):∀l:List St,Az (Cs t l)=By t l
 |[]=>rfl
 |x::l=>by rw[Cs,By,Ap,qL t x,Ng t l]
end
theorem Ev.map {α β:Type}{g:Nat→PR α}{h:Nat→PR β}{y:PR α}{z:PR β}(hg:Ev g y)(k:∀f,g f=y→h f=z):Ev h z:=by
 obtain⟨a,ha⟩:=hg;exact⟨a,fun f hf=>k f (ha f hf)⟩
inductive WSt:St→Prop
 |set (s:Bs) (x:Ex) (h:Am s=true) (hx:WEx x):WSt (.mk 1 s [x] [] [])
 |store (s:Bs) (x y:Ex) (h:Am s=true) (hx:WEx x) (hy:WEx y):WSt (.mk 2 s [x,y] [] [])
 |cond (x:Ex) (a b:List St) (hx:WEx x) (ha:∀y,y∈a→WSt y) (hb:∀y,y∈b→WSt y):WSt (.mk 3 [] [x] a b)
 |loop (x:Ex) (a:List St) (hx:WEx x) (ha:∀y,y∈a→WSt y):WSt (.mk 4 [] [x] a [])
 |brk:WSt (.mk 5 [] [] [] [])
 |cont:WSt (.mk 6 [] [] [] [])
 |ret (x:Ex) (hx:WEx x):WSt (.mk 7 [] [x] [] [])
 |print (x:Ex) (hx:WEx x):WSt (.mk 8 [] [x] [] [])
 |trap (x:Ex) (hx:WEx x):WSt (.mk 9 [] [x] [] [])
 |call (s:Bs) (l:List Ex) (hx:WEx (.mk 5 0 0 s l)):WSt (.mk 10 [] [.mk 5 0 0 s l] [] [])
theorem kJ:∀(m:Nat) (x:St),Ef m x=true→WSt x
 |0,x,h=>by simp [Ef]at h
 |m+1,.mk k nm args thn els,h=>by
  unfold Ef at h;simp only[Bool.and_eq_true,List.all_eq_true,Bool.not_eq_true']at h;obtain⟨⟨⟨⟨h1,h2⟩,ha⟩,ht⟩,he⟩:=h;replace ha:∀x,x∈args→WEx x:=fun x hx=>vB x (by have:=ha x hx;unfold Ew at this;simp at this;exact this.2)
  replace ht:∀x,x∈thn→WSt x:=fun x hx=>kJ m x (ht x hx)
  replace he:∀x,x∈els→WSt x:=fun x hx=>kJ m x (he x hx)
  unfold Jo at h1;unfold Qs at h2;simp only[St.kind,St.name,St.args,St.thn,St.els,Bool.or_eq_false_iff,Bool.and_eq_false_iff,Bool.not_eq_false']at h1 h2;obtain⟨⟨⟨⟨q1,q2⟩,q3⟩,q4⟩,q5⟩:=h1;obtain⟨⟨p1,p2⟩,p3⟩:=h2;have one:∀n:Int,Dz k=1→∃x,args=[x]:=by
   intro _ e;rw[e]at q3;simp at q3;exact List.length_eq_one_iff.1 (by omega)
  have k10:1≤k∧k≤10:=by unfold fOk at q1;exact of_decide_eq_true q1
  have kk:k=1∨k=2∨k=3∨k=4∨k=5∨k=6∨k=7∨k=8∨k=9∨k=10:=by omega
  rcases kk with rfl|rfl|rfl|rfl|rfl|rfl|rfl|rfl|rfl|rfl
  all_goals simp [Eh,Ji,Je]at p1 p2 q4 q5
  ·obtain⟨x,rfl⟩:=one 0 rfl
   subst q4 q5;exact .set nm x (by simpa using p1) (ha x (by simp))
  ·obtain⟨x,y,rfl⟩:∃x y,args=[x,y]:=by
    have:args.length=2:=by simp [Dz]at q3;omega
    match args,this with
    |[x,y],_=>exact⟨x,y,rfl⟩
   subst q4 q5;exact .store nm x y (by simpa using p1) (ha x (by simp)) (ha y (by simp))
  ·obtain⟨x,rfl⟩:=one 0 rfl
   subst p2;exact .cond x thn els (ha x (by simp)) ht he
  ·obtain⟨x,rfl⟩:=one 0 rfl
   subst p2 q5;exact .loop x thn (ha x (by simp)) ht
  ·obtain rfl:args=[]:=by simp [Dz]at q3;exact q3
   subst p2 q4 q5;exact .brk
  ·obtain rfl:args=[]:=by simp [Dz]at q3;exact q3
   subst p2 q4 q5;exact .cont
  ·obtain⟨x,rfl⟩:=one 0 rfl
   subst p2 q4 q5;exact .ret x (ha x (by simp))
  ·obtain⟨x,rfl⟩:=one 0 rfl
   subst p2 q4 q5;exact .print x (ha x (by simp))
  ·obtain⟨x,rfl⟩:=one 0 rfl
   subst p2 q4 q5;exact .trap x (ha x (by simp))
  ·obtain⟨x,rfl⟩:=one 0 rfl
   subst p2 q4 q5;have hx:=ha x (by simp);have h5:x.kind=5:=by simpa using p3
   cases hx with
   |call s l h hl hy=>exact .call s l (.call s l h hl hy)
   |_=>exact absurd h5 (by simp [Ex.kind])
def xH(l:List Tk):Prop:=Bp [101,108,115,101] l=none
def tR(x:St):Prop:= ∀t ts rest,For ts (Ec t x)→xH rest→Ev (fun f=>Dl f (ts++rest)) (.ok (x,rest))
theorem Qo {t:Tk}{s u:Bs}(h:isP s t=true)(hu:(s==u)=false):isP u t=false:=Dg (by rw[Db h];simpa using hu)
theorem Ip {t:Nat}{l:List Pc}{ts:List Tk}(h:For ts (Dy t l)):For ts l:=by
 obtain⟨t1,t2,rfl,h1,h2⟩:=For.app (a:=[.g (Jl t)]++l) (b:=[.g [10]]) h;have e2:t2=[]:=For.nil h2;rw[e2,Zc];exact h1
theorem Yg {e:Ex}(h:WEx e){ts:List Tk}{u:Tk}{rest:List Tk}(hf:For ts (Ck e))(hu:u.text=[41]∨u.text=[93]∨u.text=[44]∨u.text=[59]∨u.text=[]):Ev (fun f=>Bf f 1 (ts++u::rest)) (.ok (e,u::rest)):=
 Mq (iW h).2 hf (Nb hu) (Of hu) (Te h)
theorem Nm {f:Nat}{l r:List Tk}{x:St}{u:Tk}(h1:Bp [105,102] l=none)(h2:Bp [119,104,105,108,101] l=none)(h:Av f l=.ok (x,u::r))(hu:isP [59] u=true):Dl (f+1) l=.ok (x,r):=by
 rw[Dl,h1];dsimp only;rw[h2];dsimp only;rw[h];dsimp only;rw[Ch hu]
theorem Nc {e:Ex}(h:WEx e){a b:Tk}{ts rest:List Tk}(ha:isP [40] a=true)(hf:For ts (Ck e))(hb:isP [41] b=true):Ev (fun f=>Cr f (a::(ts++b::rest))) (.ok (e,rest)):=
 Ev.map (Yg h (rest:=rest) hf (.inl (Db hb))) (fun f e=>by
  (try dsimp only at e ⊢);unfold Cr;rw[Ch ha];dsimp only;rw[e];dsimp only;rw[Ch hb])
theorem pF {a:List St}{t:Tk}{r:List Tk}(h:isP [125] t=true):Ev (fun f=>Dr f a (t::r)) (.ok (a,r)):=
 Ev.const (fun f=>by(try dsimp only);rw[Dr,An h])
theorem kG {a:List St}{x:St}{l r:List Tk}{z:PR (List St)}(h:Bp [125] l=none)(h1:Ev (fun f=>Dl f l) (.ok (x,r)))(h2:Ev (fun f=>Dr f (a++[x]) r) z):Ev (fun f=>Dr f a l) z:=
 Ev.both h1 h2 (fun f e1 e2=>by(try dsimp only at e1 e2 ⊢);rw[Dr,h];dsimp only;rw[e1];exact e2)
theorem Qp {x:St}(h:WSt x)(t:Nat):∃y l,Gc (Ec t x)=y::l∧y.text≠[125]∧y.text≠[101,108,115,101]∧y.text≠[105,110,116]:=by
 have name:∀(s:Bs),Am s=true→s≠[125]∧s≠[101,108,115,101]∧s≠[105,110,116]:=by
  intro s h;exact⟨by rintro rfl;exact absurd h (by decide),by rintro rfl;exact absurd h (by decide),by rintro rfl;exact absurd h (by decide)⟩
 have tl:∀l:List Pc,Gc (Dy t l)=Gc l:=by
  intro l;show Gc (l++[.g [10]])=_
  rw[Hz];simp [Gc]
 cases h with
 |set s x h hx=>rw[Ec];unfold Cl;rw[if_pos rfl,tl];exact⟨_,_,rfl,name s h⟩
 |store s x y h hx hy=>rw[Ec];unfold Cl;rw[if_neg (by decide),if_pos rfl,tl];exact⟨_,_,rfl,name s h⟩
 |cond x a b hx ha hb=>rw[Ec];unfold Cl;rw[if_neg (by decide),if_neg (by decide),if_pos rfl,Hz,tl];exact⟨_,_,rfl,by decide⟩
 |loop x a hx ha=>rw[Ec];unfold Cl;rw[if_neg (by decide),if_neg (by decide),if_neg (by decide),if_pos rfl,Hz,tl];exact⟨_,_,rfl,by decide⟩
 |brk=>rw[Ec];unfold Cl;rw[if_neg (by decide),if_neg (by decide),if_neg (by decide),if_neg (by decide),if_pos rfl,tl];exact⟨_,_,rfl,by decide⟩
 |cont=>rw[Ec];unfold Cl;rw[if_neg (by decide),if_neg (by decide),if_neg (by decide),if_neg (by decide),if_neg (by decide),if_pos rfl,tl];exact⟨_,_,rfl,by decide⟩
 |ret x hx=>rw[Ec];unfold Cl;rw[if_neg (by decide),if_neg (by decide),if_neg (by decide),if_neg (by decide),if_neg (by decide),if_neg (by decide),if_pos rfl,tl];exact⟨_,_,rfl,by decide⟩
 |print x hx=>rw[Ec];unfold Cl;rw[if_neg (by decide),if_neg (by decide),if_neg (by decide),if_neg (by decide),if_neg (by decide),if_neg (by decide),if_neg (by decide),if_pos rfl,tl];exact⟨_,_,rfl,by decide⟩
 |trap x hx=>rw[Ec];unfold Cl;rw[if_neg (by decide),if_neg (by decide),if_neg (by decide),if_neg (by decide),if_neg (by decide),if_neg (by decide),if_neg (by decide),if_neg (by decide),if_pos rfl,tl];exact⟨_,_,rfl,by decide⟩
 |call s l hx=>
  rw[Ec];unfold Cl;rw[if_neg (by decide),if_neg (by decide),if_neg (by decide),if_neg (by decide),if_neg (by decide),if_neg (by decide),if_neg (by decide),if_neg (by decide),if_neg (by decide),if_pos rfl,tl];show ∃y l',Gc (Ck (.mk 5 0 0 s l)++[sg [59]])=y::l'∧_
  rw[Lp]
  cases hx with
  |call _ _ h=>exact⟨_,_,rfl,name s h⟩
theorem Ry {l:List Pc}{ts:List Tk}{y:T3}{l':List T3}(hf:For ts l)(h:Gc l=y::l'):∃t r,ts=t::r∧t.text=y.text:=by
 unfold For at hf;rw[h]at hf;obtain⟨t,r,e,h1,_⟩:=List.map_eq_cons_iff.1 hf;exact⟨t,r,e,by rw[←h1];rfl⟩
theorem Kw {t:Nat}:∀(l:List St),(∀x,x∈l→WSt x∧tR x)→∀(a:List St) (ts:List Tk) (u:Tk) (rest:List Tk),For ts (Cs t l)→isP [125] u=true→Ev (fun f=>Dr f a (ts++u::rest)) (.ok (a++l,rest))
 |[],_,a,ts,u,rest,hf,hu=>by
  rw[Cs]at hf;rw[hf.nil,Zc];exact pF hu
 |x::l,hl,a,ts,u,rest,hf,hu=>by
  rw[Cs]at hf;obtain⟨t1,t2,rfl,h1,h2⟩:=hf.app;have hx:=hl x Za;have ih:=Kw l (fun y hy=>hl y (List.mem_cons_of_mem _ hy)) (a++[x]) t2 u rest h2 hu;have e:a++x::l=a++[x]++l:=by simp
  rw[e,Zb];have hne:xH (t2++u::rest):=by
   cases l with
   |nil=>
    rw[Cs]at h2;rw[h2.nil];exact Af (Qo hu (by decide))
   |cons y l=>
    rw[Cs]at h2;obtain⟨s1,s2,rfl,g1,g2⟩:=h2.app;obtain⟨w,l',e1,n1,n2,n3⟩:=Qp (hl y (by simp)).1 t;obtain⟨c,r,rfl,e2⟩:=Ry g1 e1;exact Af (Dg (by rw[e2];exact n2))
  refine kG ?_ (hx.2 t t1 (t2++u::rest) h1 hne) ih;obtain⟨w,l',e1,n1,n2,n3⟩:=Qp hx.1 t;obtain⟨c,r,rfl,e2⟩:=Ry h1 e1;exact Af (Dg (by rw[e2];exact n1))
end Go.Proofs.YtcfpfnoldgnloaaGreatDoor
