/-
  Scan: any text as tokens, or the line of what is none. Conditions: it has at most 20000 bytes; the library's variables lie in memory.
-/
import Derived.Test.YtfhbinbjkpfedaaGreatDoorRows
import Derived.Deep.DeepHandedRow
import Derived.Lib.LaidTab
import Derived.ChangeSame
import Derived.Lib.ItoaLen
import Derived.Lib.AtoiTie
import Derived.Deep.OwnRows
import Derived.Test.YtfhbinbjkpfedaaGreatDoorNTs01
import Derived.WideLaws
import Derived.Lib.SmallJoins
import Derived.WideKeyArgs
import Derived.Lib.LaidU8T
import Derived.PinnedBridge
import Derived.Shelf.Vars
import Derived.Test.YtfhbinbjkpfedaaGreatDoorNTs09
import Derived.Deep.AppendLies
set_option linter.unusedVariables false
set_option linter.unusedSimpArgs false
namespace Go.Proofs.YtfhbinbjkpfedaaGreatDoor
open Go.ChangeShapes Go.WideShapes Go.ChangeAt Go.RowKit
theorem Nc {P:Program}{x:String ×DataW Unit}{l:List (String ×DataW Unit)}{W:World}(h:laidMet P (x::l) W):laidMet P l W:=by
 obtain⟨n,d⟩:=x;obtain⟨ps,⟨g,t,cs,fuel,p,q,hg,ht,hv,hd,hr,rfl⟩,hn,hc⟩:=h;refine⟨q,hr,(List.nodup_append.1 hn).2.1,fun b off hm=>hc b off (List.mem_append_right _ hm)⟩
theorem Xv {H:Type}{enc:TypeId ×Value→H}{P:Program}{f:Func}{s:ChangeSpec}{apart fresh handsOn again:Bool}{W W':World}{args:Array Value}{v:Value}{ds gs:List (DataW H)}{before pa pv:List MemPlace}
  (hW:DataW.Whole enc P f.params.toList s.vars apart W args.toList ds gs before)
  (hres:∀(b:Nat) (sp:Nat→Bool) (hd:Bool),DataW.TrodAll enc P W' b sp hd f.resultTypes.toList (v.resultList f.resultTypes.size) (s.fn H (ds++gs)).results [])
  (hargs:∀sp:Nat→Bool,(∀p∈before,sp p.block=true)→DataW.TrodAll enc P W' 0 sp true f.params.toList args.toList (s.fn H (ds++gs)).args pa)
  (hvars:∀sp:Nat→Bool,(∀p∈before,sp p.block=true)→DataW.TrodVars enc P W' sp s.vars (s.fn H (ds++gs)).vars pv)
  (hps:before=pa++pv) (hb:Below W.heap.size W W')
  (hok:∀(j:Nat) (t:TypeId) (r:Value),f.resultTypes[j]? =some t→(v.resultList f.resultTypes.size)[j]? =some r→Value.okWide P W' .any 0 t r):
  s.post enc P f apart fresh handsOn again W args v W':=by
 have lt:∀p∈before,p.block<W.heap.size:=hW.lt;have old:∀p∈before,(fun k=>decide (k<W.heap.size)) p.block=true:=fun p hp=>decide_eq_true (lt p hp)
 refine⟨ds,gs,before,[],pa,pv,hW,hres _ _ _,hargs _ old,hvars _ old,World.keptBut_mono (fun p hp=>⟨hp,.inr (by rw[hps]at hp;exact List.mem_append.1 hp)⟩) (hb.frame (· ∈before)),fun _=>?_⟩;obtain⟨_,_,_,_,_,fz,nd⟩:=hW;refine⟨hok,_,_,([]++pa)++pv,⟨[]++pa,pv,trodAll_append (hargs _ (fun _ _=>rfl)) (hres _ _ _),hvars _ (fun _ _=>rfl),rfl,fun b off hp=>?_,fun ha=>?_⟩,fun p hp _=>?_⟩
 ·have hin:MemPlace.cell b off∈before:=by rw[hps];exact hp
  have e:=fz b off hin;rw[←hb.frozen (lt _ hin)]at e;exact e
 ·have e:=nd ha
  rw[hps]at e;exact e
 ·rw[hps];exact hp
end Go.Proofs.YtfhbinbjkpfedaaGreatDoor
namespace Go.Proofs.YtfhbinbjkpfedaaGreatDoor
open Go.RowKit Go.Proofs.Tryz
set_option maxHeartbeats 20000000
set_option maxRecDepth 100000
open Go.Lib renaming hid→Za,decodeGo→Zc,decDigits→Zd,atoiAll→Ze,itoa→Zf,parseUint10→Zg,hasPrefix→Zi
open Go.Proofs.Tryz renaming prog→Zb
open List renaming takeWhile_cons→Zh
theorem Hn(u:Nat):∀c,c∈Zd u→Bc c=true:=by
 induction u using Nat.strongRecOn with
 |_ u ih=>
  intro c hc;have dig:∀d,d<10→Bc (UInt8.ofNat (48+d))=true:=by decide
  rw[Zd]at hc
  by_cases h:u<10
  ·rw[dif_pos h]at hc
   rw[List.mem_singleton.1 hc];exact dig u h
  ·rw[dif_neg h]at hc
   rcases List.mem_append.1 hc with hc|hc
   ·exact ih (u / 10) (by omega) c hc
   ·rw[List.mem_singleton.1 hc];exact dig _ (by omega)
theorem On(u:Nat):Zd u≠[]:=by
 rw[Zd];split
 ·exact List.cons_ne_nil _ _
 ·simp
theorem Rp(b:UInt8)(d:Nat)(hb:b.toNat=48+d)(hd:d<10):∀(l:List UInt8) (acc n:Nat),Zg acc l=.ok n→n*10+d<18446744073709551616→Zg acc (l++[b])=.ok (n*10+d)
 |[],acc,n,h,hn=>by
  simp only[Zg]at h
  cases h
  show Zg acc [b]=_
  simp only[Zg];rw[if_pos (by omega),if_neg (by omega),if_neg (by omega)];congr 2;omega
 |c::l,acc,n,h,hn=>by
  simp only[Zg,List.cons_append]at h ⊢;split at h
  ·rename_i h1
   rw[if_pos h1];split at h
   ·cases h
   ·rename_i h2
    rw[if_neg h2];split at h
    ·cases h
    ·rename_i h3
     rw[if_neg h3];exact Rp b d hb hd l _ n h hn
  ·cases h
theorem Yj(u:Nat)(hu:u<18446744073709551616):Zg 0 (Zd u)=.ok u:=by
 induction u using Nat.strongRecOn with
 |_ u ih=>
  have hb:∀d,d<10→(UInt8.ofNat (48+d)).toNat=48+d:=fun d hd=>by rw[UInt8.toNat_ofNat'];exact Nat.mod_eq_of_lt (by omega)
  rw[Zd]
  by_cases h:u<10
  ·rw[dif_pos h]
   have:=Rp (UInt8.ofNat (48+u)) u (hb u h) h [] 0 0 rfl (by omega);simpa using this
  ·rw[dif_neg h]
   have:=Rp (UInt8.ofNat (48+u % 10)) (u % 10) (hb _ (by omega)) (by omega) _ 0 _ (ih (u / 10) (by omega) (by omega)) (by omega);rw[this];congr 1;omega
theorem gC(u:Nat)(hn:Zd u≠[])(hm:∀c,c∈Zd u→48≤c.toNat∧c.toNat≤57)(hu:u≤9223372036854775807):Ze (Zd u)=.ok (u:Int):=by
 have hp:=Yj u (by omega);generalize Zd u=l at*
 cases l with
 |nil=>exact absurd rfl hn
 |cons c r=>
  have hc:=hm c List.mem_cons_self;unfold Ze;dsimp only;rw[if_neg (by omega)];unfold Lib.parseMag;rw[if_neg (by simp),hp];dsimp only;rw[if_neg (by omega),if_neg (by omega),if_neg (by omega)]
def Jj(r:Int):Bool:=decide (r=32∨r=9∨r=10∨r=13)
def Av(c:UInt8):Bool:=c==32||c==9||c==10||c==13
def Ga(c:UInt8):Bool:=Bg c||Bc c
theorem Na(p:UInt8→Bool)(l:Bs):l=l.takeWhile p++l.dropWhile p∧(∀c,c∈l.takeWhile p→p c=true)∧(l.dropWhile p=[]∨∃c r,l.dropWhile p=c::r∧p c=false):=by
 refine⟨(List.takeWhile_append_dropWhile).symm,fun c hc=>?_,?_⟩
 ·induction l with
  |nil=>cases hc
  |cons a l ih=>
   rw[Zh]at hc;split at hc
   ·rcases List.mem_cons.1 hc with rfl|hc
    ·assumption
    ·exact ih hc
   ·cases hc
 ·induction l with
  |nil=>exact .inl rfl
  |cons a l ih=>
   rw[List.dropWhile_cons]
   cases h:p a with
   |true=>rw[if_pos rfl];exact ih
   |false=>exact .inr ⟨a,l,rfl,h⟩
theorem Lk(p:UInt8→Bool)(a b:Bs)(ha:∀c,c∈a→p c=true)(hb:b=[]∨∃c r,b=c::r∧p c=false):(a++b).takeWhile p=a∧(a++b).dropWhile p=b:=by
 induction a with
 |nil=>
  rcases hb with rfl|⟨c,r,rfl,h⟩
  ·exact⟨rfl,rfl⟩
  ·exact⟨by rw[List.nil_append,Zh,h];rfl,by rw[List.nil_append,List.dropWhile_cons,h];rfl⟩
 |cons x a ih=>
  have hx:=ha x List.mem_cons_self;obtain⟨h1,h2⟩:=ih (fun c hc=>ha c (List.mem_cons_of_mem _ hc));rw[List.cons_append,Zh,List.dropWhile_cons,hx];exact⟨by rw[if_pos rfl,h1],by rw[if_pos rfl,h2]⟩
theorem eS(r:Int)(w:World):Calls Zb 98 #[.int .i32 r] w fun e w'=>e=.returned (.bool (Jj r))∧w=w':=by
 go_enter func98,ntmps98
 go_wp2
 all_goals go_ret
 all_goals(refine⟨Ak ?_,rfl⟩;rw[Bool.eq_iff_iff];simp [Jj];try omega)
theorem fM(r:Int)(w:World):Calls Zb 129 #[.int .i32 r] w fun e w'=>e=.returned (.bool (Em r||Fn r))∧w=w':=by
 cases hl:Em r
 ·go_enter func129,ntmps129
  go_wp2_with fail
  refine(Gs _ _).mono ?_;rw[hl];rintro e w1 ⟨rfl,rfl⟩;go_wp2_with fail
  refine(Jp _ _).mono ?_;rintro e w1 ⟨rfl,rfl⟩;go_wp2_with fail
  go_ret
  exact⟨rfl,rfl⟩
 ·go_enter func129,ntmps129
  go_wp2_with fail
  refine(Gs _ _).mono ?_;rw[hl];rintro e w1 ⟨rfl,rfl⟩;go_wp2_with fail
  go_ret
  exact⟨rfl,rfl⟩
def Qm(pr:Int→Bool)(pb:UInt8→Bool):Prop:= ∀(l:Bs) (k:Nat) (h:k<l.length),∃r d,Utf8.decode (Aa l) k=(r,d)∧pr r=pb l[k]∧(pr r=true→d=1)∧r≤2147483647
theorem on_word:Qm (fun r=>Em r||Fn r) Ga:=fun l k h=>by
 obtain⟨r,d,h1,h2,h3,h4,h5,h6⟩:=decode_at l k h;refine⟨r,d,h1,(by show(Em r||Fn r)=(Bg l[k]||Bc l[k]);rw[h3,h4]),fun hp=>?_,h6⟩;rcases(Bool.or_eq_true _ _).mp hp with h|h
 ·exact(h5 (Pp h)).2
 ·exact(h5 (Mn h)).2
theorem jH:Qm Fn Bc:=fun l k h=>by
 obtain⟨r,d,h1,h2,h3,h4,h5,h6⟩:=decode_at l k h;exact⟨r,d,h1,h4,fun hp=>(h5 (Mn hp)).2,h6⟩
theorem Pa(c:UInt8):Jj (c.toNat:Nat)=Av c:=by
 rw[Bool.eq_iff_iff];simp [Jj,Av,←UInt8.toNat_inj];omega
theorem kH:Qm Jj Av:=fun l k h=>by
 obtain⟨r,d,h1,h2,h3,h4,h5,h6⟩:=decode_at l k h;have low:∀r:Nat,Jj r=true→r<128:=fun r h=>by simp [Jj]at h;omega
 refine⟨r,d,h1,?_,fun hp=>(h5 (low r hp)).2,h6⟩
 by_cases hr:r<128
 ·rw[(h5 hr).1];exact Pa _
 ·have h7:Jj r=false:=by cases hq:Jj (r:Nat)with|false=>rfl|true=>exact absurd (low r hq) hr
  rw[h7];have hs:k<(Aa l).size:=h;have he:(Aa l)[k]'hs=l[k]:=rfl
  cases hq:Av l[k]with
  |false=>rfl
  |true=>
   rw[←Pa]at hq;have:=low _ hq;rw[decode_ascii (Aa l) k hs (by rw[he];exact this)]at h1
   cases h1
   exact absurd (by rw[he];exact this) hr
theorem Va(F:Nat)(pr:Int→Bool)(pb:UInt8→Bool)(hF:∀(r:Int) (w:World),Calls Zb F #[.int .i32 r] w fun e w'=>e=.returned (.bool (pr r))∧w=w')(hp:Qm pr pb)(hE:∀(args:Array Value) (w:World),Sem.run Zb (callFunc F args) w=.ok (.enter F args) w)(l:Bs)(w:World):
  Calls Zb 97 #[.string (Aa l),.func (.func F) #[] #[]] w fun e w'=>e=.returned (.int .i64 (l.takeWhile pb).length)∧Below w.heap.size w w':=by
 have HF:=Za hF;have HP:=Za hp;have HE:=Za hE;obtain⟨hs,ha,hb⟩:=Na pb l;obtain⟨a,hae⟩:∃a,l.takeWhile pb=a:=⟨_,rfl⟩;obtain⟨b,hbe⟩:∃b,l.dropWhile pb=b:=⟨_,rfl⟩;rw[hae]at hs ha ⊢;rw[hbe]at hs hb;have HL:=Za hs;have HA:=Za ha;have HB:=Za hb;have hlen:l.length=a.length+b.length:=by rw[hs,List.length_append]
 have hle:a.length≤l.length:=by omega
 clear hF hp hE hs ha hb hae hbe;have HLEN:=Za hlen;clear hlen;go_enter func97,ntmps97
 go_wp2_with fail
 go_loopw [5,6] (fun _ _ wr=> ∃k:Nat,k≤a.length∧wr=w.iter (Aa l) k) (fun _ _ wr=>a.length+1-wr.iterPos w.heap.size)
 case atStart=>exact⟨0,Nat.zero_le _,rfl⟩
 case round=>
  obtain⟨k,hk,rfl⟩:=hrel
  by_cases hlt:k<l.length
  ·have hnx:=fun ty=>run_next_any (P:=Zb) w (Aa l) k ty hlt
   obtain⟨r,d,hd,h1,h2,h3⟩:=HP.o l k hlt;rw[hd]at hnx
   by_cases hka:k<a.length
   ·have hc:l[k]=a[k]:=by have:=HL.o;subst this;exact List.getElem_append_left hka
    have hq:pr r=true:=by rw[h1,hc];exact HA.o _ (List.getElem_mem hka)
    obtain rfl:=h2 hq;have HQ:=Za hq;clear hc hq h1 h2 hd;go_wp2_with fail
    rw[HE.o,Oper.upon_enter];refine(HF.o _ _).mono ?_;rw[HQ.o];rintro e w1 ⟨rfl,rfl⟩;go_wp2_with fail
    go_roundw
    case rel=>exact⟨k+1,hka,rfl⟩
    case measure=>simp;omega
   ·have hke:k=a.length:=by omega
    subst hke;have hbn:b≠[]:=by intro e;have:=HLEN.o;rw[e]at this;simp at this;omega
    obtain⟨c,q,hb,hc2⟩:=HB.o.resolve_left hbn;have hc:l[a.length]=c:=by have:=HL.o;subst this;subst hb;simp
    have hq:pr r=false:=by rw[h1,hc];exact hc2
    have HQ:=Za hq;clear hc hc2 hb h1 h2 hd hq;go_wp2_with fail
    rw[HE.o,Oper.upon_enter];refine(HF.o _ _).mono ?_;rw[HQ.o];rintro e w1 ⟨rfl,rfl⟩;go_wp2_with fail
    go_ret
    exact⟨rfl,bA⟩
  ·have hnx:=fun ty=>run_next_end (P:=Zb) w (Aa l) k ty hlt
   have hz:l.length=a.length:=by omega
   go_wp2_with fail
   go_ret
   exact⟨Ii (by omega),bA⟩
theorem cR(l:Bs)(w:World):Calls Zb 97 #[.string (Aa l),.func (.func 98) #[] #[]] w fun e w'=>e=.returned (.int .i64 (l.takeWhile Av).length)∧Below w.heap.size w w':=Va _ _ _ eS kH (fun _ _=>rfl) l w
theorem iG(l:Bs)(w:World):Calls Zb 97 #[.string (Aa l),.func (.func 129) #[] #[]] w fun e w'=>e=.returned (.int .i64 (l.takeWhile Ga).length)∧Below w.heap.size w w':=Va _ _ _ fM on_word (fun _ _=>rfl) l w
theorem dZ(l:Bs)(w:World):Calls Zb 97 #[.string (Aa l),.func (.func 104) #[] #[]] w fun e w'=>e=.returned (.int .i64 (l.takeWhile Bc).length)∧Below w.heap.size w w':=Va _ _ _ Jp jH (fun _ _=>rfl) l w
structure Tk where
 kind:Int
 text:Bs
 num:Int
 line:Int
def Ha(t:Tk):List Value:=[.int .i64 t.kind,.string (Aa t.text),.int .i64 t.num,.int .i64 t.line]
theorem infoTk:(Tryz.prog.info? 53).map (fun i=>(i.zero,i.size,i.bytes))=some (some (.agg #[.int .i64 0,.string ⟨#[]⟩,.int .i64 0,.int .i64 0]),4,40):=by kernel_rfl
def Gg(w:World)(base:Nat)(l:List Tk)(v:Value):Prop:=w.ownsRow base 53 4 v l.length (l.flatMap Ha)
theorem Gg.zero(w:World)(base:Nat):Gg w base [] (.slice none 0 0):=⟨rfl,.inl ⟨rfl,rfl⟩⟩
theorem Gg.ge {w:World}{base:Nat}{l:List Tk}{v:Value}(h:Gg w base l v){k:Nat}(hk:v.ownBlock=some k):base≤k∧k<w.heap.size:=World.ownsRow.lt h k hk
theorem Gg.snoc {w':World}{base:Nat}{l:List Tk}(a:Tk){g cap:Nat}(hown:w'.ownsRow base 53 4 (.slice (some ⟨g,0,none⟩) (l.length+1) cap) (l.length+1) (l.flatMap Ha++Ha a)):
  Gg w' base (l++[a]) (.slice (some ⟨g,0,none⟩) (l.length+1) cap):=by
 unfold Gg;simpa using hown
theorem Pd(a:Tk):∀u,u∈Ha a→u.oneCell'=true:=by
 intro u hu;simp only[Ha,List.mem_cons,List.not_mem_nil,or_false]at hu;rcases hu with rfl|rfl|rfl|rfl<;>rfl
def Sa:List Bs:=[[61,61],[33,61],[60,61],[62,61],[60,60],[62,62],[40],[41],[123],[125],[91],[93],[44],[59],[61],[124],[94],[38],[43],[45],[42],[47],[37],[33],[126],[60],[62]]
def Eb(l:Bs):Bool:=Sa.contains l
theorem Gq {t:Bs}(h:Eb t=true):t=[61,61]∨t=[33,61]∨t=[60,61]∨t=[62,61]∨t=[60,60]∨t=[62,62]∨t=[40]∨t=[41]∨t=[123]∨t=[125]∨t=[91]∨t=[93]∨t=[44]∨t=[59]∨t=[61]∨t=[124]∨t=[94]∨t=[38]∨t=[43]∨t=[45]∨t=[42]∨t=[47]∨t=[37]∨t=[33]∨t=[126]∨t=[60]∨t=[62]:=by
 simpa [Eb,Sa]using h
def Az(l:Bs):Nat:=l.count 10
abbrev T4:=Int ×Bs ×Int
def Lh(s:Bs):Option T4:=if Ge (s.takeWhile Ga)=true then some (2,s.takeWhile Ga,0)else if Ah (s.takeWhile Ga)=true then some (1,s.takeWhile Ga,0)else none
def Ur(s:Bs):Option T4:=match Ze (s.takeWhile Bc)with
 |.ok n=>if Zf n=s.takeWhile Bc then some (3,s.takeWhile Bc,n)else none
 |_=>none
def Wr(r:Nat):Bool:=decide (r<32∨r=39∨r=92∨r=65533)
def Uv(s:Bs):Option T4:=if Wr (Zc (Aa (s.drop 1))).1=true then none else if Zi (s.drop (1+(Zc (Aa (s.drop 1))).2)) [39]=true then some (3,s.take ((Zc (Aa (s.drop 1))).2+2),((Zc (Aa (s.drop 1))).1:Int))else none
def Kj(s:Bs):Option T4:=if Eb (s.take 2)=true then some (4,s.take 2,0)else if Eb (s.take 1)=true then some (4,s.take 1,0)else none
def Ko(s:Bs):Option T4:=match s with
 |[]=>none
 |c::_=>if Bg c=true then Lh s else if Bc c=true then Ur s else if c=39 then Uv s else Kj s
def Fe(s:Bs):Bs:=(Lib.cut s [10]).1
def Qx(s:Bs):Bool:=Lib.validD (Fe s) && !Lib.contains (Fe s) [239,191,189]
def Ee:Nat→Bs→Bs ×Nat ×Bool
 |0,s=>(s,0,true)
 |f+1,s=>if Zi (s.dropWhile Av) [47,47]=true then
   (if Qx (s.dropWhile Av)=true then((Ee f ((s.dropWhile Av).drop (Fe (s.dropWhile Av)).length)).1,Az (s.takeWhile Av)+(Ee f ((s.dropWhile Av).drop (Fe (s.dropWhile Av)).length)).2.1,(Ee f ((s.dropWhile Av).drop (Fe (s.dropWhile Av)).length)).2.2)
   else(s.dropWhile Av,Az (s.takeWhile Av),false))
  else(s.dropWhile Av,Az (s.takeWhile Av),true)
def Mb:Nat→Bs→Nat→Except Nat (List Tk)
 |0,_,line=>.error line
 |f+1,s,line=>
  if(Ee (s.length+1) s).2.2=true then
   (if(Ee (s.length+1) s).1=[]then .ok [⟨5,[],0,((line+(Ee (s.length+1) s).2.1:Nat):Int)⟩]
   else match Ko (Ee (s.length+1) s).1 with
    |none=>.error (line+(Ee (s.length+1) s).2.1)
    |some (k,x,n)=>match Mb f ((Ee (s.length+1) s).1.drop x.length) (line+(Ee (s.length+1) s).2.1)with
     |.error e=>.error e
     |.ok l=>.ok (⟨k,x,n,((line+(Ee (s.length+1) s).2.1:Nat):Int)⟩::l))
  else .error (line+(Ee (s.length+1) s).2.1)
theorem Wb(n b0 b1 b2 b3:Nat)(h:1≤n):(Lib.decodeN n b0 b1 b2 b3).2≤n∧(Lib.decodeN n b0 b1 b2 b3).2≤4:=by
 unfold Lib.decodeN
 repeat' split
 all_goals(simp only;omega)
theorem Wv(s:Bs):(Zc (Aa s)).2≤s.length∧(Zc (Aa s)).2≤4:=by
 have hs:(Aa s).size=s.length:=by show s.toArray.size=_;simp
 unfold Zc;split
 ·simp
 ·rw[Lib.decode_at]
  have:=Wb ((Aa s).size-0) ((Aa s).get! 0).toNat ((Aa s).get! (0+1)).toNat ((Aa s).get! (0+2)).toNat ((Aa s).get! (0+3)).toNat (by omega);rw[←hs];omega
theorem Pb(s:Bs):(Zc (Aa s)).1≤2147483647:=by
 unfold Zc;split
 ·decide
 ·exact decode_le _ _
theorem We {l:Bs}{n:Int}(h:Ze l=.ok n):I64 n:=by
 unfold Ze at h
 cases l with
 |nil=>cases h
 |cons c r=>
  dsimp only at h;split at h
  ·cases h
  ·cases h
  ·rename_i u hu
   split at h
   ·cases h
   ·split at h
    ·cases h
    ·rename_i h1 h2
     cases h
     show _∧_
     split
     ·rename_i h3;have:¬9223372036854775808<u:=fun h4=>h2 ⟨h3,h4⟩;constructor<;>omega
     ·rename_i h3;have:¬9223372036854775808≤u:=fun h4=>h1 ⟨h3,h4⟩;constructor<;>omega
theorem Mo(p:UInt8→Bool)(s:Bs):s.drop (s.takeWhile p).length=s.dropWhile p:=by
 have h:=(Na p s).1;obtain⟨a,ha⟩:∃a,s.takeWhile p=a:=⟨_,rfl⟩;obtain⟨b,hb⟩:∃b,s.dropWhile p=b:=⟨_,rfl⟩;rw[ha,hb]at h ⊢;rw[h];exact List.drop_left
theorem Iq(p:UInt8→Bool)(s:Bs):s=s.takeWhile p++s.drop (s.takeWhile p).length:=by
 rw[Mo];exact(Na p s).1
theorem tokF_ok {s:Bs}{k:Int}{x:Bs}{n:Int}(h:Ko s=some (k,x,n)):x≠[]∧s=x++s.drop x.length∧I64 n∧(1≤k∧k≤4):=by
 have z:I64 0:=⟨by decide,by decide⟩;have tk:∀m,s≠[]→s.take (m+1)≠[]∧s=s.take (m+1)++s.drop (s.take (m+1)).length:=by
  intro m hs;constructor
  ·cases s with
   |nil=>exact absurd rfl hs
   |cons c t=>simp
  ·rw[List.length_take]
   rcases Nat.le_total (m+1) s.length with h|h
   ·rw[Nat.min_eq_left h,List.take_append_drop]
   ·rw[Nat.min_eq_right h,List.drop_length,List.append_nil,List.take_of_length_le h]
 cases s with
 |nil=>cases h
 |cons c t=>
  have hs:c::t≠[]:=by simp
  unfold Ko at h;dsimp only at h;split at h
  ·rename_i hc
   have hw:(c::t).takeWhile Ga≠[]:=by rw[Zh,show Ga c=true by unfold Ga;rw[hc];rfl];simp
   unfold Lh at h;split at h
   ·cases h;exact⟨hw,Iq _ _,z,by decide,by decide⟩
   ·split at h
    ·cases h;exact⟨hw,Iq _ _,z,by decide,by decide⟩
    ·cases h
  ·split at h
   ·rename_i hd
    have hw:(c::t).takeWhile Bc≠[]:=by rw[Zh,hd];simp
    unfold Ur at h;split at h
    ·rename_i m hm
     split at h
     ·cases h;exact⟨hw,Iq _ _,We hm,by decide,by decide⟩
     ·cases h
    ·cases h
   ·split at h
    ·unfold Uv at h
     split at h
     ·cases h
     ·split at h
      ·cases h
       have hr:=Pb ((c::t).drop 1);exact⟨(tk _ hs).1,(tk _ hs).2,⟨by omega,by omega⟩,by decide,by decide⟩
      ·cases h
    ·unfold Kj at h
     split at h
     ·cases h;exact⟨(tk 1 hs).1,(tk 1 hs).2,z,by decide,by decide⟩
     ·split at h
      ·cases h;exact⟨(tk 0 hs).1,(tk 0 hs).2,z,by decide,by decide⟩
      ·cases h
def cY(w:World):Prop:=Lib.TabIs Zb w "internal/strconv.uint64pow10" .u64 Lib.pow10Tab
theorem cY.keep {w w':World}(h:cY w)(hb:w'.heap[3]? =w.heap[3]?):cY w':=by
 have hg:Tryz.prog.globalNamed "internal/strconv.uint64pow10" =some 3:=by kernel_rfl
 unfold cY Lib.TabIs World.var? at*;simp only[hg,Option.bind_eq_bind,Option.bind_some]at*;rw[hb];exact h
structure Kn (w:World):Prop where
 pow:cY w
 max:∃m,w.cell? ⟨0,0,none⟩=some (.int .i64 m)
 utf:Lib.Utf8Tabs 1 2 w
 syn:∃te pe,w.cell? ⟨4,0,none⟩=some (.iface te pe)
 ran:∃te pe,w.cell? ⟨5,0,none⟩=some (.iface te pe)
theorem Kn.lt {w:World}(h:Kn w):3<w.heap.size:=by
 have gTab:Tryz.prog.globalNamed "internal/strconv.uint64pow10" =some 3:=by kernel_rfl
 exact World.block_lt_of_cell? _ _ (Lib.TabIs.cell h.pow gTab 0 (by decide))
theorem Kn.old {w w':World}(h:Kn w)(hb:Below w.heap.size w w'):Kn w':=
 ⟨h.pow.keep (hb.block _ h.lt),by obtain⟨m,hm⟩:=h.max;exact⟨m,Ac hb hm⟩,Utf8Tabs_below h.utf hb,by obtain⟨m,p,hm⟩:=h.syn;exact⟨m,p,Ac hb hm⟩,by obtain⟨m,p,hm⟩:=h.ran;exact⟨m,p,Ac hb hm⟩⟩
theorem dV(n:Int)(h0: -9223372036854775808≤n)(h1:n≤9223372036854775807)(w:World)(ht:cY w):
  Calls Zb 31 #[.int .i64 n] w fun e w'=>e=.returned (.string (Aa (Zf n)))∧Below w.heap.size w w':=by
 refine(Tryz.strconv_Itoa n h0 h1 w ht).mono ?_;rintro e w' ⟨rfl,k,os,rfl⟩;exact⟨rfl,rfl,rfl,rfl,by simp,fun i hi=>by simp [Sort.grow,World.drewN,Array.getElem?_append_left hi]⟩
theorem dY(t:Bs)(hz:t.length≤1000000)(w:World)(hl:Kn w):
  Calls Zb 130 #[.string (Aa t)] w fun e w'=>(match Ze t with|.ok n=>e=.returned (.tuple #[.int .i64 n,.nilIface])|_=> ∃n T p,e=.returned (.tuple #[.int .i64 n,.iface T p]))∧Below w.heap.size w w':=by
 have hs:(Aa t).size=t.length:=by show t.toArray.size=_;simp
 cases ha:Ze t
 ·rename_i v
  refine(Tryz.strconv_Atoi_ok (Aa t) (by omega) v ha w).mono ?_;rintro e w' ⟨rfl,hw⟩;refine⟨rfl,?_⟩;rcases hw with rfl|⟨u,rfl⟩
  ·exact Below.refl _ _
  ·exact Joins.below_bytesWorld _ w 5 u (Nat.le_refl _)
 ·obtain⟨te,pe,hv⟩:=hl.syn
  refine(Any.strconv_Atoi_syntax Tryz.laysC172 (Aa t) (by omega) ha _ w hv (.inr ⟨te,pe,rfl⟩)).mono ?_;rintro e w' ⟨N,rfl,_,_,hb⟩;exact⟨⟨_,_,_,rfl⟩,hb⟩
 ·obtain⟨te,pe,hv⟩:=hl.ran
  refine(Any.strconv_Atoi_range Tryz.laysC172 (Aa t) (by omega) ha _ w hv (.inr ⟨te,pe,rfl⟩)).mono ?_;rintro e w' ⟨N,rfl,_,_,hb⟩;exact⟨⟨_,_,_,rfl⟩,hb⟩
def Hz(kind:Int)(text:Bs)(n line:Int):Value:=.agg #[.int .i64 kind,.string (Aa text),.int .i64 n,.int .i64 line]
theorem Qa(w0 w:World)(h:Below w0.heap.size w0 w)(v0 v1 v2 v3:Value):Below w0.heap.size w0 ((((w.setCell ⟨w0.heap.size,0,none⟩ v0).setCell ⟨w0.heap.size,1,none⟩ v1).setCell ⟨w0.heap.size,2,none⟩ v2).setCell ⟨w0.heap.size,3,none⟩ v3):=
 have st:∀(v:World) (i:Nat) (x:Value),Below w0.heap.size v (v.setCell ⟨w0.heap.size,i,none⟩ x):=fun v i x=>(Below.refl _ _).setCell (p:=⟨w0.heap.size,i,none⟩) (Nat.le_refl _) x
 (((h.trans (st _ _ _)).trans (st _ _ _)).trans (st _ _ _)).trans (st _ _ _)
theorem Nj(s:Bs)(n:Nat):(Aa s).extract 0 n=Aa (s.take n):=by
 apply ByteArray.ext
 rw[ByteArray.data_extract];simp [Aa]
theorem Nb(s:Bs)(m n:Nat)(hn:n=s.length):(Aa s).extract m n=Aa (s.drop m):=by
 subst hn;apply ByteArray.ext
 rw[ByteArray.data_extract];simp [Aa,List.take_of_length_le]
def Qq(o:Option T4)(w:World)(e:Ending)(w':World):Prop:=(∃k x n ok,e=.returned (.tuple #[Hz k x n 0,.bool ok])∧o=if ok=true then some (k,x,n)else none)∧Below w.heap.size w w'
theorem Mj(p:UInt8→Bool)(s:Bs):s.take (s.takeWhile p).length=s.takeWhile p:=by
 have h:=Iq p s;obtain⟨a,ha⟩:∃a,s.takeWhile p=a:=⟨_,rfl⟩;rw[ha]at h ⊢;rw[h];exact List.take_left
theorem Rj(p:UInt8→Bool)(s:Bs):(s.takeWhile p).length≤s.length:=by
 have:=congrArg List.length (Iq p s);rw[List.length_append]at this;omega
theorem gY(s:Bs)(w:World):Calls Zb 103 #[.string (Aa s)] w (Qq (Lh s) w):=by
 have HR:=Za (fun w1=>iG s w1);have HX:=Za ((Nj s (s.takeWhile Ga).length).trans (congrArg Aa (Mj Ga s)));have hle:(s.takeWhile Ga).length≤s.length:=Rj _ _;have hF:Hid (∀ok1 ok2,Ge (s.takeWhile Ga)=ok1→Ah (s.takeWhile Ga)=ok2→Lh s=if ok1=true then some (2,s.takeWhile Ga,0)else if ok2=true then some (1,s.takeWhile Ga,0)else none):=Za (by rintro _ _ rfl rfl;rfl);obtain⟨a,ha⟩:∃a,s.takeWhile Ga=a:=⟨_,rfl⟩;rw[ha]at HR HX hF hle;have hl1:(a.length:Int)≤(s.length:Int):=by omega
 obtain⟨o,ho⟩:∃o,Lh s=o:=⟨_,rfl⟩;rw[ho]at hF ⊢;have HO:=Za (Ag.new w [.int .i64 0,.string ⟨#[]⟩,.int .i64 0,.int .i64 0] 53);have HB0:=Za ((Below.refl w.heap.size w).alloc (Nat.le_refl _) (.cells #[.int .i64 0,.string ⟨#[]⟩,.int .i64 0,.int .i64 0] 53));clear ha ho;go_enter func103,ntmps103
 go_wp2_with fail
 refine(HR.o _).mono ?_;rintro e w1 ⟨rfl,hb1⟩;have HO1:=Za (HO.o.old hb1);have HB1:=Za (HB0.o.trans (hb1.mono HB0.o.size));clear hb1;go_wp2_with fail
 rw[HX.o];refine(Rx a _).mono ?_
 cases hw:Ge a
 ·rintro e w2 ⟨rfl,hw2⟩
  obtain rfl:w1=w2:=hw2;have HW:=Za hw;clear hw;go_wp2_with fail
  refine(Ir a _).mono ?_;rintro e w2 ⟨rfl,hb2⟩;have HO2:=Za (HO1.o.old hb2);have HB2:=Za (HB1.o.trans (hb2.mono HB1.o.size));have hG:=hF.out _ (Ah a) HW.o rfl;have HG:=Za hG;clear hb2 hG;generalize Ah a=ok at*;have q0:=HO2.o.at 0 _ rfl;have q1:=HO2.o.at 1 _ rfl;have q2:=HO2.o.at 2 _ rfl;have q3:=HO2.o.at 3 _ rfl;have f0:=HO2.o.fz 0;have f1:=HO2.o.fz 1;have f2:=HO2.o.fz 2;have f3:=HO2.o.fz 3;have ql:=HO2.o.lt;go_wp2_with fail
  have HS:=Za ((((HO2.o.set 0 (.int .i64 1)).set 1 (.string (Aa a))).set 2 (.int .i64 0)).set 3 (.int .i64 0));have e0:=HS.o.at 0 _ rfl;have e1:=HS.o.at 1 _ rfl;have e2:=HS.o.at 2 _ rfl;have e3:=HS.o.at 3 _ rfl;exact bodyPost_ret (v:=.tuple #[Hz 1 a 0 0,.bool ok]) (by simp [results,results103,go_sem,Hz,e0,e1,e2,e3]) rfl ⟨⟨_,_,_,_,rfl,by rw[HG.o];rfl⟩,Qa w _ HB2.o _ _ _ _⟩
 ·rintro e w2 ⟨rfl,hw2⟩
  obtain rfl:w1=w2:=hw2;have HG:=Za (hF.out _ (Ah a) hw rfl);clear hw;have q0:=HO1.o.at 0 _ rfl;have q1:=HO1.o.at 1 _ rfl;have q2:=HO1.o.at 2 _ rfl;have q3:=HO1.o.at 3 _ rfl;have f0:=HO1.o.fz 0;have f1:=HO1.o.fz 1;have f2:=HO1.o.fz 2;have f3:=HO1.o.fz 3;have ql:=HO1.o.lt;go_wp2_with fail
  have HS:=Za ((((HO1.o.set 0 (.int .i64 2)).set 1 (.string (Aa a))).set 2 (.int .i64 0)).set 3 (.int .i64 0));have e0:=HS.o.at 0 _ rfl;have e1:=HS.o.at 1 _ rfl;have e2:=HS.o.at 2 _ rfl;have e3:=HS.o.at 3 _ rfl;exact bodyPost_ret (v:=.tuple #[Hz 2 a 0 0,.bool true]) (by simp [results,results103,go_sem,Hz,e0,e1,e2,e3]) rfl ⟨⟨_,_,_,_,rfl,HG.o⟩,Qa w _ HB1.o _ _ _ _⟩
theorem Yb(s:Bs)(hz:s.length≤1000000)(w:World)(hl:Kn w):Calls Zb 105 #[.string (Aa s)] w (Qq (Ur s) w):=by
 have HR:=Za (fun w1=>dZ s w1);have HL:=Za hl;have HX:=Za ((Nj s (s.takeWhile Bc).length).trans (congrArg Aa (Mj Bc s)));have hle:(s.takeWhile Bc).length≤s.length:=Rj _ _;have hF:Hid (Ur s=match Ze (s.takeWhile Bc)with|.ok n=>if Zf n=s.takeWhile Bc then some (3,s.takeWhile Bc,n)else none|_=>none):=rfl;obtain⟨a,ha⟩:∃a,s.takeWhile Bc=a:=⟨_,rfl⟩;rw[ha]at HR HX hF hle;have hl1:(a.length:Int)≤(s.length:Int):=by omega
 have HZ:=Za (show a.length≤1000000 by omega);obtain⟨o,ho⟩:∃o,Ur s=o:=⟨_,rfl⟩;rw[ho]at hF ⊢;have HO:=Za (Ag.new w [.int .i64 0,.string ⟨#[]⟩,.int .i64 0,.int .i64 0] 53);have HB0:=Za ((Below.refl w.heap.size w).alloc (Nat.le_refl _) (.cells #[.int .i64 0,.string ⟨#[]⟩,.int .i64 0,.int .i64 0] 53));clear ha ho hl hz;go_enter func105,ntmps105
 go_wp2_with fail
 refine(HR.o _).mono ?_;rintro e w1 ⟨rfl,hb1⟩;have HO1:=Za (HO.o.old hb1);have HB1:=Za (HB0.o.trans (hb1.mono HB0.o.size));clear hb1;go_wp2_with fail
 rw[HX.o];refine(dY a HZ.o w1 (HL.o.old HB1.o)).mono ?_;rintro e w2 ⟨he,hb2⟩;have HO2:=Za (HO1.o.old hb2);have HB2:=Za (HB1.o.trans (hb2.mono HB1.o.size));clear hb2
 cases hat:Ze a
 ·rename_i n
  rw[hat]at he hF;dsimp only at he hF;subst he;obtain⟨n1,n2⟩:=We hat;have HF:=Za hF;clear hF hat;go_wp2_with fail
  refine(dV n n1 n2 w2 (HL.o.old HB2.o).pow).mono ?_;rintro e w3 ⟨rfl,hb3⟩;have HO3:=Za (HO2.o.old hb3);have HB3:=Za (HB2.o.trans (hb3.mono HB2.o.size));clear hb3
  cases hq:(Zf n==a)
  ·have HE:=Za (show ¬Zf n=a by intro h;rw[h]at hq;simp at hq)
   generalize Zf n=u at*;have q0:=HO3.o.at 0 _ rfl;have q1:=HO3.o.at 1 _ rfl;have q2:=HO3.o.at 2 _ rfl;have q3:=HO3.o.at 3 _ rfl;have f0:=HO3.o.fz 0;have f1:=HO3.o.fz 1;have f2:=HO3.o.fz 2;have f3:=HO3.o.fz 3;have ql:=HO3.o.lt;go_wp2_with fail
   have HS:=Za ((((HO3.o.set 0 (.int .i64 3)).set 1 (.string (Aa a))).set 2 (.int .i64 n)).set 3 (.int .i64 0));have e0:=HS.o.at 0 _ rfl;have e1:=HS.o.at 1 _ rfl;have e2:=HS.o.at 2 _ rfl;have e3:=HS.o.at 3 _ rfl;exact bodyPost_ret (v:=.tuple #[Hz 3 a n 0,.bool false]) (by simp [results,results105,go_sem,Hz,e0,e1,e2,e3]) rfl ⟨⟨_,_,_,_,rfl,by rw[HF.o,if_neg HE.o];rfl⟩,Qa w _ HB3.o _ _ _ _⟩
  ·have HE:=Za (show Zf n=a by simpa using hq)
   generalize Zf n=u at*;have q0:=HO3.o.at 0 _ rfl;have q1:=HO3.o.at 1 _ rfl;have q2:=HO3.o.at 2 _ rfl;have q3:=HO3.o.at 3 _ rfl;have f0:=HO3.o.fz 0;have f1:=HO3.o.fz 1;have f2:=HO3.o.fz 2;have f3:=HO3.o.fz 3;have ql:=HO3.o.lt;go_wp2_with fail
   have HS:=Za ((((HO3.o.set 0 (.int .i64 3)).set 1 (.string (Aa a))).set 2 (.int .i64 n)).set 3 (.int .i64 0));have e0:=HS.o.at 0 _ rfl;have e1:=HS.o.at 1 _ rfl;have e2:=HS.o.at 2 _ rfl;have e3:=HS.o.at 3 _ rfl;exact bodyPost_ret (v:=.tuple #[Hz 3 a n 0,.bool true]) (by simp [results,results105,go_sem,Hz,e0,e1,e2,e3]) rfl ⟨⟨_,_,_,_,rfl,by rw[HF.o,if_pos HE.o];rfl⟩,Qa w _ HB3.o _ _ _ _⟩
 all_goals
  rw[hat]at he hF;obtain⟨n,T,p,rfl⟩:=he;have HF:=Za hF;clear hF hat;have q0:=HO2.o.at 0 _ rfl;have q1:=HO2.o.at 1 _ rfl;have q2:=HO2.o.at 2 _ rfl;have q3:=HO2.o.at 3 _ rfl;have f0:=HO2.o.fz 0;have f1:=HO2.o.fz 1;have f2:=HO2.o.fz 2;have f3:=HO2.o.fz 3;have ql:=HO2.o.lt;go_wp2_with fail
  have HS:=Za ((((HO2.o.set 0 (.int .i64 3)).set 1 (.string (Aa a))).set 2 (.int .i64 n)).set 3 (.int .i64 0));have e0:=HS.o.at 0 _ rfl;have e1:=HS.o.at 1 _ rfl;have e2:=HS.o.at 2 _ rfl;have e3:=HS.o.at 3 _ rfl;exact bodyPost_ret (v:=.tuple #[Hz 3 a n 0,.bool false]) (by simp [results,results105,go_sem,Hz,e0,e1,e2,e3]) rfl ⟨⟨_,_,_,_,rfl,HF.o⟩,Qa w _ HB2.o _ _ _ _⟩
theorem Xy(s:Bs)(h0:s≠[])(hz:s.length≤1000000)(w:World)(hl:Kn w):Calls Zb 106 #[.string (Aa s)] w (Qq (Uv s) w):=by
 have h1:1≤s.length:=List.length_pos_iff.2 h0;have HX1:=Za (Nb s 1);obtain⟨d1,d2⟩:=Wv (s.drop 1);have d3:=Pb (s.drop 1);rw[List.length_drop]at d1;have hF:Hid (Uv s=if Wr (Zc (Aa (s.drop 1))).1=true then none else if Zi (s.drop (1+(Zc (Aa (s.drop 1))).2)) [39]=true then some (3,s.take ((Zc (Aa (s.drop 1))).2+2),((Zc (Aa (s.drop 1))).1:Int))else none):=rfl;obtain⟨r,hr⟩:∃r,(Zc (Aa (s.drop 1))).1=r:=⟨_,rfl⟩;obtain⟨d,hd⟩:∃d,(Zc (Aa (s.drop 1))).2=d:=⟨_,rfl⟩;have hde:Zc (Aa (s.drop 1))=(r,d):=by rw[←hr,←hd]
 rw[hr]at hF d3;rw[hd]at hF d1 d2;have HDE:=Za hde;have HL:=Za hl;have HX2:=Za (Nb s (1+d));have HX3:=Za (Nj s (d+2));obtain⟨o,ho⟩:∃o,Uv s=o:=⟨_,rfl⟩;rw[ho]at hF ⊢;have HO:=Za (Ag.new w [.int .i64 0,.string ⟨#[]⟩,.int .i64 0,.int .i64 0] 53);have HB0:=Za ((Below.refl w.heap.size w).alloc (Nat.le_refl _) (.cells #[.int .i64 0,.string ⟨#[]⟩,.int .i64 0,.int .i64 0] 53));have l4:(1:Int)≤(s.length:Int):=by omega
 have rI:(r:Int)≤2147483647:=by omega
 have rJ:(0:Int)≤(r:Int):=by omega
 have dI:(d:Int)≤4:=by omega
 have dJ:(0:Int)≤(d:Int):=by omega
 have dK:1+(d:Int)≤(s.length:Int):=by omega
 have dL:1+d≤s.length:=by omega
 have HZ:=Za hz;clear hr hd hde ho hl h0 d1 d2 d3 hz;go_enter func106,ntmps106
 go_wp2_with fail
 rw[HX1.o _ rfl];refine(Tryz.utf8_DecodeRuneInString (Aa (s.drop 1)) _ (HL.o.old HB0.o).utf).mono ?_;rw[HDE.o];rintro e w1 ⟨rfl,hb1⟩;have HO1:=Za (HO.o.old hb1);have HB1:=Za (HB0.o.trans (hb1.mono HB0.o.size));clear hb1;have hbad:Wr r=true↔r<32∨r=39∨r=92∨r=65533:=by unfold Wr;exact decide_eq_true_iff
 by_cases hb:Wr r=true
 ·have HF:Hid (o=none):=by show _=_;rw[hF.out,if_pos hb]
  have hc:(r:Int)<32∨(¬(r:Int)<32∧((r:Int)==39)=true)∨(¬(r:Int)<32∧((r:Int)==39)=false∧((r:Int)==92)=true)∨(¬(r:Int)<32∧((r:Int)==39)=false∧((r:Int)==92)=false∧((r:Int)==65533)=true):=by
   simp only[beq_iff_eq,beq_eq_false_iff_ne];rcases hbad.1 hb with h|h|h|h<;>omega
  clear hb hbad hF;rcases hc with c1|⟨c1,c2⟩|⟨c1,c2,c3⟩|⟨c1,c2,c3,c4⟩
  all_goals
   have q0:=HO1.o.at 0 _ rfl;have q1:=HO1.o.at 1 _ rfl;have q2:=HO1.o.at 2 _ rfl;have q3:=HO1.o.at 3 _ rfl;have f0:=HO1.o.fz 0;have f1:=HO1.o.fz 1;have f2:=HO1.o.fz 2;have f3:=HO1.o.fz 3;have ql:=HO1.o.lt;go_wp2_with fail
   have HS:=Za ((((HO1.o.set 0 (.int .i64 0)).set 1 (.string (Aa []))).set 2 (.int .i64 0)).set 3 (.int .i64 0));have e0:=HS.o.at 0 _ rfl;have e1:=HS.o.at 1 _ rfl;have e2:=HS.o.at 2 _ rfl;have e3:=HS.o.at 3 _ rfl;exact bodyPost_ret (v:=.tuple #[Hz 0 [] 0 0,.bool false]) (by simp [results,results106,go_sem,Hz,e0,e1,e2,e3]) rfl ⟨⟨_,_,_,_,rfl,HF.o⟩,Qa w _ HB1.o _ _ _ _⟩
 ·have c1:¬(r:Int)<32:=fun h=>hb (hbad.2 (.inl (by omega)))
  have c2:((r:Int)==39)=false:=by rw[beq_eq_false_iff_ne];exact fun h=>hb (hbad.2 (.inr (.inl (by omega))))
  have c3:((r:Int)==92)=false:=by rw[beq_eq_false_iff_ne];exact fun h=>hb (hbad.2 (.inr (.inr (.inl (by omega)))))
  have c4:((r:Int)==65533)=false:=by rw[beq_eq_false_iff_ne];exact fun h=>hb (hbad.2 (.inr (.inr (.inr (by omega)))))
  have HNB:=Za hb;clear hb hbad;go_wp2_with fail
  rw[HX2.o _ rfl];refine(Tryz.strings_HasPrefix (Aa (s.drop (1+d))) (Aa [39]) w1).mono ?_;rintro e w2 ⟨he,hw2⟩;replace he:e=.returned (.bool (Zi (s.drop (1+d)) [39])):=he;obtain rfl:w1=w2:=hw2.symm
  cases hp:Zi (s.drop (1+d)) [39]
  ·rw[hp]at he
   subst he;have HF:Hid (o=none):=by show _=_;rw[hF.out,if_neg HNB.o,if_neg (by rw[hp];decide)]
   clear hp hF;have q0:=HO1.o.at 0 _ rfl;have q1:=HO1.o.at 1 _ rfl;have q2:=HO1.o.at 2 _ rfl;have q3:=HO1.o.at 3 _ rfl;have f0:=HO1.o.fz 0;have f1:=HO1.o.fz 1;have f2:=HO1.o.fz 2;have f3:=HO1.o.fz 3;have ql:=HO1.o.lt;go_wp2_with fail
   have HS:=Za ((((HO1.o.set 0 (.int .i64 0)).set 1 (.string (Aa []))).set 2 (.int .i64 0)).set 3 (.int .i64 0));have e0:=HS.o.at 0 _ rfl;have e1:=HS.o.at 1 _ rfl;have e2:=HS.o.at 2 _ rfl;have e3:=HS.o.at 3 _ rfl;exact bodyPost_ret (v:=.tuple #[Hz 0 [] 0 0,.bool false]) (by simp [results,results106,go_sem,Hz,e0,e1,e2,e3]) rfl ⟨⟨_,_,_,_,rfl,HF.o⟩,Qa w _ HB1.o _ _ _ _⟩
  ·rw[hp]at he
   subst he;have HF:Hid (o=some (3,s.take (d+2),(r:Int))):=by show _=_;rw[hF.out,if_neg HNB.o,if_pos hp]
   have hl2:2+d≤s.length:=by
    have:(s.drop (1+d))≠[]:=by intro h;rw[h]at hp;exact absurd hp (by decide)
    have:=List.length_pos_iff.2 this;rw[List.length_drop]at this;omega
   have hl3:(d:Int)+2≤(s.length:Int):=by omega
   have hl4:d+2≤s.length:=by omega
   have hx3:=HX3.o;generalize s.take (d+2)=k at*;clear hp hF hl2;have q0:=HO1.o.at 0 _ rfl;have q1:=HO1.o.at 1 _ rfl;have q2:=HO1.o.at 2 _ rfl;have q3:=HO1.o.at 3 _ rfl;have f0:=HO1.o.fz 0;have f1:=HO1.o.fz 1;have f2:=HO1.o.fz 2;have f3:=HO1.o.fz 3;have ql:=HO1.o.lt;go_wp2_with fail
   have HS:=Za ((((HO1.o.set 0 (.int .i64 3)).set 1 (.string (Aa k))).set 2 (.int .i64 r)).set 3 (.int .i64 0));have e0:=HS.o.at 0 _ rfl;have e1:=HS.o.at 1 _ rfl;have e2:=HS.o.at 2 _ rfl;have e3:=HS.o.at 3 _ rfl;exact bodyPost_ret (v:=.tuple #[Hz 3 k r 0,.bool true]) (by simp [results,results106,go_sem,Hz,e0,e1,e2,e3]) rfl ⟨⟨_,_,_,_,rfl,HF.o⟩,Qa w _ HB1.o _ _ _ _⟩
end Go.Proofs.YtfhbinbjkpfedaaGreatDoor
namespace Go.Proofs.YtfhbinbjkpfedaaGreatDoor
open Go.ChangeShapes Go.WideShapes Go.ChangeAt Go.RowKit
set_option maxHeartbeats 4000000
set_option maxRecDepth 100000
theorem zgTab:Tryz.prog.globalNamed "internal/strconv.uint64pow10" =some 3:=by kernel_rfl
theorem eR:(Tryz.prog.globals[3]?).map (·.type)=some 184:=by kernel_rfl
theorem dQ:Tryz.prog.cellsOf 184=20:=by kernel_rfl
theorem zcellsU:Tryz.prog.cellsOf 166=1:=by kernel_rfl
theorem zU8:U8Extra Tryz.prog Tryz.lays196_ren:=⟨by kernel_rfl,by kernel_rfl,by kernel_rfl,by kernel_rfl,by kernel_rfl,by kernel_rfl,by kernel_rfl⟩
theorem zaccept:Rows.laid_unicode_utf8_acceptRanges=Lib.acceptData:=by kernel_rfl
theorem Uq {H:Type}{enc:TypeId ×Value→H}{P:Program}{w:World}{base:Nat}{sp:Nat→Bool}{held:Bool}{fuel:Nat}{t:TypeId}{ms:Array (String ×TypeId)}{cs:List Value}{nm:String}{d:DataW H}{p:List MemPlace}(ht:P.underlying t=some (.interface ms))
  (h:DataW.trod enc P w base sp held fuel t cs=some (.iface nm d,p)):∃u v,cs=[.iface u v]:=by
 cases fuel with
 |zero=>simp [DataW.trod]at h
 |succ fuel=>
  unfold DataW.trod at h;rw[ht]at h;split at h<;>simp_all
theorem Vy {w:World}{n:String}{g:Nat}{nm:String}{d:DataW Unit}(hg:Tryz.prog.globalNamed n=some g)(hy:(Tryz.prog.globals[g]?).map (·.type)=some 136)(h:Lib.VarReads Tryz.prog w n (.iface nm d)):∃te pe,w.cell? ⟨g,0,none⟩=some (.iface te pe):=by
 obtain⟨g',t,cs,fuel,p,h1,h2,h3,h4⟩:=h;rw[hg]at h1
 cases h1
 rw[hy]at h2
 cases h2
 obtain⟨u,v,e⟩:=Uq Tryz.underlying136 h4;refine⟨u,v,?_⟩;unfold World.var? at h3;rw[hg]at h3;simp only[Option.bind_some]at h3;unfold World.cell?
 cases hh:w.heap[g]? with
 |none=>rw[hh]at h3;cases h3
 |some o=>
  rw[hh]at h3
  cases o with
  |cells cs' T fz=>
   simp at h3;subst h3;have e2:cs'= #[.iface u v]:=by rw[←Array.toArray_toList (xs:=cs'),e]
   simp [e2]
  |_=>cases h3
theorem zlib_of {W:World}(h:laidMetH Tryz.prog Rows.treeScansRow.laid W)(hsh:W.ShapedOpen Tryz.prog):Kn W:=by
 have h':laidMet Tryz.prog Rows.treeScansRow.laid W:=h;refine⟨?_,?_,?_,?_,?_⟩
 ·exact Lib.tabIs_of_head (rest:=_) zgTab eR Tryz.underlying184 Tryz.underlying166 zcellsU dQ (Nc (Nc h'))
 ·exact cell_of_shapedOpen_int (zero:= #[.int .i64 0]) (t:=3) hsh (of_decide_eq_true (by kernel_rfl)) (by kernel_rfl) rfl (by kernel_rfl) (by kernel_rfl) Tryz.underlying3
 ·refine utf8Tabs_of_readsT (U8Types.of196 Tryz.lays196) zU8 ?_ ?_
  ·have:=Lib.laidMet.reads h' (n:= "unicode/utf8.first") (d:=Rows.laid_unicode_utf8_first) (.tail _ (.tail _ (.tail _ (.tail _ (.tail _ (.tail _ (.head _)))))))
   rw[←Pinned.utf8First_eq];exact this
  ·have:=Lib.laidMet.reads h' (n:= "unicode/utf8.acceptRanges") (d:=Rows.laid_unicode_utf8_acceptRanges) (.tail _ (.tail _ (.tail _ (.head _))))
   rw[←zaccept];exact this
 ·exact Vy (n:= "strconv.ErrSyntax") (by kernel_rfl) (by kernel_rfl) (Lib.laidMet.reads h' (n:= "strconv.ErrSyntax") (d:=Rows.laid_strconv_ErrSyntax) (.tail _ (.tail _ (.tail _ (.tail _ (.tail _ (.head _)))))))
 ·exact Vy (n:= "strconv.ErrRange") (by kernel_rfl) (by kernel_rfl) (Lib.laidMet.reads h' (n:= "strconv.ErrRange") (d:=Rows.laid_strconv_ErrRange) (.tail _ (.tail _ (.tail _ (.tail _ (.head _))))))
end Go.Proofs.YtfhbinbjkpfedaaGreatDoor
namespace Go.Proofs.YtfhbinbjkpfedaaGreatDoor
open Go.RowKit Go.Proofs.Tryz
set_option maxHeartbeats 20000000
set_option maxRecDepth 100000
open Go.Lib renaming hid→Za,hasPrefix→Zd
open Go.Proofs.Tryz renaming prog→Zb
open Below renaming refl→Zc
open List renaming cons_append→Ze,length_append→Zf,take_succ_eq_append_getElem→Zg,getElem?_eq_getElem→Zh
mutual
def Gn:Ex→Ex→Bool
 |.mk k o n nm us,.mk k' o' n' nm' bs=>k==k' && o==o' && n==n' && nm==nm' && Fd us bs
def Fd:List Ex→List Ex→Bool
 |[],[]=>true
 |x::l,y::m=>Gn x y && Fd l m
 |_,_=>false
end
mutual
theorem Yn:∀a b:Ex,Gn a b=true↔a=b
 |.mk k o n nm us,.mk k' o' n' nm' bs=>by
  rw[Gn];simp only[Bool.and_eq_true,beq_iff_eq,Ks us bs,Ex.mk.injEq];simp only[and_assoc]
theorem Ks:∀a b:List Ex,Fd a b=true↔a=b
 |[],[]=>by simp [Fd]
 |x::l,y::m=>by rw[Fd];simp [Yn x y,Ks l m]
 |[],y::m=>by simp [Fd]
 |x::l,[]=>by simp [Fd]
end
mutual
def Eh:St→St→Bool
 |.mk k nm us t e,.mk k' nm' us' t' e'=>k==k' && nm==nm' && Fd us us' && Ey t t' && Ey e e'
def Ey:List St→List St→Bool
 |[],[]=>true
 |x::l,y::m=>Eh x y && Ey l m
 |_,_=>false
end
mutual
theorem aK:∀a b:St,Eh a b=true↔a=b
 |.mk k nm us t e,.mk k' nm' us' t' e'=>by
  rw[Eh];simp only[Bool.and_eq_true,beq_iff_eq,Ks us us',Jf t t',Jf e e',St.mk.injEq];simp only[and_assoc]
theorem Jf:∀a b:List St,Ey a b=true↔a=b
 |[],[]=>by simp [Ey]
 |x::l,y::m=>by rw[Ey];simp [aK x y,Jf l m]
 |[],y::m=>by simp [Ey]
 |x::l,[]=>by simp [Ey]
end
def Fq:List Bs→List Bs→Bool
 |[],[]=>true
 |x::l,y::m=>x==y && Fq l m
 |_,_=>false
theorem Rr:∀a b:List Bs,Fq a b=true↔a=b
 |[],[]=>by simp [Fq]
 |x::l,y::m=>by rw[Fq];simp [Rr l m]
 |[],y::m=>by simp [Fq]
 |x::l,[]=>by simp [Fq]
def Gp(f g:Fu):Bool:=f.name==g.name && Fq f.params g.params && Fq f.locals g.locals && Ey f.body g.body
theorem Yv(f g:Fu):Gp f g=true↔f=g:=by
 obtain⟨a,b,c,d⟩:=f;obtain⟨a',b',c',d'⟩:=g;unfold Gp;simp only[Bool.and_eq_true,beq_iff_eq,Rr,Jf,Fu.mk.injEq];simp only[and_assoc]
def Hf:List Fu→List Fu→Bool
 |[],[]=>true
 |x::l,y::m=>Gp x y && Hf l m
 |_,_=>false
theorem Pn:∀a b:List Fu,Hf a b=true↔a=b
 |[],[]=>by simp [Hf]
 |x::l,y::m=>by rw[Hf];simp [Yv x y,Pn l m]
 |[],y::m=>by simp [Hf]
 |x::l,[]=>by simp [Hf]
def Ic(a b:Ar):Bool:=a.name==b.name && a.size==b.size
theorem Xx(f g:Ar):Ic f g=true↔f=g:=by
 obtain⟨a,b⟩:=f;obtain⟨a',b'⟩:=g;unfold Ic;simp
def Fi:List Ar→List Ar→Bool
 |[],[]=>true
 |x::l,y::m=>Ic x y && Fi l m
 |_,_=>false
theorem Pu:∀a b:List Ar,Fi a b=true↔a=b
 |[],[]=>by simp [Fi]
 |x::l,y::m=>by rw[Fi];simp [Xx x y,Pu l m]
 |[],y::m=>by simp [Fi]
 |x::l,[]=>by simp [Fi]
def Kv(p q:Pr):Bool:=Fi p.arrays q.arrays && Hf p.funcs q.funcs
theorem Se(p q:Pr):Kv p q=true↔p=q:=by
 obtain⟨a,b⟩:=p;obtain⟨c,d⟩:=q;unfold Kv;simp [Pu,Pn]
def Bo {α:Type}(f:α→α→Bool):List α→List α→Bool
 |[],[]=>true
 |x::l,y::m=>f x y && Bo f l m
 |_,_=>false
theorem Ky:∀l m,Fd l m=Bo Gn l m
 |[],[]=>rfl
 |x::l,y::m=>by rw[Fd,Bo,Ky l m]
 |[],y::m=>by simp [Fd,Bo]
 |x::l,[]=>by simp [Fd,Bo]
theorem Jb:∀l m,Ey l m=Bo Eh l m
 |[],[]=>rfl
 |x::l,y::m=>by rw[Ey,Bo,Jb l m]
 |[],y::m=>by simp [Ey,Bo]
 |x::l,[]=>by simp [Ey,Bo]
theorem Pf:∀l m,Hf l m=Bo Gp l m
 |[],[]=>rfl
 |x::l,y::m=>by rw[Hf,Bo,Pf l m]
 |[],y::m=>by simp [Hf,Bo]
 |x::l,[]=>by simp [Hf,Bo]
theorem Pk:∀l m,Fi l m=Bo Ic l m
 |[],[]=>rfl
 |x::l,y::m=>by rw[Fi,Bo,Pk l m]
 |[],y::m=>by simp [Fi,Bo]
 |x::l,[]=>by simp [Fi,Bo]
theorem Rv:∀l m,Fq l m=Bo (fun x y=>x==y) l m
 |[],[]=>rfl
 |x::l,y::m=>by rw[Fq,Bo,Rv l m]
 |[],y::m=>by simp [Fq,Bo]
 |x::l,[]=>by simp [Fq,Bo]
theorem Hq {α:Type}(f:α→α→Bool):∀(l m:List α),l.length≠m.length→Bo f l m=false
 |[],[],h=>absurd rfl h
 |x::l,y::m,h=>by rw[Bo,Hq f l m (by simpa using h)];simp
 |[],y::m,_=>rfl
 |x::l,[],_=>rfl
theorem Gu {α:Type}(f:α→α→Bool)(d:α):∀(l m:List α),l.length=m.length→(∀i,i<l.length→f (l.getD i d) (m.getD i d)=true)→Bo f l m=true
 |[],[],_,_=>rfl
 |x::l,y::m,h,hf=>by
  have h0:f x y=true:=by have:=hf 0 (by simp);simpa using this
  rw[Bo,h0,Gu f d l m (by simpa using h) (fun i hi=>by have:=hf (i+1) (by simpa using hi);simpa using this)];rfl
 |[],y::m,h,_=>by simp at h
 |x::l,[],h,_=>by simp at h
theorem Fw {α:Type}(f:α→α→Bool)(d:α):∀(l m:List α) (i:Nat),l.length=m.length→i<l.length→f (l.getD i d) (m.getD i d)=false→Bo f l m=false
 |x::l,y::m,0,_,_,hf=>by rw[Bo,show f x y=false by simpa using hf];rfl
 |x::l,y::m,i+1,h,hi,hf=>by rw[Bo,Fw f d l m i (by simpa using h) (by simpa using hi) (by simpa using hf)];simp
 |[],_,_,_,hi,_=>by simp at hi
 |x::l,[],_,h,_,_=>by simp at h
mutual
def Lu:Ex→Nat
 |.mk _ _ _ _ us=>1+Bb us
def Bb:List Ex→Nat
 |[]=>0
 |x::l=>Lu x+Bb l
end
mutual
def Lx:St→Nat
 |.mk _ _ us t e=>1+Bb us+Ap t+Ap e
def Ap:List St→Nat
 |[]=>0
 |x::l=>Lx x+Ap l
end
def Cn:List Fu→Nat
 |[]=>0
 |x::l=>Ap x.body+Cn l
def Mp(p:Pr):Nat:=Cn p.funcs
theorem bB(e:Ex):Lu e=1+Bb e.args:=by cases e;rw[Lu];rfl
theorem Yt(x:St):Lx x=1+Bb x.args+Ap x.thn+Ap x.els:=by cases x;rw[Lx];rfl
theorem Kc:∀l m,Bb (l++m)=Bb l+Bb m
 |[],m=>by simp [Bb]
 |x::l,m=>by rw[Ze,Bb,Bb,Kc l m];omega
theorem Kh:∀l m,Ap (l++m)=Ap l+Ap m
 |[],m=>by simp [Ap]
 |x::l,m=>by rw[Ze,Ap,Ap,Kh l m];omega
theorem Jx:∀l m,Cn (l++m)=Cn l+Cn m
 |[],m=>by simp [Cn]
 |x::l,m=>by rw[Ze,Cn,Cn,Jx l m];omega
theorem Sm(l:List Ex)(d:Ex)(k:Nat)(h:k<l.length):Bb (l.take (k+1))=Bb (l.take k)+Lu (l.getD k d):=by
 rw[Zg h,Kc];simp [Bb,Zh h]
theorem Tb(l:List St)(d:St)(k:Nat)(h:k<l.length):Ap (l.take (k+1))=Ap (l.take k)+Lx (l.getD k d):=by
 rw[Zg h,Kh];simp [Ap,Zh h]
theorem Ss(l:List Fu)(d:Fu)(k:Nat)(h:k<l.length):Cn (l.take (k+1))=Cn (l.take k)+Ap (l.getD k d).body:=by
 rw[Zg h,Jx];simp [Cn,Zh h]
theorem Ol(l:List Ex)(k:Nat):Bb (l.take k)≤Bb l:=by
 have:=Kc (l.take k) (l.drop k);rw[List.take_append_drop]at this;omega
theorem Oe(l:List St)(k:Nat):Ap (l.take k)≤Ap l:=by
 have:=Kh (l.take k) (l.drop k);rw[List.take_append_drop]at this;omega
theorem Ov(l:List Fu)(k:Nat):Cn (l.take k)≤Cn l:=by
 have:=Jx (l.take k) (l.drop k);rw[List.take_append_drop]at this;omega
theorem Ls {D:Nat→Prop}{w:World}{l:List St}{v:Value}(h:Al D w l v)(n:Nat):Al D (w.drewN n) l v:=Al.keep (w:=w) (w':=w.drewN n) (fun _ _ _ _ hx=>hx) h
theorem Jg {B:Nat}{a w:World}(h:Below B a w)(n:Nat):Below B a (w.drewN n):=⟨h.os,h.tape,h.output,h.size,h.block⟩
theorem gV(c:Bs)(s:Bs)(h:(10:UInt8) ∉ c):Lib.index (c++10::s) [10]=(c.length:Int):=by
 induction c with
 |nil=>simp [Lib.index]
 |cons x c ih=>
  have hx:x≠10:=fun e=>h (by rw[e];exact List.mem_cons_self)
  have i:=ih (fun hm=>h (List.mem_cons_of_mem _ hm));rw[Ze,Lib.index];have hp:([10]:List UInt8).isPrefixOf (x::(c++10::s))=false:=by
   simp [List.isPrefixOf];exact fun e=>hx e.symm
  rw[hp,i];have:((c.length:Int)== -1)=false:=by rw[beq_eq_false_iff_ne];omega
  rw[this];simp
theorem Xk:∀c:Bs,(10:UInt8) ∉ c→Lib.index c [10]= -1
 |[],_=>by simp [Lib.index]
 |x::c,h=>by
  have hx:x≠10:=fun e=>h (by rw[e];exact List.mem_cons_self)
  have i:=Xk c (fun hm=>h (List.mem_cons_of_mem _ hm));rw[Lib.index];have hp:([10]:List UInt8).isPrefixOf (x::c)=false:=by
   simp [List.isPrefixOf];exact fun e=>hx e.symm
  rw[hp,i];rfl
theorem Rt(s:Bs):Fe s=s.takeWhile (fun c=>c !=10):=by
 obtain⟨h1,h2,h3⟩:=Na (fun c=>c !=10) s;obtain⟨a,ha⟩:∃a,s.takeWhile (fun c=>c !=10)=a:=⟨_,rfl⟩;obtain⟨b,hb⟩:∃b,s.dropWhile (fun c=>c !=10)=b:=⟨_,rfl⟩;rw[ha]at h1 h2 ⊢;rw[hb]at h1 h3;have hn:(10:UInt8) ∉ a:=fun hm=>absurd (h2 10 hm) (by decide)
 unfold Fe;rw[h1];rcases h3 with rfl|⟨c,r,rfl,hc⟩
 ·rw[List.append_nil]
  unfold Lib.cut;rw[Xk a hn,if_neg (by decide)]
 ·have:c=10:=by simpa using hc
  subst this;unfold Lib.cut;rw[gV a r hn,if_pos (by omega)];simp
theorem comm_ge {s:Bs}(h:Zd s [47,47]=true):2≤(Fe s).length:=by
 rw[Rt]
 match s,h with
 |[],h=>exact absurd h (by decide)
 |[a],h=>simp [Zd]at h
 |a::b::t,h=>
  have:a=47∧b=47:=by simp [Zd]at h;exact⟨h.1.symm,h.2.symm⟩
  obtain⟨rfl,rfl⟩:=this;rw[List.takeWhile_cons,if_pos (by decide),List.takeWhile_cons,if_pos (by decide)];simp
theorem cK(s:Bs):(Fe s).length≤s.length:=by rw[Rt];exact Rj _ _
theorem Wc(s:Bs)(hz:s.length≤1000000)(w:World)(hl:Kn w):
  Calls Zb 101 #[.string (Aa s)] w fun e w'=>e=.returned (.tuple #[.string (Aa (Fe s)),.bool (Qx s)])∧Below w.heap.size w w':=by
 have HL:=Za hl;have HZ:=Za hz;obtain⟨m,hm⟩:=hl.max;have HM:=Za hm;have hle:=cK s;have hcut:∃a b,Lib.cut (Aa s).data.toList (Aa [10]).data.toList=(Fe s,a,b):=⟨(Lib.cut s [10]).2.1,(Lib.cut s [10]).2.2,by show Lib.cut s.toArray.toList [10]=_;unfold Fe;simp⟩;obtain⟨ca,cb,hcut⟩:=hcut;have HK:=Za hcut;have HB:Hid (Qx s=(Lib.validD (Fe s) && !Lib.contains (Fe s) [239,191,189])):=rfl;obtain⟨o,ho⟩:∃o,Qx s=o:=⟨_,rfl⟩;rw[ho]at HB ⊢;obtain⟨c,hc⟩:∃c,Fe s=c:=⟨_,rfl⟩;rw[hc]at HB HK hle ⊢;clear hl hm hz hcut ho hc;go_enter func101,ntmps101
 go_wp2_with fail
 refine(Tryz.strings_Cut (Aa s) (Aa [10]) m w (by have:=HZ.o;show s.length<_;omega) HM.o).mono ?_;rw[HK.o];rintro e w1 ⟨rfl,n1,rfl⟩;have hl1:Kn (w.drewN n1):=HL.o.old (Jg (Zc w.heap.size w) n1);have hcz:c.length≤1000000:=by have:=HZ.o;omega
 go_wp2_with fail
 refine(Tryz.utf8_ValidString (Aa c) (w.drewN n1) (by show c.length≤_;omega) hl1.utf).mono ?_;rintro e w2 ⟨he,hb2⟩;have HB2:=Za ((Jg (Zc w.heap.size w) n1).trans hb2);replace he:e=.returned (.bool (Lib.validD c)):=he
 cases hv:Lib.validD c
 ·rw[hv]at he
  subst he;rw[hv]at HB;clear hb2 hl1 hv;go_wp2_with fail
  go_ret2
  exact⟨by rw[HB.o];rfl,HB2.o⟩
 ·rw[hv]at he
  subst he;have hl2:=hl1.old (hb2:Below (w.drewN n1).heap.size (w.drewN n1) w2);obtain⟨m2,hm2⟩:=hl2.max;have HM2:=Za hm2;rw[hv]at HB;clear hb2 hl1 hl2 hm2 hv;go_wp2_with fail
  refine(Tryz.strings_Contains (Aa c) (Aa [239,191,189]) m2 w2 (by show c.length<_;omega) HM2.o).mono ?_;rintro e w3 ⟨he,hw3⟩;replace he:e=.returned (.bool (Lib.contains c [239,191,189])):=he;subst he;obtain rfl:w2=w3:=hw3.symm
  cases hct:Lib.contains c [239,191,189]
  all_goals
   rw[hct]at HB;clear hct;go_wp2_with fail
   go_ret2
   exact⟨by rw[HB.o];rfl,HB2.o⟩
theorem jT(s:Bs)(hz:s.length≤1000000)(w:World)(hl:Kn w):
  Calls Zb 58 #[.string (Aa s)] w fun e w'=>e=.returned (.tuple #[.string (Aa (Ee (s.length+1) s).1),.int .i64 (Ee (s.length+1) s).2.1,.bool (Ee (s.length+1) s).2.2])∧Below w.heap.size w w':=by
 obtain⟨q,hq⟩:∃q,Ee (s.length+1) s=q:=⟨_,rfl⟩;rw[hq];have HL:=Za hl;have HZ:=Za hz;have HQ:=Za hq;clear hl hz hq;go_enter func58,ntmps58
 go_wp2_with fail
 go_loopw [0,3] (fun s0 s3 wr=> ∃(s1:Bs) (n f:Nat),s0=.string (Aa s1)∧s3=.int .i64 n∧s1.length<f∧n+s1.length≤s.length∧Hid ((Ee f s1).1=q.1∧n+(Ee f s1).2.1=q.2.1∧(Ee f s1).2.2=q.2.2)∧Below w.heap.size w wr) (fun s0 _ _=>match s0 with|.string s=>s.size|_=>0)
 case atStart=>exact⟨s,0,s.length+1,rfl,rfl,Nat.lt_succ_self _,by omega,by rw[HQ.o];exact⟨rfl,Nat.zero_add _,rfl⟩,Zc _ _⟩
 case round=>
  obtain⟨s1,n,f,rfl,rfl,hf,hn,hs,hb⟩:=hrel;obtain⟨f,rfl⟩:∃g,f=g+1:=⟨f-1,by omega⟩;have hzz:=HZ.o;have HL1:=Za (HL.o.old hb);have HB:=Za hb;have HR1:=Za (fun w1=>cR s1 w1);have hfe:Az (s1.takeWhile Av)≤(s1.takeWhile Av).length:=List.count_le_length;have hsp:=congrArg List.length (Iq Av s1);rw[Zf,Mo]at hsp;have HX1:=Za ((Nj s1 (s1.takeWhile Av).length).trans (congrArg Aa (Mj Av s1)));have HX2:Hid (∀n,n=s1.length→(Aa s1).extract (s1.takeWhile Av).length n=Aa (s1.dropWhile Av)):=Za (fun n hn=>by rw[Nb s1 _ n hn,Mo]);rw[Ee]at hs;obtain⟨b,hbe⟩:∃b,s1.takeWhile Av=b:=⟨_,rfl⟩;obtain⟨r,hre⟩:∃r,s1.dropWhile Av=r:=⟨_,rfl⟩;rw[hbe]at HR1 hfe hsp HX1 HX2 hs;rw[hre]at hsp HX2 hs;have HS:=Za hs;have nI:(n:Int)≤1000000:=by omega
  have nJ:(0:Int)≤(n:Int):=by omega
  have l1:(b.length:Int)≤(s1.length:Int):=by omega
  have l2:b.length≤s1.length:=by omega
  have fI:(n:Int)+(Az b:Int)≤1000000:=by omega
  have fJ:(0:Int)≤(Az b:Int):=by omega
  have HSP:=Za hsp;clear hb hs hbe hre hsp;go_wp2_with fail
  refine(HR1.o _).mono ?_;rintro e w1 ⟨rfl,hb1⟩;have HB1:=Za (HB.o.trans (hb1.mono HB.o.size));have HL2:=Za (HL1.o.old hb1);clear hb1;go_wp2_with fail
  rw[HX1.o];refine(Tryz.strings_Count_one (Aa b) 10 w1).mono ?_;rintro e w2 ⟨he,hw2⟩;replace he:e=.returned (.int .i64 (Az b:Int)):=he;subst he;obtain rfl:w1=w2:=hw2.symm;go_wp2_with fail
  rw[HX2.o _ rfl];refine(Tryz.strings_HasPrefix (Aa r) (Aa [47,47]) w1).mono ?_;rintro e w2 ⟨he,hw2⟩;replace he:e=.returned (.bool (Zd r [47,47])):=he;obtain rfl:w1=w2:=hw2.symm
  cases hp:Zd r [47,47]
  ·rw[hp]at he
   subst he;have hs:=HS.o;rw[if_neg (by rw[hp];decide)]at hs;have HE:=Za hs;clear hp hs;go_wp2_with fail
   go_ret3
   obtain⟨h1,h2,h3⟩:=HE.o;exact⟨by rw[←h1,←h2,←h3,show((n+Az b:Nat):Int)=(n:Int)+(Az b:Int)by omega];rfl,HB1.o⟩
  ·rw[hp]at he
   subst he;have hc2:=comm_ge hp;have hc3:=cK r;have hs:=HS.o;rw[if_pos hp]at hs;have HCM:=Za (fun w1 h=>Wc r (by have:=HSP.o;omega) w1 h);have HX3:Hid (∀n,n=r.length→(Aa r).extract (Fe r).length n=Aa (r.drop (Fe r).length)):=Za (fun n hn=>Nb r _ n hn);have l3:((Fe r).length:Int)≤(r.length:Int):=by omega
   have l4:(Fe r).length≤r.length:=hc3;have hd:(r.drop (Fe r).length).length=r.length-(Fe r).length:=List.length_drop
   cases hcb:Qx r
   ·rw[if_neg (by rw[hcb];decide)]at hs
    rw[hcb]at HCM;have HE:=Za hs;generalize Fe r=c at*;clear hp hs hcb;go_wp2_with fail
    refine(HCM.o _ HL2.o).mono ?_;rintro e w2 ⟨rfl,hb2⟩;have HB2:=Za (HB1.o.trans (hb2.mono HB1.o.size));clear hb2;go_wp2_with fail
    go_ret3
    obtain⟨h1,h2,h3⟩:=HE.o;exact⟨by rw[←h1,←h2,←h3,show((n+Az b:Nat):Int)=(n:Int)+(Az b:Int)by omega];rfl,HB2.o⟩
   ·rw[if_pos hcb]at hs
    rw[hcb]at HCM;have HE:=Za hs;generalize Fe r=c at*;clear hp hs hcb;go_wp2_with fail
    refine(HCM.o _ HL2.o).mono ?_;rintro e w2 ⟨rfl,hb2⟩;have HB2:=Za (HB1.o.trans (hb2.mono HB1.o.size));clear hb2;go_wp2_with fail
    rw[HX3.o _ rfl];go_roundw
    case rel=>
     obtain⟨h1,h2,h3⟩:=HE.o;have hsp:=HSP.o;exact⟨r.drop c.length,n+Az b,f,rfl,by go_num,by omega,by omega,⟨h1,by rw[Nat.add_assoc];exact h2,h3⟩,HB2.o⟩
    case measure=>have hsp:=HSP.o;show(r.drop c.length).length<s1.length;omega
theorem sign_no {l:Bs}(h:Eb l=false):∀x,x∈Sa→(l==x)=false:=fun x hx=>by
 cases hq:(l==x)with
 |false=>rfl
 |true=>
  have e:l=x:=by simpa using hq
  subst e;rw[show Eb l=true from List.contains_iff_mem.2 hx]at h
  cases h
theorem kE(s:Bs)(h0:s≠[])(w:World):Calls Zb 107 #[.string (Aa s)] w (Qq (Kj s) w):=by
 have h1:1≤s.length:=List.length_pos_iff.2 h0;have HX:=Za (Nj s);have hmin:(min (2:Int) (s.length:Int))=((min 2 s.length:Nat):Int):=by omega
 obtain⟨M,hM⟩:∃M,min 2 s.length=M:=⟨_,rfl⟩;rw[hM]at hmin;have hM2:M≤2∧M≤s.length∧1≤M∧(M=1→s.length=1):=by omega
 have HM:=Za hM2;have ht1:s.length=1→s.take 2=s.take 1:=fun h=>by rw[List.take_of_length_le (by omega),List.take_of_length_le (by omega)]
 have HF:Hid (∀m,m≤M→1≤m→(∀j,m<j→j≤M→Eb (s.take j)=false)→Eb (s.take m)=true→Kj s=some (4,s.take m,0)):=Za (by
  intro m a1 a2 a4 a5;have:m=1∨m=2:=by omega
  unfold Kj;rcases this with rfl|rfl
  ·by_cases h:M=1
   ·rw[ht1 (hM2.2.2.2 h),a5];rfl
   ·rw[a4 2 (by omega) (by omega),a5];rfl
  ·rw[a5];rfl)
 have HG:Hid ((∀j,0<j→j≤M→Eb (s.take j)=false)→Kj s=none):=Za (by
  intro a;have a1:=a 1 (by omega) (by omega);have a2:Eb (s.take 2)=false:=by
   by_cases h:M=1
   ·rw[ht1 (hM2.2.2.2 h)];exact a1
   ·exact a 2 (by omega) (by omega)
  unfold Kj;rw[a2,a1];rfl)
 obtain⟨o,ho⟩:∃o,Kj s=o:=⟨_,rfl⟩;rw[ho]at HF HG ⊢;have HO:=Za (Ag.new w [.int .i64 0,.string ⟨#[]⟩,.int .i64 0,.int .i64 0] 53);have HB0:=Za ((Zc w.heap.size w).alloc (Nat.le_refl _) (.cells #[.int .i64 0,.string ⟨#[]⟩,.int .i64 0,.int .i64 0] 53));clear ho h0 hM hM2 ht1;go_enter func107,ntmps107
 go_wp2_with fail
 go_loopw [4] (fun s4 wr=> ∃m:Nat,m≤M∧s4=.int .i64 m∧wr=w.alloc (.cells #[.int .i64 0,.string ⟨#[]⟩,.int .i64 0,.int .i64 0] 53)∧Hid (∀j,m<j→j≤M→Eb (s.take j)=false)) (fun s4 _=>match s4 with|.int _ n=>n.toNat|_=>0)
 case atStart=>exact⟨M,Nat.le_refl _,by first|rw[hmin]|rfl,rfl,fun j h1 h2=>by omega⟩
 case round=>
  obtain⟨m,hm,rfl,rfl,hp⟩:=hrel;have hM2:=HM.o
  by_cases hm0:m=0
  ·subst hm0
   have HE:=Za (HG.o hp);have q0:=HO.o.at 0 _ rfl;have q1:=HO.o.at 1 _ rfl;have q2:=HO.o.at 2 _ rfl;have q3:=HO.o.at 3 _ rfl;clear hp;go_wp2_with fail
   exact bodyPost_ret (v:=.tuple #[Hz 0 [] 0 0,.bool false]) (by simp [results,results107,go_sem,Hz,q0,q1,q2,q3]) rfl ⟨⟨_,_,_,_,rfl,by rw[HE.o];rfl⟩,HB0.o⟩
  ·have hmI:(0:Int)<(m:Int):=by omega
   have hmL:(m:Int)≤(s.length:Int):=by omega
   have hmN:m≤s.length:=by omega
   have hm1:(m:Int)-1=((m-1:Nat):Int):=by omega
   have HM1:=Za hm1;have hx:=HX.o m;have HFF:=Za (HF.o m hm (by omega) hp);have HR:Hid (Eb (s.take m)=false→∀j,m-1<j→j≤M→Eb (s.take j)=false):=Za (fun h j h1 h2=>by
    by_cases e:j=m
    ·rw[e];exact h
    ·exact hp j (by omega) h2)
   clear hp hm1;generalize s.take m=l at*
   cases hs:Eb l
   ·have hf:=sign_no hs
    have g0:=hf [61,61] (by decide);have g1:=hf [33,61] (by decide);have g2:=hf [60,61] (by decide);have g3:=hf [62,61] (by decide);have g4:=hf [60,60] (by decide);have g5:=hf [62,62] (by decide);have g6:=hf [40] (by decide);have g7:=hf [41] (by decide);have g8:=hf [123] (by decide);have g9:=hf [125] (by decide);have g10:=hf [91] (by decide);have g11:=hf [93] (by decide);have g12:=hf [44] (by decide);have g13:=hf [59] (by decide);have g14:=hf [61] (by decide);have g15:=hf [124] (by decide);have g16:=hf [94] (by decide);have g17:=hf [38] (by decide);have g18:=hf [43] (by decide);have g19:=hf [45] (by decide);have g20:=hf [42] (by decide);have g21:=hf [47] (by decide);have g22:=hf [37] (by decide);have g23:=hf [33] (by decide);have g24:=hf [126] (by decide);have g25:=hf [60] (by decide);have g26:=hf [62] (by decide);have HRR:=Za (HR.o hs);clear hf HFF hs HR;go_wp2_with fail
    exact⟨⟨m-1,by omega,by rw[HM1.o],trivial,HRR.o⟩,by simp;omega⟩
   ·have HFF2:=Za (HFF.o hs)
    have hs2:=Gq hs;clear HFF hs HR;rcases hs2 with rfl|rfl|rfl|rfl|rfl|rfl|rfl|rfl|rfl|rfl|rfl|rfl|rfl|rfl|rfl|rfl|rfl|rfl|rfl|rfl|rfl|rfl|rfl|rfl|rfl|rfl|rfl
    all_goals
     go_wp2_with fail
     exact bodyPost_ret (v:=.tuple #[Hz 4 _ 0 0,.bool true]) (by simp [results,results107,go_sem,Hz]) rfl ⟨⟨_,_,_,_,rfl,HFF2.o⟩,bA⟩
theorem dN(s:Bs)(h0:s≠[])(hz:s.length≤1000000)(w:World)(hl:Kn w):Calls Zb 59 #[.string (Aa s)] w (Qq (Ko s) w):=by
 obtain⟨c,t,rfl⟩:∃c t,s=c::t:=by cases s with|nil=>exact absurd rfl h0|cons c t=>exact⟨c,t,rfl⟩
 have HL:=Za hl;have HZ:=Za hz;have h0':0<(Aa (c::t)).size:=by show 0<(c::t).length;simp
 have hz1:(0:Int)<((c::t).length:Int):=by rw[List.length_cons];omega
 have hzN:0<(c::t).length:=by simp
 have hc8:=c.toNat_lt;have HWR:=Za (show wrap32 (((Aa (c::t))[0]'h0').toNat:Int)=(c.toNat:Int)by
  show wrap32 (c.toNat:Int)=_
  unfold wrap32;omega)
 have HO:=Za (Ag.new w [.int .i64 0,.string ⟨#[]⟩,.int .i64 0,.int .i64 0] 53);have HB0:=Za ((Zc w.heap.size w).alloc (Nat.le_refl _) (.cells #[.int .i64 0,.string ⟨#[]⟩,.int .i64 0,.int .i64 0] 53));have HLE:=Za (Io c);have HDI:=Za (Ik c);have hq:((c.toNat:Int)==39)=decide (c=39):=by
  rw[Bool.eq_iff_iff,beq_iff_eq,decide_eq_true_iff,←UInt8.toNat_inj];show _↔c.toNat=39
  omega
 have HQ:=Za hq;have HF:Hid (Ko (c::t)=if Bg c=true then Lh (c::t)else if Bc c=true then Ur (c::t)else if c=39 then Uv (c::t)else Kj (c::t)):=rfl;have H0:=Za h0;clear hl hz hc8 h0 hq;go_enter func59,ntmps59
 go_wp2_with fail
 rw[HWR.o];refine(Gs _ _).mono ?_;rw[HLE.o]
 cases hl:Bg c
 ·rintro e w1 ⟨rfl,rfl⟩
  have HC1:=Za hl;clear hl;go_wp2_with fail
  refine(Jp _ _).mono ?_;rw[HDI.o]
  cases hd:Bc c
  ·rintro e w1 ⟨rfl,rfl⟩
   have HC2:=Za hd;clear hd
   by_cases hc:c=39
   ·have hq:((c.toNat:Int)==39)=true:=by rw[HQ.o];simp [hc]
    have HT:=Za (Xy (c::t) H0.o HZ.o _ (HL.o.old HB0.o));rw[show Uv (c::t)=Ko (c::t)by rw[HF.o,if_neg (by rw[HC1.o];decide),if_neg (by rw[HC2.o];decide),if_pos hc]]at HT;clear hc HF HQ;go_wp2_with fail
    refine HT.o.mono ?_;rintro e w3 ⟨⟨k,x,n,ok,rfl,ho⟩,hb3⟩;unfold Hz;have HO3:=Za (HO.o.old hb3);have HB3:=Za (HB0.o.trans (hb3.mono HB0.o.size));have HOO:=Za ho;clear hb3 ho HT;have q0:=HO3.o.at 0 _ rfl;have f0:=HO3.o.fz 0;have q1:=HO3.o.at 1 _ rfl;have f1:=HO3.o.fz 1;have q2:=HO3.o.at 2 _ rfl;have f2:=HO3.o.fz 2;have q3:=HO3.o.at 3 _ rfl;have f3:=HO3.o.fz 3;have ql:=HO3.o.lt;go_wp2_with fail
    have HS:=Za ((((HO3.o.set 0 (.int .i64 k)).set 1 (.string (Aa x))).set 2 (.int .i64 n)).set 3 (.int .i64 0));have e0:=HS.o.at 0 _ rfl;have e1:=HS.o.at 1 _ rfl;have e2:=HS.o.at 2 _ rfl;have e3:=HS.o.at 3 _ rfl;exact bodyPost_ret (v:=.tuple #[.agg #[.int .i64 k,.string (Aa x),.int .i64 n,.int .i64 0],.bool ok]) (by simp [results,results59,go_sem,e0,e1,e2,e3]) rfl ⟨⟨_,_,_,_,rfl,HOO.o⟩,Qa w _ HB3.o _ _ _ _⟩
   ·have hq:((c.toNat:Int)==39)=false:=by rw[HQ.o];simp [hc]
    have HT:=Za (kE (c::t) H0.o (w.alloc (.cells #[.int .i64 0,.string ⟨#[]⟩,.int .i64 0,.int .i64 0] 53)));rw[show Kj (c::t)=Ko (c::t)by rw[HF.o,if_neg (by rw[HC1.o];decide),if_neg (by rw[HC2.o];decide),if_neg hc]]at HT;clear hc HF HQ;go_wp2_with fail
    refine HT.o.mono ?_;rintro e w3 ⟨⟨k,x,n,ok,rfl,ho⟩,hb3⟩;unfold Hz;have HO3:=Za (HO.o.old hb3);have HB3:=Za (HB0.o.trans (hb3.mono HB0.o.size));have HOO:=Za ho;clear hb3 ho HT;have q0:=HO3.o.at 0 _ rfl;have f0:=HO3.o.fz 0;have q1:=HO3.o.at 1 _ rfl;have f1:=HO3.o.fz 1;have q2:=HO3.o.at 2 _ rfl;have f2:=HO3.o.fz 2;have q3:=HO3.o.at 3 _ rfl;have f3:=HO3.o.fz 3;have ql:=HO3.o.lt;go_wp2_with fail
    have HS:=Za ((((HO3.o.set 0 (.int .i64 k)).set 1 (.string (Aa x))).set 2 (.int .i64 n)).set 3 (.int .i64 0));have e0:=HS.o.at 0 _ rfl;have e1:=HS.o.at 1 _ rfl;have e2:=HS.o.at 2 _ rfl;have e3:=HS.o.at 3 _ rfl;exact bodyPost_ret (v:=.tuple #[.agg #[.int .i64 k,.string (Aa x),.int .i64 n,.int .i64 0],.bool ok]) (by simp [results,results59,go_sem,e0,e1,e2,e3]) rfl ⟨⟨_,_,_,_,rfl,HOO.o⟩,Qa w _ HB3.o _ _ _ _⟩
  ·rintro e w1 ⟨rfl,rfl⟩
   have HT:=Za (Yb (c::t) HZ.o _ (HL.o.old HB0.o));rw[show Ur (c::t)=Ko (c::t)by rw[HF.o,if_neg (by rw[HC1.o];decide),if_pos hd]]at HT;clear hd HF HQ;go_wp2_with fail
   refine HT.o.mono ?_;rintro e w3 ⟨⟨k,x,n,ok,rfl,ho⟩,hb3⟩;unfold Hz;have HO3:=Za (HO.o.old hb3);have HB3:=Za (HB0.o.trans (hb3.mono HB0.o.size));have HOO:=Za ho;clear hb3 ho HT;have q0:=HO3.o.at 0 _ rfl;have f0:=HO3.o.fz 0;have q1:=HO3.o.at 1 _ rfl;have f1:=HO3.o.fz 1;have q2:=HO3.o.at 2 _ rfl;have f2:=HO3.o.fz 2;have q3:=HO3.o.at 3 _ rfl;have f3:=HO3.o.fz 3;have ql:=HO3.o.lt;go_wp2_with fail
   have HS:=Za ((((HO3.o.set 0 (.int .i64 k)).set 1 (.string (Aa x))).set 2 (.int .i64 n)).set 3 (.int .i64 0));have e0:=HS.o.at 0 _ rfl;have e1:=HS.o.at 1 _ rfl;have e2:=HS.o.at 2 _ rfl;have e3:=HS.o.at 3 _ rfl;exact bodyPost_ret (v:=.tuple #[.agg #[.int .i64 k,.string (Aa x),.int .i64 n,.int .i64 0],.bool ok]) (by simp [results,results59,go_sem,e0,e1,e2,e3]) rfl ⟨⟨_,_,_,_,rfl,HOO.o⟩,Qa w _ HB3.o _ _ _ _⟩
 ·rintro e w1 ⟨rfl,rfl⟩
  have HT:=Za (gY (c::t) (w.alloc (.cells #[.int .i64 0,.string ⟨#[]⟩,.int .i64 0,.int .i64 0] 53)));rw[show Lh (c::t)=Ko (c::t)by rw[HF.o,if_pos hl]]at HT;clear hl HF HQ;go_wp2_with fail
  refine HT.o.mono ?_;rintro e w3 ⟨⟨k,x,n,ok,rfl,ho⟩,hb3⟩;unfold Hz;have HO3:=Za (HO.o.old hb3);have HB3:=Za (HB0.o.trans (hb3.mono HB0.o.size));have HOO:=Za ho;clear hb3 ho HT;have q0:=HO3.o.at 0 _ rfl;have f0:=HO3.o.fz 0;have q1:=HO3.o.at 1 _ rfl;have f1:=HO3.o.fz 1;have q2:=HO3.o.at 2 _ rfl;have f2:=HO3.o.fz 2;have q3:=HO3.o.at 3 _ rfl;have f3:=HO3.o.fz 3;have ql:=HO3.o.lt;go_wp2_with fail
  have HS:=Za ((((HO3.o.set 0 (.int .i64 k)).set 1 (.string (Aa x))).set 2 (.int .i64 n)).set 3 (.int .i64 0));have e0:=HS.o.at 0 _ rfl;have e1:=HS.o.at 1 _ rfl;have e2:=HS.o.at 2 _ rfl;have e3:=HS.o.at 3 _ rfl;exact bodyPost_ret (v:=.tuple #[.agg #[.int .i64 k,.string (Aa x),.int .i64 n,.int .i64 0],.bool ok]) (by simp [results,results59,go_sem,e0,e1,e2,e3]) rfl ⟨⟨_,_,_,_,rfl,HOO.o⟩,Qa w _ HB3.o _ _ _ _⟩
theorem Jo {w w':World}{base size n:Nat}{e:TypeId}{v:Value}{xs:List Value}(h:w.ownsRow base e size v n xs)(hb:Below w.heap.size w w'):w'.ownsRow base e size v n xs:=by
 refine⟨h.1,?_⟩;rcases h.2 with hn|⟨g,cap,cur,rfl,hg,hh,r⟩
 ·exact .inl hn
 ·refine .inr ⟨g,cap,cur,rfl,hg,?_,r⟩
  rw[hb.block g (by
   rcases Nat.lt_or_ge g w.heap.size with h'|h'
   ·exact h'
   ·simp [Array.getElem?_eq_none h']at hh)]
  exact hh
theorem Le {w:World}{base size n:Nat}{e:TypeId}{v:Value}{xs:List Value}(h:w.ownsRow base e size v n xs){k:Nat}(hk:v.ownBlock≠some k)(i:Nat)(x:Value):(w.setCell ⟨k,i,none⟩ x).ownsRow base e size v n xs:=by
 refine⟨h.1,?_⟩;rcases h.2 with hn|⟨g,cap,cur,rfl,hg,hh,r⟩
 ·exact .inl hn
 ·refine .inr ⟨g,cap,cur,rfl,hg,?_,r⟩
  rw[Below.heap_setCell _ _ _ _ (by rintro rfl;exact hk rfl)];exact hh
theorem zrow_at {w:World}{base size n g:Nat}{e:TypeId}{cap:Nat}{xs:List Value}(h:w.ownsRow base e size (.slice (some ⟨g,0,none⟩) n cap) n xs)(j:Nat)(u:Value)(hu:xs[j]? =some u):w.cell? ⟨g,j,none⟩=some u:=by
 have h1:=h.cells (g:=g) rfl j u hu;have h2:(⟨g,0,none⟩:Addr).add j=⟨g,j,none⟩:=by unfold Addr.add;split<;>simp_all
 rwa[h2]at h1
theorem Yr {w:World}{base size n:Nat}{e:TypeId}{v:Value}{xs:List Value}(h:w.ownsRow base e size v n xs):(v=.slice none 0 0∧n=0)∨∃g cap,v=.slice (some ⟨g,0,none⟩) n cap:=by
 rcases h.2 with h'|⟨g,cap,cur,rfl,_⟩
 ·exact .inl h'
 ·exact .inr ⟨g,cap,rfl⟩
theorem bM {w:World}{base size n:Nat}{e:TypeId}{v:Value}{xs:List Value}(h:w.ownsRow base e size v n xs):∃a cap,v=.slice a n cap:=by
 rcases Yr h with⟨rfl,rfl⟩|⟨g,cap,rfl⟩
 ·exact⟨none,0,rfl⟩
 ·exact⟨_,_,rfl⟩
theorem Pl {B:Nat}{a w w':World}(h:Below B a w){row:Option Nat}(hg:w.grownBy w' row)(hr:∀k,row=some k→B≤k)(hB:B≤w.heap.size):Below B a w':=
 ⟨hg.os.trans h.os,hg.tape.trans h.tape,hg.output.trans h.output,Nat.le_trans h.size hg.size,fun k hk=>(hg.block k (Nat.lt_of_lt_of_le hk hB) (fun e=>by have:=hr k e.symm;omega)).trans (h.block k hk)⟩
theorem Fc {B:Nat}{a w:World}(h:Below B a w){k:Nat}(hk:B≤k)(i:Nat)(v:Value):Below B a (w.setCell ⟨k,i,none⟩ v):=h.setCell (p:=⟨k,i,none⟩) hk v
theorem Ag.grow {w w':World}{b:Nat}{cs:List Value}{T:TypeId}(h:Ag w b cs T){row:Option Nat}(hg:w.grownBy w' row)(hr:row≠some b):Ag w' b cs T:=(hg.block b h.lt (fun e=>hr e.symm)).trans h
theorem Ag.news {w:World}{b:Nat}{cs:List Value}{T:TypeId}(h:Ag w b cs T):∀j u,cs[j]? =some u→w.cell? ((⟨b,0,none⟩:Addr).add j)=some u:=by
 intro j u hu;have h2:(⟨b,0,none⟩:Addr).add j=⟨b,j,none⟩:=by unfold Addr.add;split<;>simp_all
 rw[h2];exact h.at j u hu
theorem Xg {α:Type}(f:α→List Value)(k:Nat)(hf:∀x,(f x).length=k):∀(l:List α) (i q:Nat) (p:α),l[i]? =some p→q<k→(l.flatMap f)[i*k+q]? =(f p)[q]?
 |[],i,q,p,h,_=>by simp at h
 |x::l,0,q,p,h,hq=>by
  simp at h;subst h;rw[List.flatMap_cons,List.getElem?_append_left (by rw[hf];omega)];simp
 |x::l,i+1,q,p,h,hq=>by
  simp at h;have:=Xg f k hf l i q p h hq;rw[List.flatMap_cons,List.getElem?_append_right (by rw[hf,Nat.add_mul];omega),←this];congr 1;rw[hf,Nat.add_mul];omega
theorem Qs:∀(f:Nat) (s:Bs),(Ee f s).2.1+(Ee f s).1.length≤s.length
 |0,s=>Nat.le_of_eq (Nat.zero_add _)
 |f+1,s=>by
  have h1:=congrArg List.length (Iq Av s);rw[Zf,Mo]at h1;have h2:Az (s.takeWhile Av)≤(s.takeWhile Av).length:=List.count_le_length;rw[Ee];split
  ·split
   ·have:=Qs f ((s.dropWhile Av).drop (Fe (s.dropWhile Av)).length)
    rw[List.length_drop]at this;show Az _+(Ee f _).2.1+(Ee f _).1.length≤_
    omega
   ·show Az (s.takeWhile Av)+(s.dropWhile Av).length≤_;omega
  ·show Az (s.takeWhile Av)+(s.dropWhile Av).length≤_;omega
def bU(done:List Tk):Except Nat (List Tk)→Except Nat (List Tk)
 |.ok l=>.ok (done++l)
 |.error e=>.error e
theorem Yh(done:List Tk)(t:Tk)(r:Except Nat (List Tk)):bU (done++[t]) r=bU done (match r with|.error e=>.error e|.ok l=>.ok (t::l)):=by
 cases r with
 |error e=>rfl
 |ok l=>show Except.ok (done++[t]++l)=_;rw[List.append_assoc];rfl
def Kw(r:Except Nat (List Tk))(w:World)(e:Ending)(w':World):Prop:=Below w.heap.size w w'∧match r with
 |.ok T=> ∃v,e=.returned (.tuple #[v,.int .i64 0,.int .i64 0])∧Gg w' w.heap.size T v
 |.error n=>e=.returned (.tuple #[.slice none 0 0,.int .i64 20,.int .i64 (n:Int)])
theorem Kw.okE {r:Except Nat (List Tk)}{w w':World}{e:Ending}{T:List Tk}(h:r=.ok T)(hb:Below w.heap.size w w')(h2:∃v,e=.returned (.tuple #[v,.int .i64 0,.int .i64 0])∧Gg w' w.heap.size T v):Kw r w e w':=by subst h;exact⟨hb,h2⟩
theorem Kw.noE {r:Except Nat (List Tk)}{w w':World}{e:Ending}{n:Nat}(h:r=.error n)(hb:Below w.heap.size w w')(h2:e=.returned (.tuple #[.slice none 0 0,.int .i64 20,.int .i64 (n:Int)])):Kw r w e w':=by subst h;exact⟨hb,h2⟩
theorem jK(z:Bs)(hz:z.length≤20000)(w:World)(hl:Kn w):
  Calls Zb 23 #[.string (Aa z)] w (Kw (Mb (z.length+1) z 1) w):=by
 obtain⟨RES,hres⟩:∃R,Mb (z.length+1) z 1=R:=⟨_,rfl⟩;rw[hres];have HL:=Za hl;have HZ:=Za hz;have HRES:=Za hres;have hlenI:(z.length:Int)≤20000:=by omega
 obtain⟨i0,hi0,hz0,hz1,hz2⟩:=info_parts infoTk;have HI0:=Za hi0;have HZ0:=Za hz0;have HZ1:=Za hz1;have HZ2:=Za hz2;clear hi0 hz0 hz1 hz2 hl hz hres;go_enter func23,ntmps23
 go_wp2_with fail
 go_loopw [0,2,5] (fun s0 s2 s5 wr=> ∃(q1:Bs) (n f:Nat) (done:List Tk),s0=.string (Aa q1)∧s5=.int .i64 n∧Gg wr w.heap.size done s2∧q1.length<f∧done.length+q1.length≤20000∧n+q1.length≤20001∧Hid (bU done (Mb f q1 n)=RES)∧Below w.heap.size w wr) (fun s0 _ _ _=>match s0 with|.string s=>s.size|_=>0)
 case atStart=>exact⟨z,1,z.length+1,[],rfl,rfl,Gg.zero _ _,Nat.lt_succ_self _,by simpa using HZ.o,by have:=HZ.o;omega,by rw[HRES.o];cases RES<;>rfl,Zc _ _⟩
 case round=>
  obtain⟨q1,n,f,done,rfl,rfl,hown,hf,hdl,hnl,hcomb,hb⟩:=hrel;obtain⟨f,rfl⟩:∃g,f=g+1:=⟨f-1,by omega⟩;obtain⟨oa,oc,rfl⟩:=bM hown;have HL1:=Za (HL.o.old hb);have HB:=Za hb;have hroom:=Qs (q1.length+1) q1;have HSK:=Za (jT q1 (by omega) wr HL1.o);rw[Mb]at hcomb;obtain⟨sk,hsk⟩:∃q,Ee (q1.length+1) q1=q:=⟨_,rfl⟩;rw[hsk]at hroom HSK hcomb;obtain⟨rest,F,ok⟩:=sk;dsimp only at hroom HSK hcomb;have HOWN:=Za hown;have HOB:Hid (∀k,(Value.slice oa done.length oc).ownBlock=some k→w.heap.size≤k∧k<wr.heap.size):=fun k e=>hown.ge e
  have HCB:=Za hcomb;have nI:(n:Int)+(F:Int)≤1000000:=by omega
  have nJ:(0:Int)≤(n:Int)+(F:Int):=by omega
  have hN:(n:Int)+(F:Int)=((n+F:Nat):Int):=by omega
  have HN:=Za hN;clear hown hb hsk hcomb hN
  cases ok with
  |false=>
   have hc:=HCB.o;rw[if_neg (by decide)]at hc;have HE:=Za (show RES=.error (n+F)from hc.symm);clear hc HCB;go_wp2_with fail
   refine HSK.o.mono ?_;rintro e w1 ⟨rfl,hb1⟩;have HB1:=Za (HB.o.trans (hb1.mono HB.o.size));have hge:w.heap.size≤w1.heap.size:=HB1.o.size;clear hb1;go_wp2_with fail
   go_ret3
   exact Kw.noE HE.o (HB1.o.alloc hge _) (by rw[←HN.o];rfl)
  |true=>
   cases rest with
   |nil=>
    have hc:=HCB.o;rw[if_pos rfl,if_pos rfl]at hc;have HE:=Za (show RES=.ok (done++[⟨5,[],0,((n+F:Nat):Int)⟩])from hc.symm);clear hc HCB;go_wp2_with fail
    refine HSK.o.mono ?_;rintro e w1 ⟨rfl,hb1⟩;have HB1:=Za (HB.o.trans (hb1.mono HB.o.size));have HOWN1:=Za (Jo HOWN.o hb1);have hsz1:=hb1.size;have hbA:Below w1.heap.size w1 (w1.alloc (.cells #[.int .i64 5,.string ⟨#[]⟩,.int .i64 0,.int .i64 ((n:Int)+(F:Int))] 53)):=bA;have HOWN2:=Za (Jo HOWN1.o hbA);have HB2:=Za (HB1.o.trans (hbA.mono HB1.o.size));have HNEW:=Za (Ag.new w1 [.int .i64 5,.string ⟨#[]⟩,.int .i64 0,.int .i64 ((n:Int)+(F:Int))] 53);clear hb1 hbA;go_wp2_with (at_builtin;(refine wpList_append_lies (P:=Zb) _ rfl _ _ 49 rfl w.heap.size 53 i0 _ 4 40 underlying49 HI0.o HZ0.o HZ1.o HZ2.o rfl (by decide) (.slice oa done.length oc) done.length (done.flatMap Ha) rfl HOWN2.o ⟨w1.heap.size,0,none⟩ 1 1 (Ha ⟨5,[],0,(n:Int)+(F:Int)⟩) rfl rfl HNEW.o.news (Pd _) (by decide) (by unfold maxLen;omega) (by omega) (by have:=HB2.o.size;exact this) _ rfl ?_;intro g cap w11 hown hgrow hat hlt11;have HB11:=Za (Pl HB2.o hgrow (fun k e=>(HOB.o k e).1) HB2.o.size);have HS:=Za (Gg.snoc ⟨5,[],0,(n:Int)+(F:Int)⟩ hown);clear hown hgrow hat))
    go_ret3
    refine Kw.okE HE.o HB11.o ⟨_,rfl,?_⟩;have hs:=HS.o;rw[HN.o]at hs;have hl9:(done++[(⟨5,[],0,((n+F:Nat):Int)⟩:Tk)]).length=done.length+1:=by simp
    exact hs
   |cons c0 t0=>
    have hne:c0::t0≠[]:=by simp
    have HTK:=Za fun w1 h=>dN (c0::t0) hne (by omega) w1 h
    have hc:=HCB.o;rw[if_pos rfl,if_neg hne]at hc;have htk:=fun k x n (h:Ko (c0::t0)=some (k,x,n))=>tokF_ok h
    have hre:(c0::t0).isEmpty=false:=rfl;obtain⟨r,hr⟩:∃r,c0::t0=r:=⟨_,rfl⟩;rw[hr]at HSK HTK hc htk hre hroom;obtain⟨o,ho⟩:∃o,Ko r=o:=⟨_,rfl⟩;rw[ho]at HTK hc htk;have HC:=Za hc;have HTX:=Za htk;have HRO:=Za hroom;have HXS:=Za (Nb r);clear hr ho hc hne htk hroom;go_wp2_with fail
    refine HSK.o.mono ?_;rintro e w1 ⟨rfl,hb1⟩;have HB1:=Za (HB.o.trans (hb1.mono HB.o.size));have HL2:=Za (HL1.o.old hb1);have HOWN1:=Za (Jo HOWN.o hb1);have hsz1:=hb1.size;have HO:=Za (Ag.new w1 [.int .i64 0,.string ⟨#[]⟩,.int .i64 0,.int .i64 0] 53);have hbA:Below w1.heap.size w1 (w1.alloc (.cells #[.int .i64 0,.string ⟨#[]⟩,.int .i64 0,.int .i64 0] 53)):=bA;have HL3:=Za (HL2.o.old hbA);have HB2:=Za (HB1.o.trans (hbA.mono HB1.o.size));have HOWN2:=Za (Jo HOWN1.o hbA);have hge:w.heap.size≤w1.heap.size:=HB1.o.size;clear hb1 hbA;go_wp2_with fail
    refine(HTK.o _ HL3.o).mono ?_;rintro e w3 ⟨⟨k,x,nn,ok,rfl,ho⟩,hb3⟩;unfold Hz;have HO3:=Za (HO.o.old hb3);have HB3:=Za (HB2.o.trans (hb3.mono HB2.o.size));have HOWN3:=Za (Jo HOWN2.o hb3);clear hb3;have q0:=HO3.o.at 0 _ rfl;have f0:=HO3.o.fz 0;have qq1:=HO3.o.at 1 _ rfl;have f1:=HO3.o.fz 1;have q2:=HO3.o.at 2 _ rfl;have f2:=HO3.o.fz 2;have q3:=HO3.o.at 3 _ rfl;have f3:=HO3.o.fz 3;have ql:=HO3.o.lt
    cases ok with
    |false=>
     subst ho;have HE:=Za (show RES=.error (n+F)from HC.o.symm);clear HC HTX;go_wp2_with fail
     go_ret3
     refine Kw.noE HE.o ?_ (by rw[←HN.o];rfl);exact Fc (Fc (Fc (Fc HB3.o hge _ _) hge _ _) hge _ _) hge _ _
    |true=>
     subst ho;obtain⟨x1,x2,x3,x4⟩:=HTX.o k x nn rfl;have hxl:=congrArg List.length x2;rw[Zf]at hxl;have hxp:0<x.length:=List.length_pos_iff.2 x1;have hc:=HC.o;have hcc:bU (done++[⟨k,x,nn,((n+F:Nat):Int)⟩]) (Mb f (r.drop x.length) (n+F))=RES:=by rw[Yh];exact hc
     have HCC:=Za hcc;have hx1:(x.length:Int)≤(r.length:Int):=by omega
     have hx2:x.length≤r.length:=by omega
     have HDL:Hid ((r.drop x.length).length=r.length-x.length):=Za List.length_drop;clear hc hcc x1 x2 x3 x4 hxl HC HTX;go_upto_region 14 with(fail)
     have HS:=Za (((((HO3.o.set 0 (.int .i64 k)).set 1 (.string (Aa x))).set 2 (.int .i64 nn)).set 3 (.int .i64 0)).set 3 (.int .i64 ((n:Int)+(F:Int))));have HBS:=Za (Fc (Fc (Fc (Fc (Fc HB3.o hge 0 (.int .i64 k)) hge 1 (.string (Aa x))) hge 2 (.int .i64 nn)) hge 3 (.int .i64 0)) hge 3 (.int .i64 ((n:Int)+(F:Int))));have hbo:(Value.slice oa done.length oc).ownBlock≠some w1.heap.size:=fun e=>by have:=(HOB.o _ e).2;omega
     have HBO:=Za hbo;have HOS:=Za (Le (Le (Le (Le (Le HOWN3.o hbo 0 (.int .i64 k)) hbo 1 (.string (Aa x))) hbo 2 (.int .i64 nn)) hbo 3 (.int .i64 0)) hbo 3 (.int .i64 ((n:Int)+(F:Int))));obtain⟨W,hW⟩:∃W,(((((w3.setCell ⟨w1.heap.size,0,none⟩ (.int .i64 k)).setCell ⟨w1.heap.size,1,none⟩ (.string (Aa x))).setCell ⟨w1.heap.size,2,none⟩ (.int .i64 nn)).setCell ⟨w1.heap.size,3,none⟩ (.int .i64 0)).setCell ⟨w1.heap.size,3,none⟩ (.int .i64 ((n:Int)+(F:Int))))=W:=⟨_,rfl⟩;rw[hW]at HS HBS HOS ⊢;clear hW q0 f0 qq1 f1 q2 f2 q3 f3 ql hbo;have hbA:Below W.heap.size W (W.alloc (.cells #[.int .i64 k,.string (Aa x),.int .i64 nn,.int .i64 ((n:Int)+(F:Int))] 53)):=bA;have HS2:=Za (HS.o.old hbA);have HB5:=Za (HBS.o.trans (hbA.mono HBS.o.size));have HOWN5:=Za (Jo HOS.o hbA);have HNEW:=Za (Ag.new W [.int .i64 k,.string (Aa x),.int .i64 nn,.int .i64 ((n:Int)+(F:Int))] 53);have c0:=HS.o.at 0 _ rfl;have c1:=HS.o.at 1 _ rfl;have c2:=HS.o.at 2 _ rfl;have c3:=HS.o.at 3 _ rfl;have cl:=HS.o.lt;clear hbA;go_wp2_with (at_builtin;(refine wpList_append_lies (P:=Zb) _ rfl _ _ 49 rfl w.heap.size 53 i0 _ 4 40 underlying49 HI0.o HZ0.o HZ1.o HZ2.o rfl (by decide) (.slice oa done.length oc) done.length (done.flatMap Ha) rfl HOWN5.o ⟨W.heap.size,0,none⟩ 1 1 (Ha ⟨k,x,nn,(n:Int)+(F:Int)⟩) rfl rfl HNEW.o.news (Pd _) (by decide) (by unfold maxLen;omega) (by omega) (by have:=HB5.o.size;exact this) _ rfl ?_;intro g cap w11 hown hgrow hat hlt11;have HB11:=Za (Pl HB5.o hgrow (fun k e=>(HOB.o k e).1) HB5.o.size);have HS11:=Za (Gg.snoc ⟨k,x,nn,(n:Int)+(F:Int)⟩ hown);have y1:=(HS2.o.grow hgrow HBO.o).at 1 _ rfl;have yl:=(HS2.o.grow hgrow HBO.o).lt;clear hown hgrow hat))
     rw[HXS.o _ _ rfl];go_roundw
     case rel=>
      have hro:=HRO.o;have hdl2:=HDL.o;refine⟨r.drop x.length,n+F,f,done++[⟨k,x,nn,((n+F:Nat):Int)⟩],rfl,by rw[←HN.o],?_,by omega,by rw[Zf,List.length_singleton];omega,by omega,HCC,HB11.o⟩;have hs:=HS11.o;rw[HN.o]at hs;exact hs
     case measure=>have hro:=HRO.o;have hdl2:=HDL.o;show(r.drop x.length).length<q1.length;omega
end Go.Proofs.YtfhbinbjkpfedaaGreatDoor
