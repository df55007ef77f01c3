/-
  What the parser's methods for expressions leave: contracts and endings. No condition.
-/
import Derived.Deep.OwnRows
import Derived.Test.YthcpopmmlneneaaGreatDoorPt02
import Derived.IntWalk
import Derived.Test.YthcpopmmlneneaaGreatDoorPt03
set_option linter.unusedVariables false
set_option linter.unusedSimpArgs false
namespace Go.Proofs.YthcpopmmlneneaaGreatDoor
open Go.RowKit Go.Proofs.Tryz
set_option maxHeartbeats 20000000
set_option maxRecDepth 100000
open Go renaming World→Zg,Calls→Zh
open Go.RowKit renaming Below→Zi
open Go.Lib renaming hid→Za
open SFr renaming of_below→Zb
open Go.Proofs.Tryz renaming prog→Zc
open List renaming range→Zd,length_cons→Zf
open Nat renaming le_refl→Ze
structure Tk where
 kind:Int
 text:Bs
 num:Int
 line:Int
def Hc(t:Tk):List Value:=[.int .i64 t.kind,.string (Aa t.text),.int .i64 t.num,.int .i64 t.line]
theorem xA:(Tryz.prog.info? 87).map (fun i=>(i.zero,i.size,i.bytes))=some (some (.agg #[.int .i64 0,.string ⟨#[]⟩,.int .i64 0,.int .i64 0]),4,40):=by kernel_rfl
def Fs(w:Zg)(a:Nat)(l:List Tk)(v:Value):Prop:=w.ownsRow a 87 4 v l.length (l.flatMap Hc)
theorem Fs.zero(w:Zg)(a:Nat):Fs w a [] (.slice none 0 0):=⟨rfl,.inl ⟨rfl,rfl⟩⟩
theorem Fs.ge {w:Zg}{a:Nat}{l:List Tk}{v:Value}(b:Fs w a l v){k:Nat}(c:v.ownBlock=some k):a≤k∧k<w.heap.size:=World.ownsRow.lt b k c
theorem Fs.snoc {w':Zg}{b:Nat}{l:List Tk}(a:Tk){g cap:Nat}(c:w'.ownsRow b 87 4 (.slice (some ⟨g,0,none⟩) (l.length+1) cap) (l.length+1) (l.flatMap Hc++Hc a)):
  Fs w' b (l++[a]) (.slice (some ⟨g,0,none⟩) (l.length+1) cap):=by
 unfold Fs;simpa using c
theorem Mg{a:Tk}:∀u,u∈Hc a→u.oneCell'=true:=by
 intro u b;simp only[Hc,List.mem_cons,List.not_mem_nil,or_false]at b;rcases b with rfl|rfl|rfl|rfl<;>rfl
abbrev PR(α:Type):=Except Int (α ×List Tk)
def Hh(l:List Tk):Int:=(l.head?.map (·.line)).getD 0
def isP(s:Bs)(t:Tk):Bool:=(t.kind==2||t.kind==4) && t.text==s
def Bi(s:Bs):List Tk→Option (List Tk)
 |[]=>none
 |t::r=>if isP s t=true then some r else none
def An(s:Bs)(l:List Tk):Except Int (List Tk):=match Bi s l with
 |some r=>.ok r
 |none=>.error (Hh l)
def Ks(k:Int):List Tk→PR Tk
 |[]=>.error 0
 |t::r=>if t.kind=k then .ok (t,r)else .error t.line
def Ew(l:List Tk):PR Bs:=match Ks 1 l with
 |.ok (t,r)=>.ok (t.text,r)
 |.error e=>.error e
def Fz(l:List Tk):Option (Int ×List Tk):=
 match Bi (As 17) l with
 |some r=>some (17,r)
 |none=>match Bi (As 18) l with
  |some r=>some (18,r)
  |none=>match Bi (As 19) l with
   |some r=>some (19,r)
   |none=>none
def Eg(lv:Int)(l:List Tk):Int:=match l with
 |[]=>0
 |t::_=>((((Zd 16).map fun i:Nat=>(i:Int)+1).find? fun op=>isP (As op) t && decide (lv≤Ao op))).getD 0
mutual
def Bk:Nat→Int→List Tk→PR Ex
 |0,_,l=>.error (Hh l)
 |f+1,lv,l=>match Cg f l with
  |.error e=>.error e
  |.ok (x,r)=>Gs f lv x r
def Gs:Nat→Int→Ex→List Tk→PR Ex
 |0,_,_,l=>.error (Hh l)
 |f+1,lv,x,l=>if Eg lv l=0 then .ok (x,l)else
  match Bk f (Ao (Eg lv l)+1) (l.drop 1)with
  |.error e=>.error e
  |.ok (y,r)=>Gs f lv (.mk 4 (Eg lv l) 0 [] [x,y]) r
def Cg:Nat→List Tk→PR Ex
 |0,l=>.error (Hh l)
 |f+1,l=>match Fz l with
  |some (op,r)=>(match Cg f r with
   |.error e=>.error e
   |.ok (x,r)=>.ok (.mk 3 op 0 [] [x],r))
  |none=>match Bi [40] l with
   |some r=>(match Bk f 1 r with
    |.error e=>.error e
    |.ok (x,r)=>match An [41] r with
     |.error e=>.error e
     |.ok r=>.ok (x,r))
   |none=>match Bi [114,101,97,100] l with
    |some r=>(match An [40] r with
     |.error e=>.error e
     |.ok r=>match An [41] r with
      |.error e=>.error e
      |.ok r=>.ok (.mk 7 0 0 [] [],r))
    |none=>match l with
     |[]=>.error 0
     |t::r=>if t.kind=3 then .ok (.mk 1 0 t.num [] [],r)else
      if t.kind=1 then Ei f t.text r else .error t.line
def Ei:Nat→Bs→List Tk→PR Ex
 |0,_,l=>.error (Hh l)
 |f+1,s,l=>match Bi [40] l with
  |some r=>(match In f r with
   |.error e=>.error e
   |.ok (a,r)=>.ok (.mk 5 0 0 s a,r))
  |none=>match Bi [91] l with
   |some r=>(match Bk f 1 r with
    |.error e=>.error e
    |.ok (x,r)=>match An [93] r with
     |.error e=>.error e
     |.ok r=>.ok (.mk 6 0 0 s [x],r))
   |none=>.ok (.mk 2 0 0 s [],l)
def In:Nat→List Tk→PR (List Ex)
 |0,l=>.error (Hh l)
 |f+1,l=>match Bi [41] l with
  |some r=>.ok ([],r)
  |none=>Lo f [] l
def Lo:Nat→List Ex→List Tk→PR (List Ex)
 |0,_,l=>.error (Hh l)
 |f+1,a,l=>match Bk f 1 l with
  |.error e=>.error e
  |.ok (x,r)=>match Bi [44] r with
   |some r=>Lo f (a++[x]) r
   |none=>match An [41] r with
    |.error e=>.error e
    |.ok r=>.ok (a++[x],r)
end
def Cu(f:Nat)(l:List Tk):PR Ex:=match An [40] l with
 |.error e=>.error e
 |.ok r=>match Bk f 1 r with
  |.error e=>.error e
  |.ok (x,r)=>match An [41] r with
   |.error e=>.error e
   |.ok r=>.ok (x,r)
def Bd(f:Nat)(l:List Tk):PR St:=
 match Bi [98,114,101,97,107] l with
 |some r=>.ok (.mk 5 [] [] [] [],r)
 |none=>match Bi [99,111,110,116,105,110,117,101] l with
 |some r=>.ok (.mk 6 [] [] [] [],r)
 |none=>match Bi [114,101,116,117,114,110] l with
 |some r=>(match Bk f 1 r with
  |.error e=>.error e
  |.ok (x,r)=>.ok (.mk 7 [] [x] [] [],r))
 |none=>match Bi [112,114,105,110,116] l with
 |some r=>(match Cu f r with
  |.error e=>.error e
  |.ok (x,r)=>.ok (.mk 8 [] [x] [] [],r))
 |none=>match Bi [116,114,97,112] l with
 |some r=>(match Cu f r with
  |.error e=>.error e
  |.ok (x,r)=>.ok (.mk 9 [] [x] [] [],r))
 |none=>match Ew l with
 |.error e=>.error e
 |.ok (s,l)=>match Bi [40] l with
 |some r=>(match In f r with
  |.error e=>.error e
  |.ok (a,r)=>.ok (.mk 10 [] [.mk 5 0 0 s a] [] [],r))
 |none=>match Bi [91] l with
 |some r=>(match Bk f 1 r with
  |.error e=>.error e
  |.ok (x,r)=>match An [93] r with
   |.error e=>.error e
   |.ok r=>match An [61] r with
    |.error e=>.error e
    |.ok r=>match Bk f 1 r with
     |.error e=>.error e
     |.ok (y,r)=>.ok (.mk 2 s [x,y] [] [],r))
 |none=>match An [61] l with
  |.error e=>.error e
  |.ok r=>match Bk f 1 r with
   |.error e=>.error e
   |.ok (x,r)=>.ok (.mk 1 s [x] [] [],r)
mutual
def Fa:Nat→List Tk→PR St
 |0,l=>.error (Hh l)
 |f+1,l=>match Bi [105,102] l with
  |some r=>(match Cu f r with
   |.error e=>.error e
   |.ok (x,r)=>match An [123] r with
    |.error e=>.error e
    |.ok r=>match Ep f [] r with
     |.error e=>.error e
     |.ok (a,r)=>match Bi [101,108,115,101] r with
      |none=>.ok (.mk 3 [] [x] a [],r)
      |some r=>match An [123] r with
       |.error e=>.error e
       |.ok r=>match Ep f [] r with
        |.error e=>.error e
        |.ok (b,r)=>.ok (.mk 3 [] [x] a b,r))
  |none=>match Bi [119,104,105,108,101] l with
  |some r=>(match Cu f r with
   |.error e=>.error e
   |.ok (x,r)=>match An [123] r with
    |.error e=>.error e
    |.ok r=>match Ep f [] r with
     |.error e=>.error e
     |.ok (a,r)=>.ok (.mk 4 [] [x] a [],r))
  |none=>match Bd f l with
   |.error e=>.error e
   |.ok (x,r)=>match An [59] r with
    |.error e=>.error e
    |.ok r=>.ok (x,r)
def Ep:Nat→List St→List Tk→PR (List St)
 |0,_,l=>.error (Hh l)
 |f+1,a,l=>match Bi [125] l with
  |some r=>.ok (a,r)
  |none=>match Fa f l with
   |.error e=>.error e
   |.ok (x,r)=>Ep f (a++[x]) r
end
def Mc:Nat→List Bs→List Tk→PR (List Bs)
 |0,_,l=>.error (Hh l)
 |f+1,a,l=>match An [105,110,116] l with
  |.error e=>.error e
  |.ok r=>match Ew r with
   |.error e=>.error e
   |.ok (s,r)=>match Bi [44] r with
    |some r=>Mc f (a++[s]) r
    |none=>match An [41] r with
     |.error e=>.error e
     |.ok r=>.ok (a++[s],r)
def Js:Nat→List Bs→List Tk→PR (List Bs)
 |0,_,l=>.error (Hh l)
 |f+1,a,l=>match Bi [105,110,116] l with
  |none=>.ok (a,l)
  |some r=>match Ew r with
   |.error e=>.error e
   |.ok (s,r)=>match An [59] r with
    |.error e=>.error e
    |.ok r=>Js f (a++[s]) r
def Hm(f:Nat)(s:Bs)(l:List Tk):PR Fu:=
 match(match Bi [41] l with|some r=>(.ok ([],r):PR (List Bs))|none=>Mc f [] l)with
 |.error e=>.error e
 |.ok (ps,r)=>match An [123] r with
  |.error e=>.error e
  |.ok r=>match Js f [] r with
   |.error e=>.error e
   |.ok (ls,r)=>match Ep f [] r with
    |.error e=>.error e
    |.ok (b,r)=>.ok (⟨s,ps,ls,b⟩,r)
def Kg:Nat→Pr→List Tk→PR Pr
 |0,_,l=>.error (Hh l)
 |f+1,p,l=>if(l.head?.map (·.kind)).getD 0=5 then .ok (p,l)else
  match An [105,110,116] l with
  |.error e=>.error e
  |.ok r=>match Ew r with
   |.error e=>.error e
   |.ok (s,r)=>match(if p.funcs.isEmpty=true then Bi [91] r else none)with
    |some r=>(match Ks 3 r with
     |.error e=>.error e
     |.ok (t,r)=>match An [93] r with
      |.error e=>.error e
      |.ok r=>match An [59] r with
       |.error e=>.error e
       |.ok r=>Kg f {p with arrays:=p.arrays++[⟨s,t.num⟩]} r)
    |none=>match An [40] r with
     |.error e=>.error e
     |.ok r=>match Hm f s r with
      |.error e=>.error e
      |.ok (x,r)=>Kg f {p with funcs:=p.funcs++[x]} r
theorem Bt {s:Bs}{t:Tk}{a:List Tk}(b:isP s t=true):Bi s (t::a)=some a:=by
 show(if isP s t=true then some a else none)=some a
 rw[if_pos b]
theorem Ah {s:Bs}{t:Tk}{a:List Tk}(b:isP s t=false):Bi s (t::a)=none:=by
 show(if isP s t=true then some a else none)=none
 rw[if_neg (by rw[b];decide)]
theorem Xp {s:Bs}{t:Tk}{a:List Tk}(b:isP s t=true):An s (t::a)=.ok a:=by
 unfold An;rw[Bt b]
theorem Bn {s:Bs}{l b:List Tk}(a:Bi s l=some b):b.length<l.length:=by
 cases l with
 |nil=>cases a
 |cons t l=>
  have a:(if isP s t=true then some l else none)=some b:=a;split at a
  ·injection a with a;subst a;simp
  ·cases a
theorem Bp {s:Bs}{l b:List Tk}(a:An s l=.ok b):b.length<l.length:=by
 unfold An at a
 cases ht:Bi s l with
 |none=>rw[ht]at a;cases a
 |some q=>rw[ht]at a;injection a with a;subst a;exact Bn ht
theorem Sz {k:Int}{l b:List Tk}{t:Tk}(a:Ks k l=.ok (t,b)):b.length<l.length:=by
 cases l with
 |nil=>cases a
 |cons u l=>
  have a:(if u.kind=k then Except.ok (u,l)else Except.error u.line)=.ok (t,b):=a;split at a
  ·injection a with a;injection a with d c;subst c;simp
  ·cases a
theorem Gu {l b:List Tk}{s:Bs}(a:Ew l=.ok (s,b)):b.length<l.length:=by
 unfold Ew at a
 cases hk:Ks 1 l with
 |error e=>rw[hk]at a;cases a
 |ok q=>
  obtain⟨t,q⟩:=q;rw[hk]at a;injection a with a;injection a with d c;subst c
  exact Sz hk
theorem Vn {l b:List Tk}{op:Int}(a:Fz l=some (op,b)):b.length<l.length:=by
 unfold Fz at a
 cases h1:Bi (As 17) l with
 |some q=>rw[h1]at a;injection a with a;injection a with _ a;subst a;exact Bn h1
 |none=>
  rw[h1]at a;dsimp only at a
  cases h2:Bi (As 18) l with
  |some q=>rw[h2]at a;injection a with a;injection a with _ a;subst a;exact Bn h2
  |none=>
   rw[h2]at a;dsimp only at a
   cases h3:Bi (As 19) l with
   |some q=>rw[h3]at a;injection a with a;injection a with _ a;subst a;exact Bn h3
   |none=>rw[h3]at a;cases a
theorem Cw:∀f:Nat,
  (∀lv l x c,Bk f lv l=.ok (x,c)→c.length<l.length)∧(∀lv y l x c,Gs f lv y l=.ok (x,c)→c.length≤l.length)∧(∀l x c,Cg f l=.ok (x,c)→c.length<l.length)∧
  (∀s l x c,Ei f s l=.ok (x,c)→c.length≤l.length)∧(∀l x c,In f l=.ok (x,c)→c.length<l.length)∧(∀a l x c,Lo f a l=.ok (x,c)→c.length<l.length)
 |0=>⟨fun lv l x c b=>(by cases b),fun lv y l x c b=>(by cases b),fun l x c b=>(by cases b),fun s l x c b=>(by cases b),fun l x c b=>(by cases b),fun a l x c b=>(by cases b)⟩
 |f+1=>by
  obtain⟨j,m,it,p,o,n⟩:=Cw f;refine⟨?_,?_,?_,?_,?_,?_⟩
  ·intro lv l x c b
   unfold Bk at b
   cases ht:Cg f l with
   |error e=>rw[ht]at b;cases b
   |ok q=>
    obtain⟨y,q⟩:=q;rw[ht]at b;have g:=it _ _ _ ht;have h:=m _ _ _ _ _ b;omega
  ·intro lv y l x c b
   unfold Gs at b;split at b
   ·injection b with b;injection b with _ b;subst b;exact Ze _
   ·cases hc:Bk f (Ao (Eg lv l)+1) (l.drop 1)with
    |error e=>rw[hc]at b;cases b
    |ok q=>
     obtain⟨d,q⟩:=q;rw[hc]at b;have g:=j _ _ _ _ hc;have h:=m _ _ _ _ _ b;rw[List.length_drop]at g;omega
  ·intro l x c b
   unfold Cg at b
   cases hu:Fz l with
   |some q=>
    obtain⟨op,q⟩:=q;rw[hu]at b;dsimp only at b;have i:=Vn hu
    cases ht:Cg f q with
    |error e=>rw[ht]at b;cases b
    |ok d=>
     obtain⟨y,d⟩:=d;rw[ht]at b;injection b with b;injection b with _ b;subst b
     have:=it _ _ _ ht;omega
   |none=>
    rw[hu]at b;dsimp only at b
    cases g:Bi [40] l with
    |some q=>
     rw[g]at b;dsimp only at b;have i:=Bn g
     cases hc:Bk f 1 q with
     |error e=>rw[hc]at b;cases b
     |ok d=>
      obtain⟨y,d⟩:=d;rw[hc]at b;dsimp only at b;have h:=j _ _ _ _ hc
      cases hw:An [41] d with
      |error e=>rw[hw]at b;cases b
      |ok v=>
       rw[hw]at b;injection b with b;injection b with _ b;subst b
       have:=Bp hw;omega
    |none=>
     rw[g]at b;dsimp only at b
     cases h:Bi [114,101,97,100] l with
     |some q=>
      rw[h]at b;dsimp only at b;have i:=Bn h
      cases hw:An [40] q with
      |error e=>rw[hw]at b;cases b
      |ok v=>
       rw[hw]at b;dsimp only at b;have k:=Bp hw
       cases hz:An [41] v with
       |error e=>rw[hz]at b;cases b
       |ok d=>
        rw[hz]at b;injection b with b;injection b with _ b;subst b
        have:=Bp hz;omega
     |none=>
      rw[h]at b;dsimp only at b
      cases l with
      |nil=>cases b
      |cons t l=>
       dsimp only at b;split at b
       ·injection b with b;injection b with _ b;subst b;simp
       ·split at b
        ·have:=p _ _ _ _ b;simp;omega
        ·cases b
  ·intro s l x c b
   unfold Ei at b
   cases g:Bi [40] l with
   |some q=>
    rw[g]at b;dsimp only at b;have i:=Bn g
    cases ha:In f q with
    |error e=>rw[ha]at b;cases b
    |ok d=>
     obtain⟨y,d⟩:=d;rw[ha]at b;injection b with b;injection b with _ b;subst b
     have:=o _ _ _ ha;omega
   |none=>
    rw[g]at b;dsimp only at b
    cases h:Bi [91] l with
    |some q=>
     rw[h]at b;dsimp only at b;have i:=Bn h
     cases hc:Bk f 1 q with
     |error e=>rw[hc]at b;cases b
     |ok d=>
      obtain⟨y,d⟩:=d;rw[hc]at b;dsimp only at b;have k:=j _ _ _ _ hc
      cases hw:An [93] d with
      |error e=>rw[hw]at b;cases b
      |ok v=>
       rw[hw]at b;injection b with b;injection b with _ b;subst b
       have:=Bp hw;omega
    |none=>
     rw[h]at b;injection b with b;injection b with _ b;subst b;exact Ze _
  ·intro l x c b
   unfold In at b
   cases g:Bi [41] l with
   |some q=>
    rw[g]at b;injection b with b;injection b with _ b;subst b
    exact Bn g
   |none=>rw[g]at b;exact n _ _ _ _ b
  ·intro a l x c b
   unfold Lo at b
   cases hc:Bk f 1 l with
   |error e=>rw[hc]at b;cases b
   |ok d=>
    obtain⟨y,d⟩:=d;rw[hc]at b;dsimp only at b;have k:=j _ _ _ _ hc
    cases h:Bi [44] d with
    |some q=>
     rw[h]at b;have i:=Bn h;have:=n _ _ _ _ b;omega
    |none=>
     rw[h]at b;dsimp only at b
     cases hw:An [41] d with
     |error e=>rw[hw]at b;cases b
     |ok v=>
      rw[hw]at b;injection b with b;injection b with _ b;subst b
      have:=Bp hw;omega
def Ko(w:Zg)(a:Nat):Nat→List Tk→Prop
 |_,[]=>True
 |o,t::l=>w.cell? ⟨a,o,none⟩=some (.int .i64 t.kind)∧w.cell? ⟨a,o+1,none⟩=some (.string (Aa t.text))∧w.cell? ⟨a,o+2,none⟩=some (.int .i64 t.num)∧w.cell? ⟨a,o+3,none⟩=some (.int .i64 t.line)∧Ko w a (o+4) l
theorem Ko.keep {w w':Zg}{c:Nat}(a:Db (· =c) w w'):∀ {l:List Tk} {b:Nat},Ko w c b l→Ko w' c b l
 |[],_,_=>trivial
 |t::l,b,h=>⟨a _ _ _ rfl h.1,a _ _ _ rfl h.2.1,a _ _ _ rfl h.2.2.1,a _ _ _ rfl h.2.2.2.1,Ko.keep a h.2.2.2.2⟩
def Iy:List Tk→Prop
 |[]=>False
 |[t]=>t.kind=5
 |_::u::r=>Iy (u::r)
theorem Iy.tail {t:Tk}{a:List Tk}(b:Iy (t::a))(c:t.kind≠5):Iy a:=by
 cases a with
 |nil=>exact absurd b c
 |cons u a=>exact b
theorem Iy.ne {l:List Tk}(b:Iy l):∃t a,l=t::a:=by
 cases l with
 |nil=>exact b.elim
 |cons t a=>exact⟨t,a,rfl⟩
theorem Wf {s:Bs}{t:Tk}(a:isP s t=true):t.kind≠5:=by
 intro e;unfold isP at a;rw[e]at a;simp at a
structure dH (w:Zg)(p tb o cap:Nat)(l:List Tk):Prop where
 own:Ad w p [.slice (some ⟨tb,o,none⟩) l.length cap] 113
 row:Ko w tb o l
 hcap:l.length≤cap
 fit:l.length≤1000000
 lt:tb<p
 ends:Iy l
 nums:∀t,t∈l→I64 t.num
def Ps(w:Zg)(p b:Nat)(l:List Tk):Prop:= ∃a cap,dH w p b a cap l
theorem dH.old {w w':Zg}{p d c cap:Nat}{l:List Tk}(a:dH w p d c cap l)(b:Zi w.heap.size w w'):dH w' p d c cap l:=
 ⟨a.own.old b,a.row.keep (Be b),a.hcap,a.fit,a.lt,a.ends,a.nums⟩
theorem Ps.old {w w':Zg}{p b:Nat}{l:List Tk}(a:Ps w p b l)(c:Zi w.heap.size w w'):Ps w' p b l:=by
 obtain⟨d,cap,a⟩:=a;exact⟨d,cap,a.old c⟩
theorem Ps.alloc {w:Zg}{p a:Nat}{l:List Tk}(b:Ps w p a l)(x:Obj):Ps (w.alloc x) p a l:=b.old (bA)
theorem dH.other {w:Zg}{p b c cap:Nat}{l:List Tk}(a:dH w p b c cap l){k:Nat}(d:p<k)(i:Nat)(v:Value):dH (w.setCell ⟨k,i,none⟩ v) p b c cap l:=
 ⟨a.own.other (Nat.ne_of_lt d) i v,a.row.keep (Al w (by have:=a.lt;show ¬k=b;omega) i v),a.hcap,a.fit,a.lt,a.ends,a.nums⟩
theorem Ps.other {w:Zg}{p b:Nat}{l:List Tk}(a:Ps w p b l){k:Nat}(c:p<k)(i:Nat)(v:Value):Ps (w.setCell ⟨k,i,none⟩ v) p b l:=by
 obtain⟨d,cap,a⟩:=a;exact⟨d,cap,a.other c i v⟩
theorem Ps.lt {w:Zg}{p b:Nat}{l:List Tk}(a:Ps w p b l):p<w.heap.size:=by
 obtain⟨c,cap,a⟩:=a;exact a.own.lt
theorem Ps.ends {w:Zg}{p b:Nat}{l:List Tk}(a:Ps w p b l):Iy l:=by
 obtain⟨c,cap,a⟩:=a;exact a.ends
theorem Ps.nums {w:Zg}{p b:Nat}{l:List Tk}(a:Ps w p b l):∀t,t∈l→I64 t.num:=by
 obtain⟨c,cap,a⟩:=a;exact a.nums
theorem dH.take {w:Zg}{p b c cap:Nat}{t:Tk}{d:List Tk}(a:dH w p b c cap (t::d))(e:t.kind≠5):
  Ps (w.setCell ⟨p,0,none⟩ (.slice (some ⟨b,c+4,none⟩) d.length (cap-1))) p b d∧SFr p w (w.setCell ⟨p,0,none⟩ (.slice (some ⟨b,c+4,none⟩) d.length (cap-1))):=by
 have f:=a.hcap;have g:=a.fit;have h:=a.lt;rw[Zf]at f g;refine⟨⟨c+4,cap-1,?_,?_,by omega,by omega,h,a.ends.tail e,fun x hx=>a.nums x (List.mem_cons_of_mem _ hx)⟩,⟨rfl,rfl,rfl,by simp [World.setCell],fun k _ e=>Below.heap_setCell _ _ _ _ e⟩⟩
 ·exact a.own.set 0 _
 ·exact Ko.keep (Al w (by show ¬p=b;omega) 0 _) a.row.2.2.2.2
def tkV(t:Tk):Value:=.agg #[.int .i64 t.kind,.string (Aa t.text),.int .i64 t.num,.int .i64 t.line]
def Bv(n:Int):Ending:=.panicked [{v:=.iface 110 (.agg #[.int .i64 n]),recovered:=false}]
def Gw {α:Type}(a:α→Value→Zg→Prop)(w:Zg)(p c:Nat)(b:PR α)(e:Ending)(w':Zg):Prop:=
 SFr p w w'∧match b with
  |.ok (x,l)=> ∃v,e=.returned v∧Ps w' p c l∧a x v w'
  |.error n=>e=Bv n
theorem Gy(p f:Nat)(t:Tk)(b:List Tk)(w:Zg)(a:Ps w p f (t::b)):
  Zh Zc 59 #[.pointer (some ⟨p,0,none⟩)] w fun e w'=>e=.returned (tkV t)∧Zi w.heap.size w w':=by
 obtain⟨m,cap,a⟩:=a;have d:Zi w.heap.size w (w.alloc (.cells #[ι 0,ε,ι 0,ι 0] 87)):=bA;have c:=a.old d;have g:=c.own.at 0 _ rfl;obtain⟨o,q,r,s,_⟩:=c.row;have k:=a.own.lt;have h:=a.hcap;have l:=a.lt;have i:(0:Int)<((t::b).length:Int):=by rw[Zf];omega
 have j:0<(t::b).length:=by simp
 clear a c d;generalize (t::b).length=n at*;go_enter func59,ntmps59;go_wp2;exact bodyPost_ret (v:=tkV t) (by simp [tkV,results,results59,go_sem]) rfl ⟨rfl,bA⟩
@[go_sem] theorem field_tk0 (a b c d:Value) (w:Zg):(Instr.field 87 (.agg #[a,b,c,d]) 0).run Zc w=.ok a w:=by kernel_rfl
@[go_sem] theorem field_tk1 (a b c d:Value) (w:Zg):(Instr.field 87 (.agg #[a,b,c,d]) 1).run Zc w=.ok b w:=by kernel_rfl
@[go_sem] theorem field_tk3 (a b c d:Value) (w:Zg):(Instr.field 87 (.agg #[a,b,c,d]) 3).run Zc w=.ok d w:=by kernel_rfl
theorem Ki(p d:Nat)(t:Tk)(c:List Tk)(w:Zg)(a:Ps w p d (t::c)):
  Zh Zc 60 #[.pointer (some ⟨p,0,none⟩)] w fun e w'=>e=Bv t.line∧Zi w.heap.size w w':=by
 have g:=Za (Gy p d t c w a);clear a;go_enter func60,ntmps60;go_wp2_with fail;refine g.o.mono ?_;rintro e h ⟨rfl,b⟩;unfold tkV;have f:=Za b;clear b;go_wp2;exact⟨rfl,rfl,f.o⟩
theorem Xl(p h:Nat)(t:Tk)(g:List Tk)(s:Bs)(w:Zg)(f:Ps w p h (t::g)):
  Zh Zc 104 #[.pointer (some ⟨p,0,none⟩),.string (Aa s)] w fun e w'=>e=.returned (.bool (isP s t))∧Zi w.heap.size w w':=by
 have d:=Za (Gy p h t g w f);clear f;have c:isP s t=((t.kind==2||t.kind==4) && t.text==s):=rfl;rw[c]
 cases e2:(t.kind==2)
 ·cases e4:(t.kind==4)
  ·clear c
   go_enter func104,ntmps104;go_wp2_with fail;refine d.o.mono ?_;rintro e i ⟨rfl,b⟩;unfold tkV;have a:=Za b;clear b;go_wp2;go_ret
   exact⟨rfl,a.o.alloc a.o.size _⟩
  ·have j:t.kind≠2:=by simpa using e2
   clear c;go_enter func104,ntmps104;go_wp2_with fail;refine d.o.mono ?_;rintro e i ⟨rfl,b⟩;unfold tkV;have a:=Za b;clear b;go_wp2;go_ret
   exact⟨by simp,a.o.alloc a.o.size _⟩
 ·clear c
  go_enter func104,ntmps104;go_wp2_with fail;refine d.o.mono ?_;rintro e i ⟨rfl,b⟩;unfold tkV;have a:=Za b;clear b;go_wp2;go_ret
  exact⟨by simp,a.o.alloc a.o.size _⟩
theorem Aq(p g:Nat)(t:Tk)(f:List Tk)(s:Bs)(w:Zg)(b:Ps w p g (t::f))(d:isP s t=false):
  Zh Zc 63 #[.pointer (some ⟨p,0,none⟩),.string (Aa s)] w fun e w'=>e=.returned (.bool false)∧Zi w.heap.size w w':=by
 have a:=Za (Xl p g t f s w b);rw[d]at a;clear b d;go_enter func63,ntmps63;go_wp2_with fail;refine a.o.mono ?_;rintro e i ⟨rfl,c⟩;have h:=Za c;clear c;go_wp2;go_ret
 exact⟨rfl,h.o⟩
theorem Bz(p i:Nat)(t:Tk)(b:List Tk)(s:Bs)(w:Zg)(d:Ps w p i (t::b))(h:isP s t=true):
  Zh Zc 63 #[.pointer (some ⟨p,0,none⟩),.string (Aa s)] w fun e w'=>e=.returned (.bool true)∧SFr p w w'∧Ps w' p i b:=by
 have k:=Za (Xl p i t b s w d);rw[h]at k;obtain⟨j,m⟩:=Y2 (Wf h) d;clear d h;go_enter func63,ntmps63;go_wp2_with fail;refine k.o.mono ?_;rintro e E ⟨rfl,f⟩;have l:=Za f;obtain⟨D,cap,a⟩:=m.o.old f;have c:=Za (a.take j.o);have o:=a.own.at 0 _ rfl;have F:=a.own.fz 0;have x:=a.own.lt;have r:=a.hcap;have v:=a.fit;obtain⟨n,g⟩:∃n,b.length=n:=⟨_,rfl⟩;rw[Zf,g]at o r;rw[g]at c;have y:0<n:=by
  obtain⟨u,q,rfl⟩:=(a.ends.tail j.o).ne;rw[←g];simp
 have z:(1:Int)≤(n:Int)+1:=by omega
 have A:((n:Int)+1)≤(cap:Int):=by omega
 have B:¬(cap:Int)-1=0:=by omega
 have C:¬cap-1=0:=by omega
 clear f a;go_wp2;go_ret
 exact⟨rfl,(Zb l.o).trans c.o.2,c.o.1⟩
def WEnd(w:Zg)(p b:Nat)(a:Except Int (List Tk))(e:Ending)(w':Zg):Prop:=
 SFr p w w'∧match a with
  |.ok l=>e=.returned (.tuple #[])∧Ps w' p b l
  |.error n=>e=Bv n
theorem Dn(p f:Nat)(l:List Tk)(s:Bs){w:Zg}(a:Ps w p f l)(b c:Nat)(v:w.cell? ⟨b,0,none⟩=some (.string (Aa s))):
  Zh Zc 61 #[.pointer (some ⟨p,0,none⟩),.slice (some ⟨b,0,none⟩) 1 c] w (WEnd w p f (An s l)):=by
 obtain⟨t,g,rfl⟩:=a.ends.ne
 cases hs:isP s t with
 |true=>
  rw[Xp hs];have i:=Za (Bz p f t g s w a hs);clear a hs;go_enter func61,ntmps61;go_wp2_with fail;refine wp_loop_rounds 2 ?_;rw[rounds_succ];go_wp2_with fail;refine i.o.mono ?_;rintro e n ⟨rfl,k,m⟩;obtain⟨r,h⟩:=Y2 k m;clear k m;go_wp2_with fail;rw[rounds_succ];go_wp2
  go_end0
  exact⟨r.o,rfl,h.o⟩
 |false=>
  have e:An s (t::g)=.error t.line:=by unfold An;rw[Ah hs];rfl
  rw[e];obtain⟨i,h⟩:=Y2 (Aq p f t g s w a hs) a;clear a hs e;go_enter func61,ntmps61;go_wp2_with fail;refine wp_loop_rounds 1 ?_;rw[rounds_succ];go_wp2_with fail;refine i.o.mono ?_;rintro e n ⟨rfl,d⟩;obtain⟨j,u⟩:=Y2 d (Ki p f t g n (h.o.old d));clear d;go_wp2_with fail;refine u.o.mono ?_;rintro e w2 ⟨rfl,d⟩;have q:=Za (j.o.trans (d.mono j.o.size));clear d;unfold Bv;go_wp2;exact⟨rfl,Zb q.o,rfl⟩
def Hz(s u:Bs)(l:List Tk):Except Int (List Tk):=match An s l with
 |.ok r=>An u r
 |.error e=>.error e
theorem mE {s:Bs}{t:Tk}{b:List Tk}(a:isP s t=false):An s (t::b)=.error t.line:=by
 unfold An;rw[Ah a];rfl
theorem Qj(p f:Nat)(l:List Tk)(s u:Bs){w:Zg}(i:Ps w p f l)(b c:Nat)(I:w.cell? ⟨b,0,none⟩=some (.string (Aa s)))(E:w.cell? ⟨b,1,none⟩=some (.string (Aa u)))(D:b≠p):
  Zh Zc 61 #[.pointer (some ⟨p,0,none⟩),.slice (some ⟨b,0,none⟩) 2 c] w (WEnd w p f (Hz s u l)):=by
 obtain⟨t,x,rfl⟩:=i.ends.ne
 cases hs:isP s t with
 |true=>
  have C:Iy x:=i.ends.tail (Wf hs);obtain⟨h,q,rfl⟩:=C.ne;have y:=Za (Bz p f t (h::q) s w i hs);have n:Hz s u (t::h::q)=An u (h::q):=by unfold Hz;rw[Xp hs]
  rw[n]
  cases hu:isP u h with
  |true=>
   rw[Xp hu];have B:Hid (∀a,Ps a p f (h::q)→_):=fun a k=>Bz p f h q u a k hu
   clear i hs C n hu;go_enter func61,ntmps61;go_wp2_with fail;refine wp_loop_rounds 3 ?_;rw[rounds_succ];go_wp2_with fail;refine y.o.mono ?_;rintro e a ⟨rfl,g,j⟩;obtain⟨r,m⟩:=Y2 g j;have H:=g.cell D E;clear g j;go_wp2_with fail;rw[rounds_succ];go_wp2_with fail;refine(B.o a m.o).mono ?_;rintro e w2 ⟨rfl,g,j⟩;obtain⟨v,A⟩:=Y2 (r.o.trans g) j;clear g j;go_wp2_with fail;rw[rounds_succ];go_wp2
   go_end0
   exact⟨v.o,rfl,A.o⟩
  |false=>
   rw[mE hu];have B:Hid (∀a,Ps a p f (h::q)→_):=fun a k=>Aq p f h q u a k hu
   have z:Hid (∀a,Ps a p f (h::q)→_):=fun a k=>Ki p f h q a k
   clear i hs C n hu;go_enter func61,ntmps61;go_wp2_with fail;refine wp_loop_rounds 2 ?_;rw[rounds_succ];go_wp2_with fail;refine y.o.mono ?_;rintro e a ⟨rfl,g,j⟩;obtain⟨r,m⟩:=Y2 g j;have H:=g.cell D E;clear g j;go_wp2_with fail;rw[rounds_succ];go_wp2_with fail;refine(B.o a m.o).mono ?_;rintro e w2 ⟨rfl,d⟩;obtain⟨v,A⟩:=Y2 (r.o.trans (Zb d)) (m.o.old d);clear d;go_wp2_with fail;refine(z.o w2 A.o).mono ?_;rintro e J ⟨rfl,d⟩;have F:=Za (v.o.trans (Zb d));clear d;unfold Bv;go_wp2;exact⟨rfl,F.o,rfl⟩
 |false=>
  have n:Hz s u (t::x)=.error t.line:=by unfold Hz;rw[mE hs]
  rw[n];have y:=Za (Aq p f t x s w i hs);have z:Hid (∀a,Ps a p f (t::x)→_):=fun a k=>Ki p f t x a k
  have m:=Za i;clear i hs n;go_enter func61,ntmps61;go_wp2_with fail;refine wp_loop_rounds 1 ?_;rw[rounds_succ];go_wp2_with fail;refine y.o.mono ?_;rintro e a ⟨rfl,d⟩;obtain⟨r,G⟩:=Y2 (Zb (s:=p) d) (m.o.old d);clear d;go_wp2_with fail;refine(z.o a G.o).mono ?_;rintro e w2 ⟨rfl,d⟩;have v:=Za (r.o.trans (Zb d));clear d;unfold Bv;go_wp2;exact⟨rfl,v.o,rfl⟩
def TkH(t:Tk)(v:Value)(w:Zg):Prop:=v=tkV t
theorem Nh(p g:Nat)(l:List Tk)(k:Int)(I:k≠5)(w:Zg)(h:Ps w p g l):
  Zh Zc 64 #[.pointer (some ⟨p,0,none⟩),.int .i64 k] w (Gw TkH w p g (Ks k l)):=by
 obtain⟨t,d,rfl⟩:=h.ends.ne
 by_cases hk:t.kind=k
 ·subst hk
  have o:Ks t.kind (t::d)=.ok (t,d):=by show(if t.kind=t.kind then Except.ok (t,d)else Except.error t.line)=_;rw[if_pos rfl]
  rw[o];have f:Zi w.heap.size w (w.alloc (.cells #[ι 0,ε,ι 0,ι 0] 87)):=bA;obtain⟨m,C,B,R,F,Q⟩:=Y6 f (h.old f) (Gy p g t d _ (h.old f)) (Ad.new w [ι 0,ε,ι 0,ι 0] 87) I h.lt;clear h f o I;go_enter func64,ntmps64;go_wp2_with fail;refine B.o.mono ?_;rintro e b ⟨rfl,a⟩;unfold tkV;obtain⟨S,i,r⟩:=Y3 (R.o.old a) (m.o.trans (a.mono m.o.size)) (C.o.old a);clear a;go_upto_region 2 with(fail);obtain⟨x,y⟩:∃x,b.alloc (.cells #[ι t.kind,σ t.text,ι t.num,ι t.line] 87)=x:=⟨_,rfl⟩;rw[y];have z:Zi b.heap.size b x:=y ▸ bA;have aa:=r.o.old z;obtain⟨L,T,G⟩:=Y3 (i.o.trans (z.mono i.o.size)) (S.o.old z) (y ▸ Ad.new b [ι t.kind,σ t.text,ι t.num,ι t.line] 87);clear z y;have ad:=G.o.at 0 _ rfl;go_upto_region 4 with(fail);obtain⟨E,cap,c⟩:=aa;have s:=Za (c.take F.o);have H:=c.own.at 0 _ rfl;have J:=c.own.fz 0;have am:=c.own.lt;have Z:=c.hcap;have aj:=c.fit;obtain⟨n,D⟩:∃n,d.length=n:=⟨_,rfl⟩;rw[Zf,D]at H Z;rw[D]at s;have an:0<n:=by
   obtain⟨u,q,rfl⟩:=(c.ends.tail F.o).ne;rw[←D];simp
  have ap:(1:Int)≤(n:Int)+1:=by omega
  have aq:((n:Int)+1)≤(cap:Int):=by omega
  have ar:¬(cap:Int)-1=0:=by omega
  have au:¬cap-1=0:=by omega
  clear c;go_upto_region 5 with(fail);have A:=Q.o;have ao:p<b.heap.size:=r.o.lt;have ab:p≠w.heap.size:=by omega
  have ac:p≠b.heap.size:=by omega
  obtain⟨O,j,M,P⟩:=Y4 (G.o.other (Ne.symm ac) 0 (.slice (some ⟨g,E+4,none⟩) n (cap-1))) (T.o.other (Ne.symm ab) 0 (.slice (some ⟨g,E+4,none⟩) n (cap-1))) ((Zb L.o).trans s.o.2) s.o.1;clear s H J ad;generalize x.setCell ⟨p,0,none⟩ (.slice (some ⟨g,E+4,none⟩) n (cap-1))=ae at*;obtain ⟨aw, ax, ay, az⟩ := τ4 O.o;obtain ⟨J, aA, aB, aC⟩ := τ4 j.o;have af:=j.o.fz 0;have ag:=j.o.fz 1;have ah:=j.o.fz 2;have ai:=j.o.fz 3;go_wp2_with fail;have U:=Za ((((j.o.set 0 (ι t.kind)).set 1 (σ t.text)).set 2 (ι t.num)).set 3 (ι t.line));obtain ⟨V, W, X, Y⟩ := τ4 U.o;exact bodyPost_ret (v:=tkV t) (by simp [tkV,results,results64,go_sem,V,W,X,Y]) rfl ⟨(((M.o.setNew (Ze _) _ _).setNew (Ze _) _ _).setNew (Ze _) _ _).setNew (Ze _) _ _,_,rfl,(((P.o.other A _ _).other A _ _).other A _ _).other A _ _,rfl⟩
 ·have o:Ks k (t::d)=.error t.line:=by show(if t.kind=k then Except.ok (t,d)else Except.error t.line)=_;rw[if_neg hk]
  rw[o];have f:Zi w.heap.size w (w.alloc (.cells #[ι 0,ε,ι 0,ι 0] 87)):=bA;obtain⟨m,C,B⟩:=Y3 f (h.old f) (Gy p g t d _ (h.old f));have N:Hid (∀b,Ps b p g (t::d)→_):=fun b c=>Ki p g t d b c
  have ak:(t.kind !=k)=true:=by simp [hk]
  have al:(t.kind==k)=false:=by simp [hk]
  clear h f o;go_enter func64,ntmps64;go_wp2_with fail;refine B.o.mono ?_;rintro e b ⟨rfl,a⟩;unfold tkV;obtain⟨i,r⟩:=Y2 (m.o.trans (a.mono m.o.size)) (C.o.old a);clear a;go_wp2_with fail;refine(N.o _ (r.o.alloc _)).mono ?_;rintro e av ⟨rfl,a⟩;have K:=Za ((i.o.alloc i.o.size _).trans (a.mono (i.o.alloc i.o.size _).size));clear a;unfold Bv;go_wp2;exact⟨rfl,Zb K.o,rfl⟩
def NmH(s:Bs)(v:Value)(w:Zg):Prop:=v=.string (Aa s)
theorem Gb(p i:Nat)(l:List Tk)(w:Zg)(k:Ps w p i l):
  Zh Zc 62 #[.pointer (some ⟨p,0,none⟩)] w (Gw NmH w p i (Ew l)):=by
 have g:=Za (Nh p i l 1 (by decide) w k);clear k;obtain⟨j,b⟩:∃j,Ew l=j:=⟨_,rfl⟩;rw[b];go_enter func62,ntmps62;go_wp2_with fail;refine g.o.mono ?_;intro e u d
 cases hk:Ks 1 l with
 |error n=>
  rw[hk]at d;have a:Ew l=.error n:=by unfold Ew;rw[hk]
  rw[a]at b;subst b;clear a;obtain⟨c,rfl⟩:=d;have f:=Za c;clear c g;unfold Bv;go_wp2;exact⟨rfl,f.o,rfl⟩
 |ok q=>
  obtain⟨t,s⟩:=q;rw[hk]at d;have a:Ew l=.ok (t.text,s):=by unfold Ew;rw[hk]
  rw[a]at b;subst b;clear a;obtain⟨c,v,rfl,m,h⟩:=d;obtain⟨f,r⟩:=Y2 c m;have h:v=tkV t:=h;subst h;unfold tkV;clear c m g;go_wp2;go_ret
  exact⟨f.o,_,rfl,r.o,rfl⟩
theorem lI(p b:Nat)(t:Tk)(a:List Tk)(w:Zg)(f:Ps w p b (t::a))(y:isP (As 17) t=true):
  Zh Zc 168 #[.pointer (some ⟨p,0,none⟩)] w fun e w'=>e=.returned (.int .i64 17)∧SFr p w w'∧Ps w' p b a:=by
 have q:Hid (∀c,Ps c p b (t::a)→_):=fun c r=>Bz p b t a (As 17) c r y
 have m:=Za f;clear f y;have j:=Za (SFr.refl p w);go_enter func168,ntmps168;go_wp2_with fail;refine wp_loop_rounds 1 ?_;rw[rounds_succ];go_wp2_with fail;refine(El 17).mono ?_;rintro e c ⟨rfl,d⟩;obtain⟨n,k⟩:=Y2 (m.o.old d) (j.o.trans (Zb d));clear d;go_wp2_with fail;refine(q.out _ n.o).mono ?_;rintro e w2 ⟨rfl,g,h⟩;obtain⟨i,l⟩:=Y2 (k.o.trans g) h;clear g h;go_wp2;go_ret
 exact⟨rfl,i.o,l.o⟩
theorem iY(p d:Nat)(t:Tk)(c:List Tk)(w:Zg)(h:Ps w p d (t::c))(k:isP (As 17) t=false)(y:isP (As 18) t=true):
  Zh Zc 168 #[.pointer (some ⟨p,0,none⟩)] w fun e w'=>e=.returned (.int .i64 18)∧SFr p w w'∧Ps w' p d c:=by
 have z:Hid (∀b,Ps b p d (t::c)→_):=fun b f=>Aq p d t c (As 17) b f k
 have A:Hid (∀b,Ps b p d (t::c)→_):=fun b f=>Bz p d t c (As 18) b f y
 have u:=Za h;clear h k y;have m:=Za (SFr.refl p w);go_enter func168,ntmps168;go_wp2_with fail;refine wp_loop_rounds 2 ?_;rw[rounds_succ];go_wp2_with fail;refine(El 17).mono ?_;rintro e b ⟨rfl,a⟩;obtain⟨g,n⟩:=Y2 (u.o.old a) (m.o.trans (Zb a));clear a;go_wp2_with fail;refine(z.out _ g.o).mono ?_;rintro e w2 ⟨rfl,a⟩;obtain⟨v,q⟩:=Y2 (g.o.old a) (n.o.trans (Zb a));clear a;go_wp2_with fail;rw[rounds_succ];go_wp2_with fail;refine(El 18).mono ?_;rintro e b ⟨rfl,a⟩;obtain⟨x,r⟩:=Y2 (v.o.old a) (q.o.trans (Zb a));clear a;go_wp2_with fail;refine(A.out _ x.o).mono ?_;rintro e w2 ⟨rfl,i,j⟩;obtain⟨l,s⟩:=Y2 (r.o.trans i) j;clear i j;go_wp2;go_ret
 exact⟨rfl,l.o,s.o⟩
theorem lG(p d:Nat)(t:Tk)(c:List Tk)(w:Zg)(i:Ps w p d (t::c))(l:isP (As 17) t=false)(m:isP (As 18) t=false)(y:isP (As 19) t=true):
  Zh Zc 168 #[.pointer (some ⟨p,0,none⟩)] w fun e w'=>e=.returned (.int .i64 19)∧SFr p w w'∧Ps w' p d c:=by
 have E:Hid (∀b,Ps b p d (t::c)→_):=fun b f=>Aq p d t c (As 17) b f l
 have F:Hid (∀b,Ps b p d (t::c)→_):=fun b f=>Aq p d t c (As 18) b f m
 have G:Hid (∀b,Ps b p d (t::c)→_):=fun b f=>Bz p d t c (As 19) b f y
 have A:=Za i;clear i l m y;have q:=Za (SFr.refl p w);go_enter func168,ntmps168;go_wp2_with fail;refine wp_loop_rounds 3 ?_;rw[rounds_succ];go_wp2_with fail;refine(El 17).mono ?_;rintro e b ⟨rfl,a⟩;obtain⟨g,r⟩:=Y2 (A.o.old a) (q.o.trans (Zb a));clear a;go_wp2_with fail;refine(E.out _ g.o).mono ?_;rintro e w2 ⟨rfl,a⟩;obtain⟨B,s⟩:=Y2 (g.o.old a) (r.o.trans (Zb a));clear a;go_wp2_with fail;rw[rounds_succ];go_wp2_with fail;refine(El 18).mono ?_;rintro e b ⟨rfl,a⟩;obtain⟨h,u⟩:=Y2 (B.o.old a) (s.o.trans (Zb a));clear a;go_wp2_with fail;refine(F.out _ h.o).mono ?_;rintro e w2 ⟨rfl,a⟩;obtain⟨C,v⟩:=Y2 (h.o.old a) (u.o.trans (Zb a));clear a;go_wp2_with fail;rw[rounds_succ];go_wp2_with fail;refine(El 19).mono ?_;rintro e b ⟨rfl,a⟩;obtain⟨D,x⟩:=Y2 (C.o.old a) (v.o.trans (Zb a));clear a;go_wp2_with fail;refine(G.out _ D.o).mono ?_;rintro e w2 ⟨rfl,j,k⟩;obtain⟨n,z⟩:=Y2 (x.o.trans j) k;clear j k;go_wp2;go_ret
 exact⟨rfl,n.o,z.o⟩
theorem jS(p d:Nat)(t:Tk)(c:List Tk)(w:Zg)(j:Ps w p d (t::c))(k:isP (As 17) t=false)(l:isP (As 18) t=false)(m:isP (As 19) t=false):
  Zh Zc 168 #[.pointer (some ⟨p,0,none⟩)] w fun e w'=>e=.returned (.int .i64 0)∧SFr p w w'∧Ps w' p d (t::c):=by
 have C:Hid (∀b,Ps b p d (t::c)→_):=fun b f=>Aq p d t c (As 17) b f k
 have D:Hid (∀b,Ps b p d (t::c)→_):=fun b f=>Aq p d t c (As 18) b f l
 have E:Hid (∀b,Ps b p d (t::c)→_):=fun b f=>Aq p d t c (As 19) b f m
 have y:=Za j;clear j k l m;have n:=Za (SFr.refl p w);go_enter func168,ntmps168;go_wp2_with fail;refine wp_loop_rounds 4 ?_;rw[rounds_succ];go_wp2_with fail;refine(El 17).mono ?_;rintro e b ⟨rfl,a⟩;obtain⟨g,q⟩:=Y2 (y.o.old a) (n.o.trans (Zb a));clear a;go_wp2_with fail;refine(C.out _ g.o).mono ?_;rintro e w2 ⟨rfl,a⟩;obtain⟨z,r⟩:=Y2 (g.o.old a) (q.o.trans (Zb a));clear a;go_wp2_with fail;rw[rounds_succ];go_wp2_with fail;refine(El 18).mono ?_;rintro e b ⟨rfl,a⟩;obtain⟨h,s⟩:=Y2 (z.o.old a) (r.o.trans (Zb a));clear a;go_wp2_with fail;refine(D.out _ h.o).mono ?_;rintro e w2 ⟨rfl,a⟩;obtain⟨A,u⟩:=Y2 (h.o.old a) (s.o.trans (Zb a));clear a;go_wp2_with fail;rw[rounds_succ];go_wp2_with fail;refine(El 19).mono ?_;rintro e b ⟨rfl,a⟩;obtain⟨i,v⟩:=Y2 (A.o.old a) (u.o.trans (Zb a));clear a;go_wp2_with fail;refine(E.out _ i.o).mono ?_;rintro e w2 ⟨rfl,a⟩;obtain⟨B,x⟩:=Y2 (i.o.old a) (v.o.trans (Zb a));clear a;go_wp2_with fail;rw[rounds_succ];go_wp2;go_ret
 exact⟨rfl,x.o,B.o⟩
theorem gF(lv:Int)(t:Tk)(a:List Tk):Eg lv (t::a)=((((Zd 16).map fun i:Nat=>(i:Int)+1).find? fun op=>isP (As op) t && decide (lv≤Ao op))).getD 0:=rfl
theorem find_at(f:Int→Bool)(k:Nat)(g:k<16)(p:∀j,j<k→f ((j:Int)+1)=false)(l:f ((k:Int)+1)=true):(((Zd 16).map fun i:Nat=>(i:Int)+1).find? f).getD 0=(k:Int)+1:=by
 rcases hf:((Zd 16).map fun i:Nat=>(i:Int)+1).find? f with _|op
 ·rw[List.find?_eq_none]at hf
  have:=hf ((k:Int)+1) (List.mem_map.2 ⟨k,List.mem_range.2 g,rfl⟩);rw[l]at this;simp at this
 ·rw[List.find?_eq_some_iff_append]at hf
  obtain⟨h,xs,r,b,o⟩:=hf;obtain⟨j,e,rfl⟩:=List.mem_map.1 (show op∈(Zd 16).map fun i:Nat=>(i:Int)+1 by rw[b];simp);have e:=List.mem_range.1 e;rcases Nat.lt_trichotomy j k with a|a|a
  ·rw[p j a]at h;cases h
  ·rw[a];rfl
  ·exfalso
   have q:xs.length=j:=by
    have c:((Zd 16).map fun i:Nat=>(i:Int)+1)[xs.length]? =some ((j:Int)+1):=by rw[b];simp
    rw[List.getElem?_map]at c;have m:xs.length<16:=by
     have:=congrArg List.length b;simp at this;omega
    rw[List.getElem?_range m]at c;simp at c;omega
   have n:((k:Int)+1)∈xs:=by
    have d:((Zd 16).map fun i:Nat=>(i:Int)+1)[k]? =some ((k:Int)+1):=by rw[List.getElem?_map,List.getElem?_range g];rfl
    rw[b,List.getElem?_append_left (by omega)]at d;exact List.mem_of_getElem? d
   have:=o _ n;rw[l]at this;cases this
theorem Wl(f:Int→Bool)(b:∀j:Nat,j<16→f ((j:Int)+1)=false):(((Zd 16).map fun i:Nat=>(i:Int)+1).find? f).getD 0=0:=by
 have:((Zd 16).map fun i:Nat=>(i:Int)+1).find? f=none:=by
  rw[List.find?_eq_none];intro x hx;obtain⟨j,a,rfl⟩:=List.mem_map.1 hx;rw[b j (List.mem_range.1 a)];decide
 rw[this];rfl
theorem cY(p y:Nat)(l:List Tk)(lv:Int)(w:Zg)(s:Ps w p y l):
  Zh Zc 116 #[.pointer (some ⟨p,0,none⟩),.int .i64 lv] w fun e w'=>e=.returned (.int .i64 (Eg lv l))∧Zi w.heap.size w w':=by
 obtain⟨t,B,rfl⟩:=s.ends.ne;rw[gF];obtain⟨f,v⟩:∃f:Int→Bool,f=fun op=>isP (As op) t && decide (lv≤Ao op):=⟨_,rfl⟩
 rw[←v];obtain⟨D,C,E⟩:=Y3 (Wl f) (find_at f) s;have r:Hid (∀op,f op=(isP (As op) t && decide (lv≤Ao op))):=fun op=>by rw[v]
 clear s v;generalize (((Zd 16).map fun i:Nat=>(i:Int)+1).find? f).getD 0=H at*;go_enter func116,ntmps116;go_wp2
 go_loopw [5] (fun x wr=> ∃k:Nat,k≤16∧x= ι ((k:Int)+1)∧(∀j:Nat,j<k→f ((j:Int)+1)=false)∧Zi w.heap.size w wr) (fun x _=>17-(intOf x).toNat)
 case atStart=>exact⟨0,by omega,rfl,fun j g=>by omega,Below.refl _ _⟩
 case round=>
  obtain⟨k,J,rfl,A,a⟩:=hrel;obtain⟨d,m⟩:=Y2 A a;clear A a
  by_cases hlt:k<16
  ·have L:(k:Int)+1≤16:=by omega
   have I:(0:Int)≤(k:Int)+1:=by omega
   have M:IntKind.i64.wrap ((k:Int)+1+1)=(k:Int)+1+1:=IntWalk.i64_in _ (by omega);have z:Hid (∀h,Ps h p y (t::B)→_):=fun h F=>Xl p y t B (As ((k:Int)+1)) h F
   go_wp2_with fail;refine(El ((k:Int)+1)).mono ?_;rintro e h ⟨rfl,a⟩;have n:=Za (m.o.trans (a.mono m.o.size));clear a;go_wp2_with fail;refine(z.o _ (E.o.old n.o)).mono ?_;rintro e w2 ⟨rfl,a⟩;have b:=Za (n.o.trans (a.mono n.o.size));clear a z
   cases hi:isP (As ((k:Int)+1)) t with
   |false=>
    have c:Hid (f ((k:Int)+1)=false):=by show _=_;rw[r.o,hi];rfl
    clear hi;go_wp2;go_roundw
    case rel=>exact⟨k+1,by omega,by rw[Int.natCast_succ],fun j g=>by
     rcases Nat.lt_succ_iff_lt_or_eq.1 g with u|rfl
     ·exact d.o j u
     ·exact c.o,b.o⟩
    case measure=>simp only[intOf];omega
   |true=>
    by_cases hl:lv≤Ao ((k:Int)+1)
    ·have c:Hid (f ((k:Int)+1)=true):=by show _=_;rw[r.o,hi,decide_eq_true hl];rfl
     clear hi;go_wp2_with fail;refine(Km ((k:Int)+1) _).mono ?_;rintro e G ⟨rfl,a⟩;have q:=Za (b.o.trans (a.mono b.o.size));clear a;go_wp2;go_ret
     exact⟨Iv (C.o k hlt d.o c.o).symm,q.o⟩
    ·have c:Hid (f ((k:Int)+1)=false):=by show _=_;rw[r.o,hi,decide_eq_false hl];rfl
     have K:Ao ((k:Int)+1)<lv:=by omega
     clear hi;go_wp2_with fail;refine(Km ((k:Int)+1) _).mono ?_;rintro e G ⟨rfl,a⟩;have q:=Za (b.o.trans (a.mono b.o.size));clear a;go_wp2;go_roundw
     case rel=>exact⟨k+1,by omega,by rw[Int.natCast_succ],fun j g=>by
      rcases Nat.lt_succ_iff_lt_or_eq.1 g with u|rfl
      ·exact d.o j u
      ·exact c.o,q.o⟩
     case measure=>simp only[intOf];omega
  ·obtain rfl:k=16:=by omega
   clear hlt;go_wp2;go_ret
   exact⟨Iv (D.o d.o).symm,m.o⟩
def ExH(B:Nat)(x:Ex)(v:Value)(w:Zg):Prop:= ∃s,v=exV x s∧Ag (B≤ ·) w x.args s∧I64 x.n
def ExsH(B:Nat)(l:List Ex)(v:Value)(w:Zg):Prop:=Ag (B≤ ·) w l v
def Vs(f:Nat):Prop:= ∀lv l w p a,4*l.length+2≤f→Ps w p a l→Zh Zc 78 #[.pointer (some ⟨p,0,none⟩),.int .i64 lv] w (Gw (ExH w.heap.size) w p a (Bk f lv l))
def Ol(f:Nat):Prop:= ∀l w p a,4*l.length+2≤f→Ps w p a l→Zh Zc 33 #[.pointer (some ⟨p,0,none⟩)] w (Gw (ExH w.heap.size) w p a (Bk f 1 l))
def Sm(f:Nat):Prop:= ∀l w p a,4*l.length+1≤f→Ps w p a l→Zh Zc 115 #[.pointer (some ⟨p,0,none⟩)] w (Gw (ExH w.heap.size) w p a (Cg f l))
def Wy(f:Nat):Prop:= ∀s l w p a,4*l.length+1≤f→Ps w p a l→Zh Zc 169 #[.pointer (some ⟨p,0,none⟩),.string (Aa s)] w (Gw (ExH w.heap.size) w p a (Ei f s l))
def gS(f:Nat):Prop:= ∀l w p a,4*l.length+4≤f→Ps w p a l→Zh Zc 192 #[.pointer (some ⟨p,0,none⟩)] w (Gw (ExsH w.heap.size) w p a (In f l))
theorem Ho {w:Zg}{b:Nat}{g:TypeId}{h i j k l:Value}(m:Ad w b [h,i,j,k,l] g)(a c d e f:Value):Ad (((((w.setCell ⟨b,0,none⟩ a).setCell ⟨b,1,none⟩ c).setCell ⟨b,2,none⟩ d).setCell ⟨b,3,none⟩ e).setCell ⟨b,4,none⟩ f) b [a,c,d,e,f] g:=
 ((((m.set 0 a).set 1 c).set 2 d).set 3 e).set 4 f
theorem sfr5 {p:Nat}{w h:Zg}(i:SFr p w h){b:Nat}(a:w.heap.size≤b)(c d e f g:Value):SFr p w (((((h.setCell ⟨b,0,none⟩ c).setCell ⟨b,1,none⟩ d).setCell ⟨b,2,none⟩ e).setCell ⟨b,3,none⟩ f).setCell ⟨b,4,none⟩ g):=
 ((((i.setNew a 0 c).setNew a 1 d).setNew a 2 e).setNew a 3 f).setNew a 4 g
theorem ps5 {w:Zg}{p h:Nat}{l:List Tk}(i:Ps w p h l){b:Nat}(a:p<b)(c d e f g:Value):Ps (((((w.setCell ⟨b,0,none⟩ c).setCell ⟨b,1,none⟩ d).setCell ⟨b,2,none⟩ e).setCell ⟨b,3,none⟩ f).setCell ⟨b,4,none⟩ g) p h l:=
 ((((i.other a 0 c).other a 1 d).other a 2 e).other a 3 f).other a 4 g
theorem Ha {D:Nat→Prop}(w:Zg){b:Nat}(a:¬D b)(c d e f g:Value):Db D w (((((w.setCell ⟨b,0,none⟩ c).setCell ⟨b,1,none⟩ d).setCell ⟨b,2,none⟩ e).setCell ⟨b,3,none⟩ f).setCell ⟨b,4,none⟩ g):=
 ((((Al w a 0 c).trans (Al _ a 1 d)).trans (Al _ a 2 e)).trans (Al _ a 3 f)).trans (Al _ a 4 g)
theorem Ai {w:Zg}{b:Nat}{h:TypeId}{c d e f g:Value}(a:Ad w b [c,d,e,f,g] h):(w.cell? ⟨b,0,none⟩=some c∧w.cell? ⟨b,1,none⟩=some d∧w.cell? ⟨b,2,none⟩=some e∧w.cell? ⟨b,3,none⟩=some f∧w.cell? ⟨b,4,none⟩=some g)∧
  w.frozen? ⟨b,0,none⟩=false∧w.frozen? ⟨b,1,none⟩=false∧w.frozen? ⟨b,2,none⟩=false∧w.frozen? ⟨b,3,none⟩=false∧w.frozen? ⟨b,4,none⟩=false:=
 ⟨⟨a.at 0 _ rfl,a.at 1 _ rfl,a.at 2 _ rfl,a.at 3 _ rfl,a.at 4 _ rfl⟩,a.fz 0,a.fz 1,a.fz 2,a.fz 3,a.fz 4⟩
theorem Oc {w a:Zg}{p c:Nat}{l:List Tk}{x:Ex}{s:Value}(q:p<w.heap.size)(d:SFr p w a)(e:Ps a p c l)(f:Ag (w.heap.size+1≤ ·) a x.args s)(o:I64 x.n){g h i j k:Value}:
  Gw (ExH w.heap.size) w p c (.ok (x,l)) (.returned (exV x s)) (((((a.setCell ⟨w.heap.size,0,none⟩ g).setCell ⟨w.heap.size,1,none⟩ h).setCell ⟨w.heap.size,2,none⟩ i).setCell ⟨w.heap.size,3,none⟩ j).setCell ⟨w.heap.size,4,none⟩ k):=
 ⟨sfr5 d (Ze _) _ _ _ _ _,_,rfl,ps5 e q _ _ _ _ _,_,rfl,(f.keep (Ha a (by show ¬w.heap.size+1≤w.heap.size;omega) _ _ _ _ _)).mono (fun b m=>by have:w.heap.size+1≤b:=m;omega),o⟩
theorem Ag.up {B a:Nat}{w:Zg}{l:List Ex}{v:Value}(c:Ag (B≤ ·) w l v)(d:a≤B):Ag (a≤ ·) w l v:=c.mono (fun b hx=>Nat.le_trans d hx)
theorem Oa {w:Zg}{B:Nat}{x:Ex}{s:Value}(a:Ag (B≤ ·) w x.args s)(c:I64 x.n)(b:B≤w.heap.size):
  Ag (B≤ ·) (w.alloc (.cells #[.int .i64 x.kind,.int .i64 x.op,.int .i64 x.n,.string (Aa x.name),s] 35)) [x] (.slice (some ⟨w.heap.size,0,none⟩) 1 1):=
 .one x s b (Dv.new w (Ba x s) 35) (a.old (bA)) c
theorem ex_box2 {w:Zg}{B:Nat}{x y:Ex}{s u:Value}(a:Ag (B≤ ·) w x.args s)(d:I64 x.n)(k:Ag (B≤ ·) w y.args u)(c:I64 y.n)(b:B≤w.heap.size):
  Ag (B≤ ·) (w.alloc (.cells #[.int .i64 x.kind,.int .i64 x.op,.int .i64 x.n,.string (Aa x.name),s,.int .i64 y.kind,.int .i64 y.op,.int .i64 y.n,.string (Aa y.name),u] 35)) [x,y] (.slice (some ⟨w.heap.size,0,none⟩) 2 2):=
 .two x y s u b (Dv.new w (Ba x s++Ba y u) 35) (a.old (bA)) d (k.old (bA)) c
theorem Hi(a:Zg)(b:Nat)(c d e f g:Value):(((((a.setCell ⟨b,0,none⟩ c).setCell ⟨b,1,none⟩ d).setCell ⟨b,2,none⟩ e).setCell ⟨b,3,none⟩ f).setCell ⟨b,4,none⟩ g).heap.size=a.heap.size:=by simp [World.setCell]
theorem mG {w a:Zg}{p i:Nat}{l:List Tk}{x y:Ex}{s:Value}(t:p<w.heap.size)(j:SFr p w a)(k:Ps a p i l)(m:Ag (w.heap.size+1≤ ·) a x.args s)(r:I64 x.n)(z:w.heap.size<a.heap.size)(u:y.args=[x])(v:I64 y.n){c d e f g:Value}:
  Gw (ExH w.heap.size) w p i (.ok (y,l)) (.returned (exV y (.slice (some ⟨a.heap.size,0,none⟩) 1 1))) ((((((a.setCell ⟨w.heap.size,0,none⟩ c).setCell ⟨w.heap.size,1,none⟩ d).setCell ⟨w.heap.size,2,none⟩ e).setCell ⟨w.heap.size,3,none⟩ f).setCell ⟨w.heap.size,4,none⟩ g).alloc (.cells #[.int .i64 x.kind,.int .i64 x.op,.int .i64 x.n,.string (Aa x.name),s] 35)):=by
 have o:=m.keep (Ha a (show ¬w.heap.size+1≤w.heap.size by omega) c d e f g);have h:=Oa o r (by rw[Hi];omega);rw[Hi]at h;refine⟨(sfr5 j (Ze _) c d e f g).trans (Zb (bA)),_,rfl,(ps5 k t c d e f g).alloc _,_,rfl,?_,v⟩;rw[u];exact h.mono (fun b q=>by have:w.heap.size+1≤b:=q;omega)
theorem Eo:I64 0:=⟨by decide,by decide⟩
end Go.Proofs.YthcpopmmlneneaaGreatDoor
