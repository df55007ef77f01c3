/-
  tight: what binds more strongly than all operators of two. Conditions: the parser lies in memory; the contracts of expr, named and of tight itself for shorter lists.
-/
import Derived.Deep.OwnRows
import Derived.Test.YtcfpfnoldgnloaaGreatDoorPb02
import Derived.IntWalk
import Derived.Test.YtcfpfnoldgnloaaGreatDoorPb03
set_option linter.unusedVariables false
set_option linter.unusedSimpArgs false
namespace Go.Proofs.YtcfpfnoldgnloaaGreatDoor
open Go.RowKit Go.Proofs.Tryz
set_option maxHeartbeats 20000000
set_option maxRecDepth 100000
open Go.Lib renaming hid→Za
open SFr renaming of_below→Zb
open Go.Proofs.Tryz renaming prog→Zc,ntmps118→Zh,results118→Zi
open Ae renaming new→Zd
open List renaming range→Ze,length_cons→Zf
open Nat renaming le_refl→Zg
structure Tk where
 kind:Int
 text:Bs
 num:Int
 line:Int
def Ii(t:Tk):List Value:=[.int .i64 t.kind,.string (Aa t.text),.int .i64 t.num,.int .i64 t.line]
theorem infoTk:(Tryz.prog.info? 50).map (fun i=>(i.zero,i.size,i.bytes))=some (some (.agg #[.int .i64 0,.string ⟨#[]⟩,.int .i64 0,.int .i64 0]),4,40):=by kernel_rfl
def Gt(w:World)(base:Nat)(l:List Tk)(v:Value):Prop:=w.ownsRow base 50 4 v l.length (l.flatMap Ii)
theorem Gt.zero(w:World)(base:Nat):Gt w base [] (.slice none 0 0):=⟨rfl,.inl ⟨rfl,rfl⟩⟩
theorem Gt.ge {w:World}{base:Nat}{l:List Tk}{v:Value}(h:Gt w base l v){k:Nat}(hk:v.ownBlock=some k):base≤k∧k<w.heap.size:=World.ownsRow.lt h k hk
theorem Gt.snoc {w':World}{base:Nat}{l:List Tk}(a:Tk){g cap:Nat}(hown:w'.ownsRow base 50 4 (.slice (some ⟨g,0,none⟩) (l.length+1) cap) (l.length+1) (l.flatMap Ii++Ii a)):
  Gt w' base (l++[a]) (.slice (some ⟨g,0,none⟩) (l.length+1) cap):=by
 unfold Gt;simpa using hown
theorem Un(a:Tk):∀u,u∈Ii a→u.oneCell'=true:=by
 intro u hu;simp only[Ii,List.mem_cons,List.not_mem_nil,or_false]at hu;rcases hu with rfl|rfl|rfl|rfl<;>rfl
abbrev PR(α:Type):=Except Int (α ×List Tk)
def Mf(l:List Tk):Int:=(l.head?.map (·.line)).getD 0
def isP(s:Bs)(t:Tk):Bool:=(t.kind==2||t.kind==4) && t.text==s
def Bp(s:Bs):List Tk→Option (List Tk)
 |[]=>none
 |t::r=>if isP s t=true then some r else none
def As(s:Bs)(l:List Tk):Except Int (List Tk):=match Bp s l with
 |some r=>.ok r
 |none=>.error (Mf l)
def Lv(k:Int):List Tk→PR Tk
 |[]=>.error 0
 |t::r=>if t.kind=k then .ok (t,r)else .error t.line
def Fa(l:List Tk):PR Bs:=match Lv 1 l with
 |.ok (t,r)=>.ok (t.text,r)
 |.error e=>.error e
def Fh(l:List Tk):Option (Int ×List Tk):=
 match Bp (Aw 17) l with
 |some r=>some (17,r)
 |none=>match Bp (Aw 18) l with
  |some r=>some (18,r)
  |none=>match Bp (Aw 19) l with
   |some r=>some (19,r)
   |none=>none
def Dp(lv:Int)(l:List Tk):Int:=match l with
 |[]=>0
 |t::_=>((((Ze 16).map fun i:Nat=>(i:Int)+1).find? fun op=>isP (Aw op) t && decide (lv≤Al op))).getD 0
mutual
def Bf:Nat→Int→List Tk→PR Ex
 |0,_,l=>.error (Mf l)
 |f+1,lv,l=>match Br f l with
  |.error e=>.error e
  |.ok (x,r)=>Jz f lv x r
def Jz:Nat→Int→Ex→List Tk→PR Ex
 |0,_,_,l=>.error (Mf l)
 |f+1,lv,x,l=>if Dp lv l=0 then .ok (x,l)else
  match Bf f (Al (Dp lv l)+1) (l.drop 1)with
  |.error e=>.error e
  |.ok (y,r)=>Jz f lv (.mk 4 (Dp lv l) 0 [] [x,y]) r
def Br:Nat→List Tk→PR Ex
 |0,l=>.error (Mf l)
 |f+1,l=>match Fh l with
  |some (op,r)=>(match Br f r with
   |.error e=>.error e
   |.ok (x,r)=>.ok (.mk 3 op 0 [] [x],r))
  |none=>match Bp [40] l with
   |some r=>(match Bf f 1 r with
    |.error e=>.error e
    |.ok (x,r)=>match As [41] r with
     |.error e=>.error e
     |.ok r=>.ok (x,r))
   |none=>match Bp [114,101,97,100] l with
    |some r=>(match As [40] r with
     |.error e=>.error e
     |.ok r=>match As [41] r with
      |.error e=>.error e
      |.ok r=>.ok (.mk 7 0 0 [] [],r))
    |none=>match l with
     |[]=>.error 0
     |t::r=>if t.kind=3 then .ok (.mk 1 0 t.num [] [],r)else
      if t.kind=1 then Dj f t.text r else .error t.line
def Dj:Nat→Bs→List Tk→PR Ex
 |0,_,l=>.error (Mf l)
 |f+1,s,l=>match Bp [40] l with
  |some r=>(match Hg f r with
   |.error e=>.error e
   |.ok (a,r)=>.ok (.mk 5 0 0 s a,r))
  |none=>match Bp [91] l with
   |some r=>(match Bf f 1 r with
    |.error e=>.error e
    |.ok (x,r)=>match As [93] r with
     |.error e=>.error e
     |.ok r=>.ok (.mk 6 0 0 s [x],r))
   |none=>.ok (.mk 2 0 0 s [],l)
def Hg:Nat→List Tk→PR (List Ex)
 |0,l=>.error (Mf l)
 |f+1,l=>match Bp [41] l with
  |some r=>.ok ([],r)
  |none=>Jv f [] l
def Jv:Nat→List Ex→List Tk→PR (List Ex)
 |0,_,l=>.error (Mf l)
 |f+1,a,l=>match Bf f 1 l with
  |.error e=>.error e
  |.ok (x,r)=>match Bp [44] r with
   |some r=>Jv f (a++[x]) r
   |none=>match As [41] r with
    |.error e=>.error e
    |.ok r=>.ok (a++[x],r)
end
def Cr(f:Nat)(l:List Tk):PR Ex:=match As [40] l with
 |.error e=>.error e
 |.ok r=>match Bf f 1 r with
  |.error e=>.error e
  |.ok (x,r)=>match As [41] r with
   |.error e=>.error e
   |.ok r=>.ok (x,r)
def Av(f:Nat)(l:List Tk):PR St:=
 match Bp [98,114,101,97,107] l with
 |some r=>.ok (.mk 5 [] [] [] [],r)
 |none=>match Bp [99,111,110,116,105,110,117,101] l with
 |some r=>.ok (.mk 6 [] [] [] [],r)
 |none=>match Bp [114,101,116,117,114,110] l with
 |some r=>(match Bf f 1 r with
  |.error e=>.error e
  |.ok (x,r)=>.ok (.mk 7 [] [x] [] [],r))
 |none=>match Bp [112,114,105,110,116] l with
 |some r=>(match Cr f r with
  |.error e=>.error e
  |.ok (x,r)=>.ok (.mk 8 [] [x] [] [],r))
 |none=>match Bp [116,114,97,112] l with
 |some r=>(match Cr f r with
  |.error e=>.error e
  |.ok (x,r)=>.ok (.mk 9 [] [x] [] [],r))
 |none=>match Fa l with
 |.error e=>.error e
 |.ok (s,l)=>match Bp [40] l with
 |some r=>(match Hg f r with
  |.error e=>.error e
  |.ok (a,r)=>.ok (.mk 10 [] [.mk 5 0 0 s a] [] [],r))
 |none=>match Bp [91] l with
 |some r=>(match Bf f 1 r with
  |.error e=>.error e
  |.ok (x,r)=>match As [93] r with
   |.error e=>.error e
   |.ok r=>match As [61] r with
    |.error e=>.error e
    |.ok r=>match Bf f 1 r with
     |.error e=>.error e
     |.ok (y,r)=>.ok (.mk 2 s [x,y] [] [],r))
 |none=>match As [61] l with
  |.error e=>.error e
  |.ok r=>match Bf f 1 r with
   |.error e=>.error e
   |.ok (x,r)=>.ok (.mk 1 s [x] [] [],r)
mutual
def Dl:Nat→List Tk→PR St
 |0,l=>.error (Mf l)
 |f+1,l=>match Bp [105,102] l with
  |some r=>(match Cr f r with
   |.error e=>.error e
   |.ok (x,r)=>match As [123] r with
    |.error e=>.error e
    |.ok r=>match Dr f [] r with
     |.error e=>.error e
     |.ok (a,r)=>match Bp [101,108,115,101] r with
      |none=>.ok (.mk 3 [] [x] a [],r)
      |some r=>match As [123] r with
       |.error e=>.error e
       |.ok r=>match Dr f [] r with
        |.error e=>.error e
        |.ok (b,r)=>.ok (.mk 3 [] [x] a b,r))
  |none=>match Bp [119,104,105,108,101] l with
  |some r=>(match Cr f r with
   |.error e=>.error e
   |.ok (x,r)=>match As [123] r with
    |.error e=>.error e
    |.ok r=>match Dr f [] r with
     |.error e=>.error e
     |.ok (a,r)=>.ok (.mk 4 [] [x] a [],r))
  |none=>match Av f l with
   |.error e=>.error e
   |.ok (x,r)=>match As [59] r with
    |.error e=>.error e
    |.ok r=>.ok (x,r)
def Dr:Nat→List St→List Tk→PR (List St)
 |0,_,l=>.error (Mf l)
 |f+1,a,l=>match Bp [125] l with
  |some r=>.ok (a,r)
  |none=>match Dl f l with
   |.error e=>.error e
   |.ok (x,r)=>Dr f (a++[x]) r
end
def Kr:Nat→List Bs→List Tk→PR (List Bs)
 |0,_,l=>.error (Mf l)
 |f+1,a,l=>match As [105,110,116] l with
  |.error e=>.error e
  |.ok r=>match Fa r with
   |.error e=>.error e
   |.ok (s,r)=>match Bp [44] r with
    |some r=>Kr f (a++[s]) r
    |none=>match As [41] r with
     |.error e=>.error e
     |.ok r=>.ok (a++[s],r)
def Hq:Nat→List Bs→List Tk→PR (List Bs)
 |0,_,l=>.error (Mf l)
 |f+1,a,l=>match Bp [105,110,116] l with
  |none=>.ok (a,l)
  |some r=>match Fa r with
   |.error e=>.error e
   |.ok (s,r)=>match As [59] r with
    |.error e=>.error e
    |.ok r=>Hq f (a++[s]) r
def Gm(f:Nat)(s:Bs)(l:List Tk):PR Fu:=
 match(match Bp [41] l with|some r=>(.ok ([],r):PR (List Bs))|none=>Kr f [] l)with
 |.error e=>.error e
 |.ok (ps,r)=>match As [123] r with
  |.error e=>.error e
  |.ok r=>match Hq f [] r with
   |.error e=>.error e
   |.ok (ls,r)=>match Dr f [] r with
    |.error e=>.error e
    |.ok (b,r)=>.ok (⟨s,ps,ls,b⟩,r)
def Fm:Nat→Pr→List Tk→PR Pr
 |0,_,l=>.error (Mf l)
 |f+1,p,l=>if(l.head?.map (·.kind)).getD 0=5 then .ok (p,l)else
  match As [105,110,116] l with
  |.error e=>.error e
  |.ok r=>match Fa r with
   |.error e=>.error e
   |.ok (s,r)=>match(if p.funcs.isEmpty=true then Bp [91] r else none)with
    |some r=>(match Lv 3 r with
     |.error e=>.error e
     |.ok (t,r)=>match As [93] r with
      |.error e=>.error e
      |.ok r=>match As [59] r with
       |.error e=>.error e
       |.ok r=>Fm f {p with arrays:=p.arrays++[⟨s,t.num⟩]} r)
    |none=>match As [40] r with
     |.error e=>.error e
     |.ok r=>match Gm f s r with
      |.error e=>.error e
      |.ok (x,r)=>Fm f {p with funcs:=p.funcs++[x]} r
theorem An {s:Bs}{t:Tk}{r:List Tk}(h:isP s t=true):Bp s (t::r)=some r:=by
 show(if isP s t=true then some r else none)=some r
 rw[if_pos h]
theorem Af {s:Bs}{t:Tk}{r:List Tk}(h:isP s t=false):Bp s (t::r)=none:=by
 show(if isP s t=true then some r else none)=none
 rw[if_neg (by rw[h];decide)]
theorem Ch {s:Bs}{t:Tk}{r:List Tk}(h:isP s t=true):As s (t::r)=.ok r:=by
 unfold As;rw[An h]
theorem Cm {s:Bs}{l r:List Tk}(h:Bp s l=some r):r.length<l.length:=by
 cases l with
 |nil=>cases h
 |cons t l=>
  have h:(if isP s t=true then some l else none)=some r:=h;split at h
  ·injection h with h;subst h;simp
  ·cases h
theorem Bm {s:Bs}{l r:List Tk}(h:As s l=.ok r):r.length<l.length:=by
 unfold As at h
 cases ht:Bp s l with
 |none=>rw[ht]at h;cases h
 |some q=>rw[ht]at h;injection h with h;subst h;exact Cm ht
theorem bY {k:Int}{l r:List Tk}{t:Tk}(h:Lv k l=.ok (t,r)):r.length<l.length:=by
 cases l with
 |nil=>cases h
 |cons u l=>
  have h:(if u.kind=k then Except.ok (u,l)else Except.error u.line)=.ok (t,r):=h;split at h
  ·injection h with h;injection h with h1 h2;subst h2;simp
  ·cases h
theorem Ih {l r:List Tk}{s:Bs}(h:Fa l=.ok (s,r)):r.length<l.length:=by
 unfold Fa at h
 cases hk:Lv 1 l with
 |error e=>rw[hk]at h;cases h
 |ok q=>
  obtain⟨t,q⟩:=q;rw[hk]at h;injection h with h;injection h with h1 h2;subst h2
  exact bY hk
theorem lO {l r:List Tk}{op:Int}(h:Fh l=some (op,r)):r.length<l.length:=by
 unfold Fh at h
 cases h1:Bp (Aw 17) l with
 |some q=>rw[h1]at h;injection h with h;injection h with _ h;subst h;exact Cm h1
 |none=>
  rw[h1]at h;dsimp only at h
  cases h2:Bp (Aw 18) l with
  |some q=>rw[h2]at h;injection h with h;injection h with _ h;subst h;exact Cm h2
  |none=>
   rw[h2]at h;dsimp only at h
   cases h3:Bp (Aw 19) l with
   |some q=>rw[h3]at h;injection h with h;injection h with _ h;subst h;exact Cm h3
   |none=>rw[h3]at h;cases h
theorem Fd:∀f:Nat,
  (∀lv l x r,Bf f lv l=.ok (x,r)→r.length<l.length)∧(∀lv y l x r,Jz f lv y l=.ok (x,r)→r.length≤l.length)∧(∀l x r,Br f l=.ok (x,r)→r.length<l.length)∧
  (∀s l x r,Dj f s l=.ok (x,r)→r.length≤l.length)∧(∀l x r,Hg f l=.ok (x,r)→r.length<l.length)∧(∀a l x r,Jv f a l=.ok (x,r)→r.length<l.length)
 |0=>⟨fun lv l x r h=>(by cases h),fun lv y l x r h=>(by cases h),fun l x r h=>(by cases h),fun s l x r h=>(by cases h),fun l x r h=>(by cases h),fun a l x r h=>(by cases h)⟩
 |f+1=>by
  obtain⟨ic,il,it,inm,ia,im⟩:=Fd f;refine⟨?_,?_,?_,?_,?_,?_⟩
  ·intro lv l x r h
   unfold Bf at h
   cases ht:Br f l with
   |error e=>rw[ht]at h;cases h
   |ok q=>
    obtain⟨y,q⟩:=q;rw[ht]at h;have h1:=it _ _ _ ht;have h2:=il _ _ _ _ _ h;omega
  ·intro lv y l x r h
   unfold Jz at h;split at h
   ·injection h with h;injection h with _ h;subst h;exact Zg _
   ·cases hc:Bf f (Al (Dp lv l)+1) (l.drop 1)with
    |error e=>rw[hc]at h;cases h
    |ok q=>
     obtain⟨z,q⟩:=q;rw[hc]at h;have h1:=ic _ _ _ _ hc;have h2:=il _ _ _ _ _ h;rw[List.length_drop]at h1;omega
  ·intro l x r h
   unfold Br at h
   cases hu:Fh l with
   |some q=>
    obtain⟨op,q⟩:=q;rw[hu]at h;dsimp only at h;have h0:=lO hu
    cases ht:Br f q with
    |error e=>rw[ht]at h;cases h
    |ok z=>
     obtain⟨y,z⟩:=z;rw[ht]at h;injection h with h;injection h with _ h;subst h
     have:=it _ _ _ ht;omega
   |none=>
    rw[hu]at h;dsimp only at h
    cases h1:Bp [40] l with
    |some q=>
     rw[h1]at h;dsimp only at h;have h0:=Cm h1
     cases hc:Bf f 1 q with
     |error e=>rw[hc]at h;cases h
     |ok z=>
      obtain⟨y,z⟩:=z;rw[hc]at h;dsimp only at h;have h2:=ic _ _ _ _ hc
      cases hw:As [41] z with
      |error e=>rw[hw]at h;cases h
      |ok v=>
       rw[hw]at h;injection h with h;injection h with _ h;subst h
       have:=Bm hw;omega
    |none=>
     rw[h1]at h;dsimp only at h
     cases h2:Bp [114,101,97,100] l with
     |some q=>
      rw[h2]at h;dsimp only at h;have h0:=Cm h2
      cases hw:As [40] q with
      |error e=>rw[hw]at h;cases h
      |ok v=>
       rw[hw]at h;dsimp only at h;have h3:=Bm hw
       cases hz:As [41] v with
       |error e=>rw[hz]at h;cases h
       |ok z=>
        rw[hz]at h;injection h with h;injection h with _ h;subst h
        have:=Bm hz;omega
     |none=>
      rw[h2]at h;dsimp only at h
      cases l with
      |nil=>cases h
      |cons t l=>
       dsimp only at h;split at h
       ·injection h with h;injection h with _ h;subst h;simp
       ·split at h
        ·have:=inm _ _ _ _ h;simp;omega
        ·cases h
  ·intro s l x r h
   unfold Dj at h
   cases h1:Bp [40] l with
   |some q=>
    rw[h1]at h;dsimp only at h;have h0:=Cm h1
    cases ha:Hg f q with
    |error e=>rw[ha]at h;cases h
    |ok z=>
     obtain⟨y,z⟩:=z;rw[ha]at h;injection h with h;injection h with _ h;subst h
     have:=ia _ _ _ ha;omega
   |none=>
    rw[h1]at h;dsimp only at h
    cases h2:Bp [91] l with
    |some q=>
     rw[h2]at h;dsimp only at h;have h0:=Cm h2
     cases hc:Bf f 1 q with
     |error e=>rw[hc]at h;cases h
     |ok z=>
      obtain⟨y,z⟩:=z;rw[hc]at h;dsimp only at h;have h3:=ic _ _ _ _ hc
      cases hw:As [93] z with
      |error e=>rw[hw]at h;cases h
      |ok v=>
       rw[hw]at h;injection h with h;injection h with _ h;subst h
       have:=Bm hw;omega
    |none=>
     rw[h2]at h;injection h with h;injection h with _ h;subst h;exact Zg _
  ·intro l x r h
   unfold Hg at h
   cases h1:Bp [41] l with
   |some q=>
    rw[h1]at h;injection h with h;injection h with _ h;subst h
    exact Cm h1
   |none=>rw[h1]at h;exact im _ _ _ _ h
  ·intro a l x r h
   unfold Jv at h
   cases hc:Bf f 1 l with
   |error e=>rw[hc]at h;cases h
   |ok z=>
    obtain⟨y,z⟩:=z;rw[hc]at h;dsimp only at h;have h3:=ic _ _ _ _ hc
    cases h2:Bp [44] z with
    |some q=>
     rw[h2]at h;have h0:=Cm h2;have:=im _ _ _ _ h;omega
    |none=>
     rw[h2]at h;dsimp only at h
     cases hw:As [41] z with
     |error e=>rw[hw]at h;cases h
     |ok v=>
      rw[hw]at h;injection h with h;injection h with _ h;subst h
      have:=Bm hw;omega
def Nj(w:World)(tb:Nat):Nat→List Tk→Prop
 |_,[]=>True
 |o,t::l=>w.cell? ⟨tb,o,none⟩=some (.int .i64 t.kind)∧w.cell? ⟨tb,o+1,none⟩=some (.string (Aa t.text))∧w.cell? ⟨tb,o+2,none⟩=some (.int .i64 t.num)∧w.cell? ⟨tb,o+3,none⟩=some (.int .i64 t.line)∧Nj w tb (o+4) l
theorem Nj.keep {w w':World}{tb:Nat}(hk:Ed (· =tb) w w'):∀ {l:List Tk} {o:Nat},Nj w tb o l→Nj w' tb o l
 |[],_,_=>trivial
 |t::l,o,h=>⟨hk _ _ _ rfl h.1,hk _ _ _ rfl h.2.1,hk _ _ _ rfl h.2.2.1,hk _ _ _ rfl h.2.2.2.1,Nj.keep hk h.2.2.2.2⟩
def Kl:List Tk→Prop
 |[]=>False
 |[t]=>t.kind=5
 |_::u::r=>Kl (u::r)
theorem Kl.tail {t:Tk}{r:List Tk}(h:Kl (t::r))(hk:t.kind≠5):Kl r:=by
 cases r with
 |nil=>exact absurd h hk
 |cons u r=>exact h
theorem Kl.ne {l:List Tk}(h:Kl l):∃t r,l=t::r:=by
 cases l with
 |nil=>exact h.elim
 |cons t r=>exact⟨t,r,rfl⟩
theorem iB {s:Bs}{t:Tk}(h:isP s t=true):t.kind≠5:=by
 intro e;unfold isP at h;rw[e]at h;simp at h
structure eM (w:World)(p tb o cap:Nat)(l:List Tk):Prop where
 own:Ae w p [.slice (some ⟨tb,o,none⟩) l.length cap] 113
 row:Nj w tb o l
 hcap:l.length≤cap
 fit:l.length≤1000000
 lt:tb<p
 ends:Kl l
 nums:∀t,t∈l→I64 t.num
def Ps(w:World)(p tb:Nat)(l:List Tk):Prop:= ∃o cap,eM w p tb o cap l
theorem eM.old {w w':World}{p tb o cap:Nat}{l:List Tk}(h:eM w p tb o cap l)(hb:Below w.heap.size w w'):eM w' p tb o cap l:=
 ⟨h.own.old hb,h.row.keep (Bh hb),h.hcap,h.fit,h.lt,h.ends,h.nums⟩
theorem Ps.old {w w':World}{p tb:Nat}{l:List Tk}(h:Ps w p tb l)(hb:Below w.heap.size w w'):Ps w' p tb l:=by
 obtain⟨o,cap,h⟩:=h;exact⟨o,cap,h.old hb⟩
theorem Ps.alloc {w:World}{p tb:Nat}{l:List Tk}(h:Ps w p tb l)(x:Obj):Ps (w.alloc x) p tb l:=h.old (bA)
theorem eM.other {w:World}{p tb o cap:Nat}{l:List Tk}(h:eM w p tb o cap l){k:Nat}(hk:p<k)(i:Nat)(v:Value):eM (w.setCell ⟨k,i,none⟩ v) p tb o cap l:=
 ⟨h.own.other (Nat.ne_of_lt hk) i v,h.row.keep (Ai w (by have:=h.lt;show ¬k=tb;omega) i v),h.hcap,h.fit,h.lt,h.ends,h.nums⟩
theorem Ps.other {w:World}{p tb:Nat}{l:List Tk}(h:Ps w p tb l){k:Nat}(hk:p<k)(i:Nat)(v:Value):Ps (w.setCell ⟨k,i,none⟩ v) p tb l:=by
 obtain⟨o,cap,h⟩:=h;exact⟨o,cap,h.other hk i v⟩
theorem Ps.lt {w:World}{p tb:Nat}{l:List Tk}(h:Ps w p tb l):p<w.heap.size:=by
 obtain⟨o,cap,h⟩:=h;exact h.own.lt
theorem Ps.ends {w:World}{p tb:Nat}{l:List Tk}(h:Ps w p tb l):Kl l:=by
 obtain⟨o,cap,h⟩:=h;exact h.ends
theorem Ps.nums {w:World}{p tb:Nat}{l:List Tk}(h:Ps w p tb l):∀t,t∈l→I64 t.num:=by
 obtain⟨o,cap,h⟩:=h;exact h.nums
theorem eM.take {w:World}{p tb o cap:Nat}{t:Tk}{r:List Tk}(h:eM w p tb o cap (t::r))(hk:t.kind≠5):
  Ps (w.setCell ⟨p,0,none⟩ (.slice (some ⟨tb,o+4,none⟩) r.length (cap-1))) p tb r∧SFr p w (w.setCell ⟨p,0,none⟩ (.slice (some ⟨tb,o+4,none⟩) r.length (cap-1))):=by
 have hc:=h.hcap;have hf:=h.fit;have hl:=h.lt;rw[Zf]at hc hf;refine⟨⟨o+4,cap-1,?_,?_,by omega,by omega,hl,h.ends.tail hk,fun x hx=>h.nums x (List.mem_cons_of_mem _ hx)⟩,⟨rfl,rfl,rfl,by simp [World.setCell],fun k _ hk=>Below.heap_setCell _ _ _ _ hk⟩⟩
 ·exact h.own.set 0 _
 ·exact Nj.keep (Ai w (by show ¬p=tb;omega) 0 _) h.row.2.2.2.2
def tkV(t:Tk):Value:=.agg #[.int .i64 t.kind,.string (Aa t.text),.int .i64 t.num,.int .i64 t.line]
def Bk(n:Int):Ending:=.panicked [{v:=.iface 110 (.agg #[.int .i64 n]),recovered:=false}]
def Gu {α:Type}(H:α→Value→World→Prop)(w:World)(p tb:Nat)(r:PR α)(e:Ending)(w':World):Prop:=
 SFr p w w'∧match r with
  |.ok (x,l)=> ∃v,e=.returned v∧Ps w' p tb l∧H x v w'
  |.error n=>e=Bk n
theorem Ha(p tb:Nat)(t:Tk)(r:List Tk)(w:World)(h:Ps w p tb (t::r)):
  Calls Zc 58 #[.pointer (some ⟨p,0,none⟩)] w fun e w'=>e=.returned (tkV t)∧Below w.heap.size w w':=by
 obtain⟨o,cap,h⟩:=h;have hb1:Below w.heap.size w (w.alloc (.cells #[.int .i64 0,.string ⟨#[]⟩,.int .i64 0,.int .i64 0] 50)):=bA;have h1:=h.old hb1;have c0:=h1.own.at 0 _ rfl;obtain⟨r0,r1,r2,r3,_⟩:=h1.row;have hpl:=h.own.lt;have hcap:=h.hcap;have htl:=h.lt;have hn0:(0:Int)<((t::r).length:Int):=by rw[Zf];omega
 have hn1:0<(t::r).length:=by simp
 clear h h1 hb1;generalize (t::r).length=n at*;go_enter func58,ntmps58
 go_wp2_with fail
 exact bodyPost_ret (v:=tkV t) (by simp [tkV,results,results58,go_sem]) rfl ⟨rfl,bA⟩
@[go_sem] theorem field_tk0 (a b c d:Value) (w:World):(Instr.field 50 (.agg #[a,b,c,d]) 0).run Zc w=.ok a w:=by kernel_rfl
@[go_sem] theorem field_tk1 (a b c d:Value) (w:World):(Instr.field 50 (.agg #[a,b,c,d]) 1).run Zc w=.ok b w:=by kernel_rfl
@[go_sem] theorem field_tk3 (a b c d:Value) (w:World):(Instr.field 50 (.agg #[a,b,c,d]) 3).run Zc w=.ok d w:=by kernel_rfl
theorem Kf(p tb:Nat)(t:Tk)(r:List Tk)(w:World)(h:Ps w p tb (t::r)):
  Calls Zc 59 #[.pointer (some ⟨p,0,none⟩)] w fun e w'=>e=Bk t.line∧Below w.heap.size w w':=by
 have HN:=Za (Ha p tb t r w h);clear h;go_enter func59,ntmps59
 go_wp2_with fail
 refine HN.o.mono ?_;rintro e w1 ⟨rfl,hb⟩;unfold tkV;have HB:=Za hb;clear hb;go_wp2_with fail
 exact⟨rfl,rfl,HB.o⟩
theorem Yq(p tb:Nat)(t:Tk)(r:List Tk)(s:Bs)(w:World)(h:Ps w p tb (t::r)):
  Calls Zc 124 #[.pointer (some ⟨p,0,none⟩),.string (Aa s)] w fun e w'=>e=.returned (.bool (isP s t))∧Below w.heap.size w w':=by
 have HN:=Za (Ha p tb t r w h);clear h;have hbi:isP s t=((t.kind==2||t.kind==4) && t.text==s):=rfl;rw[hbi]
 cases e2:(t.kind==2)
 ·cases e4:(t.kind==4)
  ·clear hbi
   go_enter func124,ntmps124
   go_wp2_with fail
   refine HN.o.mono ?_;rintro e w1 ⟨rfl,hb⟩;unfold tkV;have HB:=Za hb;clear hb;go_wp2_with fail
   go_ret
   exact⟨rfl,HB.o.alloc HB.o.size _⟩
  ·have n2:t.kind≠2:=by simpa using e2
   clear hbi;go_enter func124,ntmps124
   go_wp2_with fail
   refine HN.o.mono ?_;rintro e w1 ⟨rfl,hb⟩;unfold tkV;have HB:=Za hb;clear hb;go_wp2_with fail
   go_ret
   exact⟨by simp,HB.o.alloc HB.o.size _⟩
 ·clear hbi
  go_enter func124,ntmps124
  go_wp2_with fail
  refine HN.o.mono ?_;rintro e w1 ⟨rfl,hb⟩;unfold tkV;have HB:=Za hb;clear hb;go_wp2_with fail
  go_ret
  exact⟨by simp,HB.o.alloc HB.o.size _⟩
theorem Aj(p tb:Nat)(t:Tk)(r:List Tk)(s:Bs)(w:World)(h:Ps w p tb (t::r))(hs:isP s t=false):
  Calls Zc 66 #[.pointer (some ⟨p,0,none⟩),.string (Aa s)] w fun e w'=>e=.returned (.bool false)∧Below w.heap.size w w':=by
 have HN:=Za (Yq p tb t r s w h);rw[hs]at HN;clear h hs;go_enter func66,ntmps66
 go_wp2_with fail
 refine HN.o.mono ?_;rintro e w1 ⟨rfl,hb⟩;have HB:=Za hb;clear hb;go_wp2_with fail
 go_ret
 exact⟨rfl,HB.o⟩
theorem Bq(p tb:Nat)(t:Tk)(r:List Tk)(s:Bs)(w:World)(h:Ps w p tb (t::r))(hs:isP s t=true):
  Calls Zc 66 #[.pointer (some ⟨p,0,none⟩),.string (Aa s)] w fun e w'=>e=.returned (.bool true)∧SFr p w w'∧Ps w' p tb r:=by
 have HN:=Za (Yq p tb t r s w h);rw[hs]at HN;have HK:=Za (iB hs);have HP:=Za h;clear h hs;go_enter func66,ntmps66
 go_wp2_with fail
 refine HN.o.mono ?_;rintro e w1 ⟨rfl,hb⟩;have HB:=Za hb;obtain⟨o,cap,h1⟩:=HP.o.old hb;have HT:=Za (h1.take HK.o);have c0:=h1.own.at 0 _ rfl;have z0:=h1.own.fz 0;have hpl:=h1.own.lt;have hcap:=h1.hcap;have hfit:=h1.fit;obtain⟨n,hn⟩:∃n,r.length=n:=⟨_,rfl⟩;rw[Zf,hn]at c0 hcap;rw[hn]at HT;have hr0:0<n:=by
  obtain⟨u,q,rfl⟩:=(h1.ends.tail HK.o).ne;rw[←hn];simp
 have i1:(1:Int)≤(n:Int)+1:=by omega
 have i2:((n:Int)+1)≤(cap:Int):=by omega
 have i3:¬(cap:Int)-1=0:=by omega
 have i4:¬cap-1=0:=by omega
 clear hb h1;go_wp2_with fail
 go_ret
 exact⟨rfl,(Zb HB.o).trans HT.o.2,HT.o.1⟩
def WEnd(w:World)(p tb:Nat)(r:Except Int (List Tk))(e:Ending)(w':World):Prop:=
 SFr p w w'∧match r with
  |.ok l=>e=.returned (.tuple #[])∧Ps w' p tb l
  |.error n=>e=Bk n
theorem De(p tb:Nat)(l:List Tk)(s:Bs)(w:World)(h:Ps w p tb l)(b c:Nat)(hc:w.cell? ⟨b,0,none⟩=some (.string (Aa s))):
  Calls Zc 64 #[.pointer (some ⟨p,0,none⟩),.slice (some ⟨b,0,none⟩) 1 c] w (WEnd w p tb (As s l)):=by
 obtain⟨t,r,rfl⟩:=h.ends.ne
 cases hs:isP s t with
 |true=>
  rw[Ch hs];have HT:=Za (Bq p tb t r s w h hs);clear h hs;go_enter func64,ntmps64
  go_wp2_with fail
  refine wp_loop_rounds 2 ?_;rw[rounds_succ];go_wp2_with fail
  refine HT.o.mono ?_;rintro e w1 ⟨rfl,hf,hp⟩;have HF:=Za hf;have HP:=Za hp;clear hf hp;go_wp2_with fail
  rw[rounds_succ];go_wp2_with fail
  go_end0
  exact⟨HF.o,rfl,HP.o⟩
 |false=>
  have e:As s (t::r)=.error t.line:=by unfold As;rw[Af hs];rfl
  rw[e];have HT:=Za (Aj p tb t r s w h hs);have HP:=Za h;clear h hs e;go_enter func64,ntmps64
  go_wp2_with fail
  refine wp_loop_rounds 1 ?_;rw[rounds_succ];go_wp2_with fail
  refine HT.o.mono ?_;rintro e w1 ⟨rfl,hb⟩;have HB:=Za hb;have HL:=Za (Kf p tb t r w1 (HP.o.old hb));clear hb;go_wp2_with fail
  refine HL.o.mono ?_;rintro e w2 ⟨rfl,hb⟩;have HB2:=Za (HB.o.trans (hb.mono HB.o.size));clear hb;unfold Bk;go_wp2_with fail
  exact⟨rfl,Zb HB2.o,rfl⟩
def Ie(s u:Bs)(l:List Tk):Except Int (List Tk):=match As s l with
 |.ok r=>As u r
 |.error e=>.error e
theorem mX {s:Bs}{t:Tk}{r:List Tk}(h:isP s t=false):As s (t::r)=.error t.line:=by
 unfold As;rw[Af h];rfl
theorem Rb(p tb:Nat)(l:List Tk)(s u:Bs)(w:World)(h:Ps w p tb l)(b c:Nat)(hc:w.cell? ⟨b,0,none⟩=some (.string (Aa s)))(hd:w.cell? ⟨b,1,none⟩=some (.string (Aa u)))(hbp:b≠p):
  Calls Zc 64 #[.pointer (some ⟨p,0,none⟩),.slice (some ⟨b,0,none⟩) 2 c] w (WEnd w p tb (Ie s u l)):=by
 obtain⟨t,r,rfl⟩:=h.ends.ne
 cases hs:isP s t with
 |true=>
  have hr:Kl r:=h.ends.tail (iB hs);obtain⟨t2,q,rfl⟩:=hr.ne;have HT:=Za (Bq p tb t (t2::q) s w h hs);have e1:Ie s u (t::t2::q)=As u (t2::q):=by unfold Ie;rw[Ch hs]
  rw[e1]
  cases hu:isP u t2 with
  |true=>
   rw[Ch hu];have HU:Hid (∀w1,Ps w1 p tb (t2::q)→_):=fun w1 h1=>Bq p tb t2 q u w1 h1 hu
   clear h hs hr e1 hu;go_enter func64,ntmps64
   go_wp2_with fail
   refine wp_loop_rounds 3 ?_;rw[rounds_succ];go_wp2_with fail
   refine HT.o.mono ?_;rintro e w1 ⟨rfl,hf,hp⟩;have HF:=Za hf;have HP:=Za hp;have d1:=hf.cell hbp hd;clear hf hp;go_wp2_with fail
   rw[rounds_succ];go_wp2_with fail
   refine(HU.o w1 HP.o).mono ?_;rintro e w2 ⟨rfl,hf,hp⟩;have HF2:=Za (HF.o.trans hf);have HP2:=Za hp;clear hf hp;go_wp2_with fail
   rw[rounds_succ];go_wp2_with fail
   go_end0
   exact⟨HF2.o,rfl,HP2.o⟩
  |false=>
   rw[mX hu];have HU:Hid (∀w1,Ps w1 p tb (t2::q)→_):=fun w1 h1=>Aj p tb t2 q u w1 h1 hu
   have HL:Hid (∀w1,Ps w1 p tb (t2::q)→_):=fun w1 h1=>Kf p tb t2 q w1 h1
   clear h hs hr e1 hu;go_enter func64,ntmps64
   go_wp2_with fail
   refine wp_loop_rounds 2 ?_;rw[rounds_succ];go_wp2_with fail
   refine HT.o.mono ?_;rintro e w1 ⟨rfl,hf,hp⟩;have HF:=Za hf;have HP:=Za hp;have d1:=hf.cell hbp hd;clear hf hp;go_wp2_with fail
   rw[rounds_succ];go_wp2_with fail
   refine(HU.o w1 HP.o).mono ?_;rintro e w2 ⟨rfl,hb⟩;have HF2:=Za (HF.o.trans (Zb hb));have HP2:=Za (HP.o.old hb);clear hb;go_wp2_with fail
   refine(HL.o w2 HP2.o).mono ?_;rintro e w3 ⟨rfl,hb⟩;have HF3:=Za (HF2.o.trans (Zb hb));clear hb;unfold Bk;go_wp2_with fail
   exact⟨rfl,HF3.o,rfl⟩
 |false=>
  have e1:Ie s u (t::r)=.error t.line:=by unfold Ie;rw[mX hs]
  rw[e1];have HT:=Za (Aj p tb t r s w h hs);have HL:Hid (∀w1,Ps w1 p tb (t::r)→_):=fun w1 h1=>Kf p tb t r w1 h1
  have HP:=Za h;clear h hs e1;go_enter func64,ntmps64
  go_wp2_with fail
  refine wp_loop_rounds 1 ?_;rw[rounds_succ];go_wp2_with fail
  refine HT.o.mono ?_;rintro e w1 ⟨rfl,hb⟩;have HF:=Za (Zb (s:=p) hb);have HP1:=Za (HP.o.old hb);clear hb;go_wp2_with fail
  refine(HL.o w1 HP1.o).mono ?_;rintro e w2 ⟨rfl,hb⟩;have HF2:=Za (HF.o.trans (Zb hb));clear hb;unfold Bk;go_wp2_with fail
  exact⟨rfl,HF2.o,rfl⟩
def TkH(t:Tk)(v:Value)(w:World):Prop:=v=tkV t
theorem Nt(p tb:Nat)(l:List Tk)(k:Int)(hk5:k≠5)(w:World)(h:Ps w p tb l):
  Calls Zc 67 #[.pointer (some ⟨p,0,none⟩),.int .i64 k] w (Gu TkH w p tb (Lv k l)):=by
 obtain⟨t,r,rfl⟩:=h.ends.ne
 by_cases hk:t.kind=k
 ·subst hk
  have e1:Lv t.kind (t::r)=.ok (t,r):=by show(if t.kind=t.kind then Except.ok (t,r)else Except.error t.line)=_;rw[if_pos rfl]
  rw[e1];have hb1:Below w.heap.size w (w.alloc (.cells #[.int .i64 0,.string ⟨#[]⟩,.int .i64 0,.int .i64 0] 50)):=bA;have HB:=Za hb1;have HP:=Za (h.old hb1);have HN:=Za (Ha p tb t r _ (h.old hb1));have HR:=Za (Zd w [.int .i64 0,.string ⟨#[]⟩,.int .i64 0,.int .i64 0] 50);have HK:=Za hk5;have HPW:=Za h.lt;clear h hb1 e1 hk5;go_enter func67,ntmps67
  go_wp2_with fail
  refine HN.o.mono ?_;rintro e w1 ⟨rfl,hb⟩;unfold tkV;have HR1:=Za (HR.o.old hb);have HB1:=Za (HB.o.trans (hb.mono HB.o.size));have HP1:=Za (HP.o.old hb);clear hb;go_upto_region 2 with(fail)
  obtain⟨W,hW⟩:∃W,w1.alloc (.cells #[.int .i64 t.kind,.string (Aa t.text),.int .i64 t.num,.int .i64 t.line] 50)=W:=⟨_,rfl⟩;rw[hW];have hba:Below w1.heap.size w1 W:=hW ▸ bA;have hps:=HP1.o.old hba;have HBW:=Za (HB1.o.trans (hba.mono HB1.o.size));have HRW:=Za (HR1.o.old hba);have HNW:=Za (hW ▸ Zd w1 [.int .i64 t.kind,.string (Aa t.text),.int .i64 t.num,.int .i64 t.line] 50);clear hba hW;have x0:=HNW.o.at 0 _ rfl;go_upto_region 4 with(fail)
  obtain⟨o,cap,h1⟩:=hps;have HT:=Za (h1.take HK.o);have c0:=h1.own.at 0 _ rfl;have z0:=h1.own.fz 0;have hpl:=h1.own.lt;have hcap:=h1.hcap;have hfit:=h1.fit;obtain⟨n,hn⟩:∃n,r.length=n:=⟨_,rfl⟩;rw[Zf,hn]at c0 hcap;rw[hn]at HT;have hr0:0<n:=by
   obtain⟨u,q,rfl⟩:=(h1.ends.tail HK.o).ne;rw[←hn];simp
  have i1:(1:Int)≤(n:Int)+1:=by omega
  have i2:((n:Int)+1)≤(cap:Int):=by omega
  have i3:¬(cap:Int)-1=0:=by omega
  have i4:¬cap-1=0:=by omega
  clear h1;go_upto_region 5 with(fail)
  have hpw:=HPW.o;have hw1:p<w1.heap.size:=HP1.o.lt;have hpx:p≠w.heap.size:=by omega
  have hpy:p≠w1.heap.size:=by omega
  have HNV:=Za (HNW.o.other (Ne.symm hpy) 0 (.slice (some ⟨tb,o+4,none⟩) n (cap-1)));have HRV:=Za (HRW.o.other (Ne.symm hpx) 0 (.slice (some ⟨tb,o+4,none⟩) n (cap-1)));have HF:=Za ((Zb HBW.o).trans HT.o.2);have HPV:=Za HT.o.1;clear HT c0 z0 x0;generalize W.setCell ⟨p,0,none⟩ (.slice (some ⟨tb,o+4,none⟩) n (cap-1))=V at*;have y0:=HNV.o.at 0 _ rfl;have y1:=HNV.o.at 1 _ rfl;have y2:=HNV.o.at 2 _ rfl;have y3:=HNV.o.at 3 _ rfl;have z0:=HRV.o.at 0 _ rfl;have z1:=HRV.o.at 1 _ rfl;have z2:=HRV.o.at 2 _ rfl;have z3:=HRV.o.at 3 _ rfl;have f0:=HRV.o.fz 0;have f1:=HRV.o.fz 1;have f2:=HRV.o.fz 2;have f3:=HRV.o.fz 3;go_wp2_with fail
  have HS:=Za ((((HRV.o.set 0 (.int .i64 t.kind)).set 1 (.string (Aa t.text))).set 2 (.int .i64 t.num)).set 3 (.int .i64 t.line));have d0:=HS.o.at 0 _ rfl;have d1:=HS.o.at 1 _ rfl;have d2:=HS.o.at 2 _ rfl;have d3:=HS.o.at 3 _ rfl;exact bodyPost_ret (v:=tkV t) (by simp [tkV,results,results67,go_sem,d0,d1,d2,d3]) rfl ⟨(((HF.o.setNew (Zg _) _ _).setNew (Zg _) _ _).setNew (Zg _) _ _).setNew (Zg _) _ _,_,rfl,(((HPV.o.other hpw _ _).other hpw _ _).other hpw _ _).other hpw _ _,rfl⟩
 ·have e1:Lv k (t::r)=.error t.line:=by show(if t.kind=k then Except.ok (t,r)else Except.error t.line)=_;rw[if_neg hk]
  rw[e1];have hb1:Below w.heap.size w (w.alloc (.cells #[.int .i64 0,.string ⟨#[]⟩,.int .i64 0,.int .i64 0] 50)):=bA;have HB:=Za hb1;have HP:=Za (h.old hb1);have HN:=Za (Ha p tb t r _ (h.old hb1));have HL:Hid (∀w1,Ps w1 p tb (t::r)→_):=fun w1 h1=>Kf p tb t r w1 h1
  have hne:(t.kind !=k)=true:=by simp [hk]
  have hne2:(t.kind==k)=false:=by simp [hk]
  clear h hb1 e1;go_enter func67,ntmps67
  go_wp2_with fail
  refine HN.o.mono ?_;rintro e w1 ⟨rfl,hb⟩;unfold tkV;have HB1:=Za (HB.o.trans (hb.mono HB.o.size));have HP1:=Za (HP.o.old hb);clear hb;go_wp2_with fail
  refine(HL.o _ (HP1.o.alloc _)).mono ?_;rintro e w3 ⟨rfl,hb⟩;have HB3:=Za ((HB1.o.alloc HB1.o.size _).trans (hb.mono (HB1.o.alloc HB1.o.size _).size));clear hb;unfold Bk;go_wp2_with fail
  exact⟨rfl,Zb HB3.o,rfl⟩
def NmH(s:Bs)(v:Value)(w:World):Prop:=v=.string (Aa s)
theorem Gd(p tb:Nat)(l:List Tk)(w:World)(h:Ps w p tb l):
  Calls Zc 65 #[.pointer (some ⟨p,0,none⟩)] w (Gu NmH w p tb (Fa l)):=by
 have HK:=Za (Nt p tb l 1 (by decide) w h);clear h;obtain⟨R,hR⟩:∃R,Fa l=R:=⟨_,rfl⟩;rw[hR];go_enter func65,ntmps65
 go_wp2_with fail
 refine HK.o.mono ?_;intro e w1 he
 cases hk:Lv 1 l with
 |error n=>
  rw[hk]at he;have e1:Fa l=.error n:=by unfold Fa;rw[hk]
  rw[e1]at hR;subst hR;clear e1;obtain⟨hf,rfl⟩:=he;have HF:=Za hf;clear hf HK;unfold Bk;go_wp2_with fail
  exact⟨rfl,HF.o,rfl⟩
 |ok q=>
  obtain⟨t,r⟩:=q;rw[hk]at he;have e1:Fa l=.ok (t.text,r):=by unfold Fa;rw[hk]
  rw[e1]at hR;subst hR;clear e1;obtain⟨hf,v,rfl,hp,hv⟩:=he;have HF:=Za hf;have HP:=Za hp;have hv:v=tkV t:=hv;subst hv;unfold tkV;clear hf hp HK;go_wp2_with fail
  go_ret
  exact⟨HF.o,_,rfl,HP.o,rfl⟩
theorem kD(p tb:Nat)(t:Tk)(r:List Tk)(w:World)(h:Ps w p tb (t::r))(y:isP (Aw 17) t=true):
  Calls Zc 162 #[.pointer (some ⟨p,0,none⟩)] w fun e w'=>e=.returned (.int .i64 17)∧SFr p w w'∧Ps w' p tb r:=by
 have Y:Hid (∀w1,Ps w1 p tb (t::r)→_):=fun w1 h1=>Bq p tb t r (Aw 17) w1 h1 y
 have HP0:=Za h;clear h y;have HF0:=Za (SFr.refl p w);go_enter func162,ntmps162
 go_wp2_with fail
 refine wp_loop_rounds 1 ?_;rw[rounds_succ];go_wp2_with fail
 refine(Ee 17 _).mono ?_;rintro e w1 ⟨rfl,hb⟩;have HP1:=Za (HP0.o.old hb);have HF1:=Za (HF0.o.trans (Zb hb));clear hb;go_wp2_with fail
 refine(Y.out _ HP1.o).mono ?_;rintro e w2 ⟨rfl,hf,hp⟩;have HF:=Za (HF1.o.trans hf);have HP:=Za hp;clear hf hp;go_wp2_with fail
 go_ret
 exact⟨rfl,HF.o,HP.o⟩
theorem mM(p tb:Nat)(t:Tk)(r:List Tk)(w:World)(h:Ps w p tb (t::r))(n17:isP (Aw 17) t=false)(y:isP (Aw 18) t=true):
  Calls Zc 162 #[.pointer (some ⟨p,0,none⟩)] w fun e w'=>e=.returned (.int .i64 18)∧SFr p w w'∧Ps w' p tb r:=by
 have N17:Hid (∀w1,Ps w1 p tb (t::r)→_):=fun w1 h1=>Aj p tb t r (Aw 17) w1 h1 n17
 have Y:Hid (∀w1,Ps w1 p tb (t::r)→_):=fun w1 h1=>Bq p tb t r (Aw 18) w1 h1 y
 have HP0:=Za h;clear h n17 y;have HF0:=Za (SFr.refl p w);go_enter func162,ntmps162
 go_wp2_with fail
 refine wp_loop_rounds 2 ?_;rw[rounds_succ];go_wp2_with fail
 refine(Ee 17 _).mono ?_;rintro e w1 ⟨rfl,hb⟩;have HP1:=Za (HP0.o.old hb);have HF1:=Za (HF0.o.trans (Zb hb));clear hb;go_wp2_with fail
 refine(N17.out _ HP1.o).mono ?_;rintro e w2 ⟨rfl,hb⟩;have HP2:=Za (HP1.o.old hb);have HF2:=Za (HF1.o.trans (Zb hb));clear hb;go_wp2_with fail
 rw[rounds_succ];go_wp2_with fail
 refine(Ee 18 _).mono ?_;rintro e w1 ⟨rfl,hb⟩;have HP3:=Za (HP2.o.old hb);have HF3:=Za (HF2.o.trans (Zb hb));clear hb;go_wp2_with fail
 refine(Y.out _ HP3.o).mono ?_;rintro e w2 ⟨rfl,hf,hp⟩;have HF:=Za (HF3.o.trans hf);have HP:=Za hp;clear hf hp;go_wp2_with fail
 go_ret
 exact⟨rfl,HF.o,HP.o⟩
theorem lY(p tb:Nat)(t:Tk)(r:List Tk)(w:World)(h:Ps w p tb (t::r))(n17:isP (Aw 17) t=false)(n18:isP (Aw 18) t=false)(y:isP (Aw 19) t=true):
  Calls Zc 162 #[.pointer (some ⟨p,0,none⟩)] w fun e w'=>e=.returned (.int .i64 19)∧SFr p w w'∧Ps w' p tb r:=by
 have N17:Hid (∀w1,Ps w1 p tb (t::r)→_):=fun w1 h1=>Aj p tb t r (Aw 17) w1 h1 n17
 have N18:Hid (∀w1,Ps w1 p tb (t::r)→_):=fun w1 h1=>Aj p tb t r (Aw 18) w1 h1 n18
 have Y:Hid (∀w1,Ps w1 p tb (t::r)→_):=fun w1 h1=>Bq p tb t r (Aw 19) w1 h1 y
 have HP0:=Za h;clear h n17 n18 y;have HF0:=Za (SFr.refl p w);go_enter func162,ntmps162
 go_wp2_with fail
 refine wp_loop_rounds 3 ?_;rw[rounds_succ];go_wp2_with fail
 refine(Ee 17 _).mono ?_;rintro e w1 ⟨rfl,hb⟩;have HP1:=Za (HP0.o.old hb);have HF1:=Za (HF0.o.trans (Zb hb));clear hb;go_wp2_with fail
 refine(N17.out _ HP1.o).mono ?_;rintro e w2 ⟨rfl,hb⟩;have HP2:=Za (HP1.o.old hb);have HF2:=Za (HF1.o.trans (Zb hb));clear hb;go_wp2_with fail
 rw[rounds_succ];go_wp2_with fail
 refine(Ee 18 _).mono ?_;rintro e w1 ⟨rfl,hb⟩;have HP3:=Za (HP2.o.old hb);have HF3:=Za (HF2.o.trans (Zb hb));clear hb;go_wp2_with fail
 refine(N18.out _ HP3.o).mono ?_;rintro e w2 ⟨rfl,hb⟩;have HP4:=Za (HP3.o.old hb);have HF4:=Za (HF3.o.trans (Zb hb));clear hb;go_wp2_with fail
 rw[rounds_succ];go_wp2_with fail
 refine(Ee 19 _).mono ?_;rintro e w1 ⟨rfl,hb⟩;have HP5:=Za (HP4.o.old hb);have HF5:=Za (HF4.o.trans (Zb hb));clear hb;go_wp2_with fail
 refine(Y.out _ HP5.o).mono ?_;rintro e w2 ⟨rfl,hf,hp⟩;have HF:=Za (HF5.o.trans hf);have HP:=Za hp;clear hf hp;go_wp2_with fail
 go_ret
 exact⟨rfl,HF.o,HP.o⟩
theorem mA(p tb:Nat)(t:Tk)(r:List Tk)(w:World)(h:Ps w p tb (t::r))(n17:isP (Aw 17) t=false)(n18:isP (Aw 18) t=false)(n19:isP (Aw 19) t=false):
  Calls Zc 162 #[.pointer (some ⟨p,0,none⟩)] w fun e w'=>e=.returned (.int .i64 0)∧SFr p w w'∧Ps w' p tb (t::r):=by
 have N17:Hid (∀w1,Ps w1 p tb (t::r)→_):=fun w1 h1=>Aj p tb t r (Aw 17) w1 h1 n17
 have N18:Hid (∀w1,Ps w1 p tb (t::r)→_):=fun w1 h1=>Aj p tb t r (Aw 18) w1 h1 n18
 have N19:Hid (∀w1,Ps w1 p tb (t::r)→_):=fun w1 h1=>Aj p tb t r (Aw 19) w1 h1 n19
 have HP0:=Za h;clear h n17 n18 n19;have HF0:=Za (SFr.refl p w);go_enter func162,ntmps162
 go_wp2_with fail
 refine wp_loop_rounds 4 ?_;rw[rounds_succ];go_wp2_with fail
 refine(Ee 17 _).mono ?_;rintro e w1 ⟨rfl,hb⟩;have HP1:=Za (HP0.o.old hb);have HF1:=Za (HF0.o.trans (Zb hb));clear hb;go_wp2_with fail
 refine(N17.out _ HP1.o).mono ?_;rintro e w2 ⟨rfl,hb⟩;have HP2:=Za (HP1.o.old hb);have HF2:=Za (HF1.o.trans (Zb hb));clear hb;go_wp2_with fail
 rw[rounds_succ];go_wp2_with fail
 refine(Ee 18 _).mono ?_;rintro e w1 ⟨rfl,hb⟩;have HP3:=Za (HP2.o.old hb);have HF3:=Za (HF2.o.trans (Zb hb));clear hb;go_wp2_with fail
 refine(N18.out _ HP3.o).mono ?_;rintro e w2 ⟨rfl,hb⟩;have HP4:=Za (HP3.o.old hb);have HF4:=Za (HF3.o.trans (Zb hb));clear hb;go_wp2_with fail
 rw[rounds_succ];go_wp2_with fail
 refine(Ee 19 _).mono ?_;rintro e w1 ⟨rfl,hb⟩;have HP5:=Za (HP4.o.old hb);have HF5:=Za (HF4.o.trans (Zb hb));clear hb;go_wp2_with fail
 refine(N19.out _ HP5.o).mono ?_;rintro e w2 ⟨rfl,hb⟩;have HP6:=Za (HP5.o.old hb);have HF6:=Za (HF5.o.trans (Zb hb));clear hb;go_wp2_with fail
 rw[rounds_succ];go_wp2_with fail
 go_ret
 exact⟨rfl,HF6.o,HP6.o⟩
theorem fH(lv:Int)(t:Tk)(r:List Tk):Dp lv (t::r)=((((Ze 16).map fun i:Nat=>(i:Int)+1).find? fun op=>isP (Aw op) t && decide (lv≤Al op))).getD 0:=rfl
theorem find_at(f:Int→Bool)(k:Nat)(hk:k<16)(hno:∀j,j<k→f ((j:Int)+1)=false)(hy:f ((k:Int)+1)=true):(((Ze 16).map fun i:Nat=>(i:Int)+1).find? f).getD 0=(k:Int)+1:=by
 rcases hf:((Ze 16).map fun i:Nat=>(i:Int)+1).find? f with _|op
 ·rw[List.find?_eq_none]at hf
  have:=hf ((k:Int)+1) (List.mem_map.2 ⟨k,List.mem_range.2 hk,rfl⟩);rw[hy]at this;simp at this
 ·rw[List.find?_eq_some_iff_append]at hf
  obtain⟨ho,xs,ys,hl,hn⟩:=hf;obtain⟨j,hj,rfl⟩:=List.mem_map.1 (show op∈(Ze 16).map fun i:Nat=>(i:Int)+1 by rw[hl];simp);have hj:=List.mem_range.1 hj;rcases Nat.lt_trichotomy j k with h|h|h
  ·rw[hno j h]at ho;cases ho
  ·rw[h];rfl
  ·exfalso
   have e1:xs.length=j:=by
    have g1:((Ze 16).map fun i:Nat=>(i:Int)+1)[xs.length]? =some ((j:Int)+1):=by rw[hl];simp
    rw[List.getElem?_map]at g1;have hlt:xs.length<16:=by
     have:=congrArg List.length hl;simp at this;omega
    rw[List.getElem?_range hlt]at g1;simp at g1;omega
   have hm:((k:Int)+1)∈xs:=by
    have g2:((Ze 16).map fun i:Nat=>(i:Int)+1)[k]? =some ((k:Int)+1):=by rw[List.getElem?_map,List.getElem?_range hk];rfl
    rw[hl,List.getElem?_append_left (by omega)]at g2;exact List.mem_of_getElem? g2
   have:=hn _ hm;rw[hy]at this;cases this
theorem Xn(f:Int→Bool)(hno:∀j:Nat,j<16→f ((j:Int)+1)=false):(((Ze 16).map fun i:Nat=>(i:Int)+1).find? f).getD 0=0:=by
 have:((Ze 16).map fun i:Nat=>(i:Int)+1).find? f=none:=by
  rw[List.find?_eq_none];intro x hx;obtain⟨j,hj,rfl⟩:=List.mem_map.1 hx;rw[hno j (List.mem_range.1 hj)];decide
 rw[this];rfl
theorem dH(p tb:Nat)(l:List Tk)(lv:Int)(w:World)(h:Ps w p tb l):
  Calls Zc 119 #[.pointer (some ⟨p,0,none⟩),.int .i64 lv] w fun e w'=>e=.returned (.int .i64 (Dp lv l))∧Below w.heap.size w w':=by
 obtain⟨t,r,rfl⟩:=h.ends.ne;rw[fH];obtain⟨f,hf⟩:∃f:Int→Bool,f=fun op=>isP (Aw op) t && decide (lv≤Al op):=⟨_,rfl⟩
 rw[←hf];have HN:=Za (Xn f);have HA:=Za (find_at f);have HPS:=Za h;have HFE:Hid (∀op,f op=(isP (Aw op) t && decide (lv≤Al op))):=fun op=>by rw[hf]
 clear h hf;generalize (((Ze 16).map fun i:Nat=>(i:Int)+1).find? f).getD 0=R at*;go_enter func119,ntmps119
 go_wp2_with fail
 go_loopw [5] (fun s5 wr=> ∃k:Nat,k≤16∧s5=.int .i64 ((k:Int)+1)∧(∀j:Nat,j<k→f ((j:Int)+1)=false)∧Below w.heap.size w wr) (fun s5 _=>17-(intOf s5).toNat)
 case atStart=>exact⟨0,by omega,rfl,fun j hj=>by omega,Below.refl _ _⟩
 case round=>
  obtain⟨k,hk,rfl,hno,hb⟩:=hrel;have HNO:=Za hno;have HB:=Za hb;clear hno hb
  by_cases hlt:k<16
  ·have hle:(k:Int)+1≤16:=by omega
   have hge:(0:Int)≤(k:Int)+1:=by omega
   have hw1:IntKind.i64.wrap ((k:Int)+1+1)=(k:Int)+1+1:=IntWalk.i64_in _ (by omega);have HI:Hid (∀w1,Ps w1 p tb (t::r)→_):=fun w1 h1=>Yq p tb t r (Aw ((k:Int)+1)) w1 h1
   go_wp2_with fail
   refine(Ee ((k:Int)+1) _).mono ?_;rintro e w1 ⟨rfl,hb⟩;have HB1:=Za (HB.o.trans (hb.mono HB.o.size));clear hb;go_wp2_with fail
   refine(HI.o _ (HPS.o.old HB1.o)).mono ?_;rintro e w2 ⟨rfl,hb⟩;have HB2:=Za (HB1.o.trans (hb.mono HB1.o.size));clear hb HI
   cases hi:isP (Aw ((k:Int)+1)) t with
   |false=>
    have HF:Hid (f ((k:Int)+1)=false):=by show _=_;rw[HFE.o,hi];rfl
    clear hi;go_wp2_with fail
    go_roundw
    case rel=>exact⟨k+1,by omega,by rw[Int.natCast_succ],fun j hj=>by
     rcases Nat.lt_succ_iff_lt_or_eq.1 hj with h'|rfl
     ·exact HNO.o j h'
     ·exact HF.o,HB2.o⟩
    case measure=>simp only[intOf];omega
   |true=>
    by_cases hl:lv≤Al ((k:Int)+1)
    ·have HF:Hid (f ((k:Int)+1)=true):=by show _=_;rw[HFE.o,hi,decide_eq_true hl];rfl
     clear hi;go_wp2_with fail
     refine(Km ((k:Int)+1) _).mono ?_;rintro e w3 ⟨rfl,hb⟩;have HB3:=Za (HB2.o.trans (hb.mono HB2.o.size));clear hb;go_wp2_with fail
     go_ret
     exact⟨Iv (HA.o k hlt HNO.o HF.o).symm,HB3.o⟩
    ·have HF:Hid (f ((k:Int)+1)=false):=by show _=_;rw[HFE.o,hi,decide_eq_false hl];rfl
     have hl':Al ((k:Int)+1)<lv:=by omega
     clear hi;go_wp2_with fail
     refine(Km ((k:Int)+1) _).mono ?_;rintro e w3 ⟨rfl,hb⟩;have HB3:=Za (HB2.o.trans (hb.mono HB2.o.size));clear hb;go_wp2_with fail
     go_roundw
     case rel=>exact⟨k+1,by omega,by rw[Int.natCast_succ],fun j hj=>by
      rcases Nat.lt_succ_iff_lt_or_eq.1 hj with h'|rfl
      ·exact HNO.o j h'
      ·exact HF.o,HB3.o⟩
     case measure=>simp only[intOf];omega
  ·obtain rfl:k=16:=by omega
   clear hlt;go_wp2_with fail
   go_ret
   exact⟨Iv (HN.o HNO.o).symm,HB.o⟩
def ExH(B:Nat)(x:Ex)(v:Value)(w:World):Prop:= ∃s,v=exV x s∧Ag (B≤ ·) w x.args s∧I64 x.n
def ExsH(B:Nat)(l:List Ex)(v:Value)(w:World):Prop:=Ag (B≤ ·) w l v
def Ym(f:Nat):Prop:= ∀lv l w p tb,4*l.length+2≤f→Ps w p tb l→Calls Zc 60 #[.pointer (some ⟨p,0,none⟩),.int .i64 lv] w (Gu (ExH w.heap.size) w p tb (Bf f lv l))
def Ox(f:Nat):Prop:= ∀l w p tb,4*l.length+2≤f→Ps w p tb l→Calls Zc 27 #[.pointer (some ⟨p,0,none⟩)] w (Gu (ExH w.heap.size) w p tb (Bf f 1 l))
def Tb(f:Nat):Prop:= ∀l w p tb,4*l.length+1≤f→Ps w p tb l→Calls Zc 118 #[.pointer (some ⟨p,0,none⟩)] w (Gu (ExH w.heap.size) w p tb (Br f l))
def Ww(f:Nat):Prop:= ∀s l w p tb,4*l.length+1≤f→Ps w p tb l→Calls Zc 163 #[.pointer (some ⟨p,0,none⟩),.string (Aa s)] w (Gu (ExH w.heap.size) w p tb (Dj f s l))
def gI(f:Nat):Prop:= ∀l w p tb,4*l.length+4≤f→Ps w p tb l→Calls Zc 201 #[.pointer (some ⟨p,0,none⟩)] w (Gu (ExsH w.heap.size) w p tb (Hg f l))
theorem Nv {w:World}{b:Nat}{T:TypeId}{a0 a1 a2 a3 a4:Value}(h:Ae w b [a0,a1,a2,a3,a4] T)(c0 c1 c2 c3 c4:Value):Ae (((((w.setCell ⟨b,0,none⟩ c0).setCell ⟨b,1,none⟩ c1).setCell ⟨b,2,none⟩ c2).setCell ⟨b,3,none⟩ c3).setCell ⟨b,4,none⟩ c4) b [c0,c1,c2,c3,c4] T:=
 ((((h.set 0 c0).set 1 c1).set 2 c2).set 3 c3).set 4 c4
theorem vW {p:Nat}{w w1:World}(h:SFr p w w1){b:Nat}(hb:w.heap.size≤b)(c0 c1 c2 c3 c4:Value):SFr p w (((((w1.setCell ⟨b,0,none⟩ c0).setCell ⟨b,1,none⟩ c1).setCell ⟨b,2,none⟩ c2).setCell ⟨b,3,none⟩ c3).setCell ⟨b,4,none⟩ c4):=
 ((((h.setNew hb 0 c0).setNew hb 1 c1).setNew hb 2 c2).setNew hb 3 c3).setNew hb 4 c4
theorem ps5 {w:World}{p tb:Nat}{l:List Tk}(h:Ps w p tb l){b:Nat}(hb:p<b)(c0 c1 c2 c3 c4:Value):Ps (((((w.setCell ⟨b,0,none⟩ c0).setCell ⟨b,1,none⟩ c1).setCell ⟨b,2,none⟩ c2).setCell ⟨b,3,none⟩ c3).setCell ⟨b,4,none⟩ c4) p tb l:=
 ((((h.other hb 0 c0).other hb 1 c1).other hb 2 c2).other hb 3 c3).other hb 4 c4
theorem La {D:Nat→Prop}(w:World){b:Nat}(hb:¬D b)(c0 c1 c2 c3 c4:Value):Ed D w (((((w.setCell ⟨b,0,none⟩ c0).setCell ⟨b,1,none⟩ c1).setCell ⟨b,2,none⟩ c2).setCell ⟨b,3,none⟩ c3).setCell ⟨b,4,none⟩ c4):=
 ((((Ai w hb 0 c0).trans (Ai _ hb 1 c1)).trans (Ai _ hb 2 c2)).trans (Ai _ hb 3 c3)).trans (Ai _ hb 4 c4)
theorem Bu {w:World}{b:Nat}{T:TypeId}{a0 a1 a2 a3 a4:Value}(h:Ae w b [a0,a1,a2,a3,a4] T):(w.cell? ⟨b,0,none⟩=some a0∧w.cell? ⟨b,1,none⟩=some a1∧w.cell? ⟨b,2,none⟩=some a2∧w.cell? ⟨b,3,none⟩=some a3∧w.cell? ⟨b,4,none⟩=some a4)∧
  w.frozen? ⟨b,0,none⟩=false∧w.frozen? ⟨b,1,none⟩=false∧w.frozen? ⟨b,2,none⟩=false∧w.frozen? ⟨b,3,none⟩=false∧w.frozen? ⟨b,4,none⟩=false:=
 ⟨⟨h.at 0 _ rfl,h.at 1 _ rfl,h.at 2 _ rfl,h.at 3 _ rfl,h.at 4 _ rfl⟩,h.fz 0,h.fz 1,h.fz 2,h.fz 3,h.fz 4⟩
theorem Oy {w W:World}{p tb:Nat}{l:List Tk}{x:Ex}{s:Value}(hp:p<w.heap.size)(HF:SFr p w W)(HP:Ps W p tb l)(HX:Ag (w.heap.size+1≤ ·) W x.args s)(hn:I64 x.n)(c0 c1 c2 c3 c4:Value):
  Gu (ExH w.heap.size) w p tb (.ok (x,l)) (.returned (exV x s)) (((((W.setCell ⟨w.heap.size,0,none⟩ c0).setCell ⟨w.heap.size,1,none⟩ c1).setCell ⟨w.heap.size,2,none⟩ c2).setCell ⟨w.heap.size,3,none⟩ c3).setCell ⟨w.heap.size,4,none⟩ c4):=
 ⟨vW HF (Zg _) _ _ _ _ _,_,rfl,ps5 HP hp _ _ _ _ _,_,rfl,(HX.keep (La W (by show ¬w.heap.size+1≤w.heap.size;omega) _ _ _ _ _)).mono (fun b hb=>by have:w.heap.size+1≤b:=hb;omega),hn⟩
theorem Ag.up {B B':Nat}{w:World}{l:List Ex}{v:Value}(h:Ag (B≤ ·) w l v)(hb:B'≤B):Ag (B'≤ ·) w l v:=h.mono (fun b hx=>Nat.le_trans hb hx)
theorem kW {w:World}{B:Nat}{x:Ex}{s:Value}(h:Ag (B≤ ·) w x.args s)(hn:I64 x.n)(hB:B≤w.heap.size):
  Ag (B≤ ·) (w.alloc (.cells #[.int .i64 x.kind,.int .i64 x.op,.int .i64 x.n,.string (Aa x.name),s] 27)) [x] (.slice (some ⟨w.heap.size,0,none⟩) 1 1):=
 .one x s hB (Fc.new w (Bg x s) 27) (h.old (bA)) hn
theorem ex_box2 {w:World}{B:Nat}{x y:Ex}{s u:Value}(h:Ag (B≤ ·) w x.args s)(hn:I64 x.n)(k:Ag (B≤ ·) w y.args u)(hm:I64 y.n)(hB:B≤w.heap.size):
  Ag (B≤ ·) (w.alloc (.cells #[.int .i64 x.kind,.int .i64 x.op,.int .i64 x.n,.string (Aa x.name),s,.int .i64 y.kind,.int .i64 y.op,.int .i64 y.n,.string (Aa y.name),u] 27)) [x,y] (.slice (some ⟨w.heap.size,0,none⟩) 2 2):=
 .two x y s u hB (Fc.new w (Bg x s++Bg y u) 27) (h.old (bA)) hn (k.old (bA)) hm
theorem Nd(W:World)(b:Nat)(c0 c1 c2 c3 c4:Value):(((((W.setCell ⟨b,0,none⟩ c0).setCell ⟨b,1,none⟩ c1).setCell ⟨b,2,none⟩ c2).setCell ⟨b,3,none⟩ c3).setCell ⟨b,4,none⟩ c4).heap.size=W.heap.size:=by simp [World.setCell]
theorem mZ {w W:World}{p tb:Nat}{l:List Tk}{x y:Ex}{s:Value}(hp:p<w.heap.size)(HF:SFr p w W)(HP:Ps W p tb l)(HX:Ag (w.heap.size+1≤ ·) W x.args s)(hn:I64 x.n)(hlt:w.heap.size<W.heap.size)(hy:y.args=[x])(hyn:I64 y.n)(c0 c1 c2 c3 c4:Value):
  Gu (ExH w.heap.size) w p tb (.ok (y,l)) (.returned (exV y (.slice (some ⟨W.heap.size,0,none⟩) 1 1))) ((((((W.setCell ⟨w.heap.size,0,none⟩ c0).setCell ⟨w.heap.size,1,none⟩ c1).setCell ⟨w.heap.size,2,none⟩ c2).setCell ⟨w.heap.size,3,none⟩ c3).setCell ⟨w.heap.size,4,none⟩ c4).alloc (.cells #[.int .i64 x.kind,.int .i64 x.op,.int .i64 x.n,.string (Aa x.name),s] 27)):=by
 have h1:=HX.keep (La W (show ¬w.heap.size+1≤w.heap.size by omega) c0 c1 c2 c3 c4);have h2:=kW h1 hn (by rw[Nd];omega);rw[Nd]at h2;refine⟨(vW HF (Zg _) c0 c1 c2 c3 c4).trans (Zb (bA)),_,rfl,(ps5 HP hp c0 c1 c2 c3 c4).alloc _,_,rfl,?_,hyn⟩;rw[hy];exact h2.mono (fun b hb=>by have:w.heap.size+1≤b:=hb;omega)
theorem Gp:I64 0:=⟨by decide,by decide⟩
theorem dX(f:Nat)(ih:gI f)(s:Bs)(t:Tk)(r:List Tk)(w:World)(p tb:Nat)(hl:4*(t::r).length+1≤f+1)(h:Ps w p tb (t::r))(y:isP [40] t=true):
  Calls Zc 163 #[.pointer (some ⟨p,0,none⟩),.string (Aa s)] w (Gu (ExH w.heap.size) w p tb (Dj (f+1) s (t::r))):=by
 have HPW:=Za h.lt;have HNE:Hid (w.heap.size≠p):=by show _≠_;have:=h.lt;omega
 have hb0:Below w.heap.size w (w.alloc (.cells #[.int .i64 0,.int .i64 0,.int .i64 0,.string ⟨#[]⟩,.slice none 0 0] 27)):=bA;have HF0:Hid (SFr p w (w.alloc (.cells #[.int .i64 0,.int .i64 0,.int .i64 0,.string ⟨#[]⟩,.slice none 0 0] 27))):=Zb hb0;have HR0:=Za (Zd w [.int .i64 0,.int .i64 0,.int .i64 0,.string ⟨#[]⟩,.slice none 0 0] 27);have HP0:=Za (h.old hb0);clear hb0;obtain⟨R,hR⟩:∃R,Dj (f+1) s (t::r)=R:=⟨_,rfl⟩;rw[hR];have HRR:=Za hR;clear hR;have HY:=Za y;have HT:Hid (∀w1,Ps w1 p tb (t::r)→_):=fun w1 h1=>Bq p tb t r [40] w1 h1 y
 rw[Zf]at hl;have HC:Hid (∀w1,Ps w1 p tb r→_):=fun w1 h1=>ih r w1 p tb (by omega) h1
 clear y hl ih;clear h;go_enter func163,ntmps163
 go_wp2_with fail
 refine(HT.o _ HP0.o).mono ?_;rintro e w1 ⟨rfl,hf,hp⟩;have HF1:=Za (HF0.o.trans hf);have HP1:=Za hp;have HR1:=Za (HR0.o.sfr hf HNE.o);clear hf hp;go_wp2_with fail
 refine(HC.o _ HP1.o).mono ?_;intro e w2 he
 cases hA:Hg f r with
 |error n=>
  rw[hA]at he;obtain⟨hf,rfl⟩:=he;have HF:=Za (HF1.o.trans hf);have e1:Dj (f+1) s (t::r)=.error n:=by rw[Dj,An HY.o];dsimp only;rw[hA]
  have e2:=HRR.o.symm.trans e1;subst e2;clear e1 hf;unfold Bk;go_wp2_with fail
  exact⟨rfl,HF.o,rfl⟩
 |ok q=>
  obtain⟨x,r2⟩:=q;rw[hA]at he;obtain⟨hf,v,rfl,hp,hv⟩:=he;have hv:Ag (w1.heap.size≤ ·) w2 x v:=hv;obtain⟨a1,a2,rfl⟩:=hv.shape;have HX2:=Za (hv.up (show w.heap.size+1≤w1.heap.size from HR1.o.lt));clear hv;have HF2:=Za (HF1.o.trans hf);have HP2:=Za hp;have HR2:=Za (HR1.o.sfr hf HNE.o);clear hf hp;have HA2:=Za hA;clear hA;obtain⟨⟨x0,x1,x2,x3,x4⟩,xf0,xf1,xf2,xf3,xf4⟩:=Bu HR2.o;have xlt:=HR2.o.lt;go_wp2_with fail
  have e1:Dj (f+1) s (t::r)=.ok (.mk 5 0 0 s x,r2):=by rw[Dj,An HY.o];dsimp only;rw[HA2.o]
  have e2:=HRR.o.symm.trans e1;subst e2;obtain⟨⟨d0,d1,d2,d3,d4⟩,_⟩:=Bu (Nv HR2.o (.int .i64 5) (.int .i64 0) (.int .i64 0) (.string (Aa s)) (.slice a1 x.length a2));exact bodyPost_ret (v:=.agg #[.int .i64 5,.int .i64 0,.int .i64 0,.string (Aa s),.slice a1 x.length a2]) (by simp [results,results163,go_sem,d0,d1,d2,d3,d4]) rfl (Oy (x:=.mk 5 0 0 s x) HPW.o HF2.o HP2.o HX2.o Gp _ _ _ _ _)
theorem eT(f:Nat)(s:Bs)(t:Tk)(r:List Tk)(w:World)(p tb:Nat)(h:Ps w p tb (t::r))(n1:isP [40] t=false)(n2:isP [91] t=false):
  Calls Zc 163 #[.pointer (some ⟨p,0,none⟩),.string (Aa s)] w (Gu (ExH w.heap.size) w p tb (Dj (f+1) s (t::r))):=by
 have HPW:=Za h.lt;have HNE:Hid (w.heap.size≠p):=by show _≠_;have:=h.lt;omega
 have hb0:Below w.heap.size w (w.alloc (.cells #[.int .i64 0,.int .i64 0,.int .i64 0,.string ⟨#[]⟩,.slice none 0 0] 27)):=bA;have HF0:Hid (SFr p w (w.alloc (.cells #[.int .i64 0,.int .i64 0,.int .i64 0,.string ⟨#[]⟩,.slice none 0 0] 27))):=Zb hb0;have HR0:=Za (Zd w [.int .i64 0,.int .i64 0,.int .i64 0,.string ⟨#[]⟩,.slice none 0 0] 27);have HP0:=Za (h.old hb0);clear hb0;obtain⟨R,hR⟩:∃R,Dj (f+1) s (t::r)=R:=⟨_,rfl⟩;rw[hR];have HRR:=Za hR;clear hR;have HN1:=Za n1;have HN2:=Za n2;have HT:Hid (∀w1,Ps w1 p tb (t::r)→_):=fun w1 h1=>Aj p tb t r [40] w1 h1 n1
 have HU:Hid (∀w1,Ps w1 p tb (t::r)→_):=fun w1 h1=>Aj p tb t r [91] w1 h1 n2
 clear n1 n2;clear h;go_enter func163,ntmps163
 go_wp2_with fail
 refine(HT.o _ HP0.o).mono ?_;rintro e w1 ⟨rfl,hb⟩;have HF1:=Za (HF0.o.trans (Zb hb));have HP1:=Za (HP0.o.old hb);have HR1:=Za (HR0.o.old hb);clear hb;go_wp2_with fail
 refine(HU.o _ HP1.o).mono ?_;rintro e w2 ⟨rfl,hb⟩;have HF2:=Za (HF1.o.trans (Zb hb));have HP2:=Za (HP1.o.old hb);have HR2:=Za (HR1.o.old hb);clear hb;obtain⟨⟨x0,x1,x2,x3,x4⟩,xf0,xf1,xf2,xf3,xf4⟩:=Bu HR2.o;have xlt:=HR2.o.lt;go_wp2_with fail
 have e1:Dj (f+1) s (t::r)=.ok (.mk 2 0 0 s [],t::r):=by rw[Dj,Af HN1.o];dsimp only;rw[Af HN2.o]
 have e2:=HRR.o.symm.trans e1;subst e2;obtain⟨⟨d0,d1,d2,d3,d4⟩,_⟩:=Bu (Nv HR2.o (.int .i64 2) (.int .i64 0) (.int .i64 0) (.string (Aa s)) (.slice none 0 0));exact bodyPost_ret (v:=.agg #[.int .i64 2,.int .i64 0,.int .i64 0,.string (Aa s),.slice none 0 0]) (by simp [results,results163,go_sem,d0,d1,d2,d3,d4]) rfl (Oy (x:=.mk 2 0 0 s []) HPW.o HF2.o HP2.o Ag.zero Gp _ _ _ _ _)
theorem iE(f:Nat)(ih:Ox f)(s:Bs)(t:Tk)(r:List Tk)(w:World)(p tb:Nat)(hl:4*(t::r).length+1≤f+1)(h:Ps w p tb (t::r))(n1:isP [40] t=false)(y:isP [91] t=true):
  Calls Zc 163 #[.pointer (some ⟨p,0,none⟩),.string (Aa s)] w (Gu (ExH w.heap.size) w p tb (Dj (f+1) s (t::r))):=by
 have HPW:=Za h.lt;have HNE:Hid (w.heap.size≠p):=by show _≠_;have:=h.lt;omega
 have hb0:Below w.heap.size w (w.alloc (.cells #[.int .i64 0,.int .i64 0,.int .i64 0,.string ⟨#[]⟩,.slice none 0 0] 27)):=bA;have HF0:Hid (SFr p w (w.alloc (.cells #[.int .i64 0,.int .i64 0,.int .i64 0,.string ⟨#[]⟩,.slice none 0 0] 27))):=Zb hb0;have HR0:=Za (Zd w [.int .i64 0,.int .i64 0,.int .i64 0,.string ⟨#[]⟩,.slice none 0 0] 27);have HP0:=Za (h.old hb0);clear hb0;obtain⟨R,hR⟩:∃R,Dj (f+1) s (t::r)=R:=⟨_,rfl⟩;rw[hR];have HRR:=Za hR;clear hR;have HY:=Za y;have HN1:=Za n1;have HT:Hid (∀w1,Ps w1 p tb (t::r)→_):=fun w1 h1=>Aj p tb t r [40] w1 h1 n1
 have HU:Hid (∀w1,Ps w1 p tb (t::r)→_):=fun w1 h1=>Bq p tb t r [91] w1 h1 y
 rw[Zf]at hl;have HC:Hid (∀w1,Ps w1 p tb r→_):=fun w1 h1=>ih r w1 p tb (by omega) h1
 clear y n1 hl ih;clear h;go_enter func163,ntmps163
 go_wp2_with fail
 refine(HT.o _ HP0.o).mono ?_;rintro e w1 ⟨rfl,hb⟩;have HF1:=Za (HF0.o.trans (Zb hb));have HP1:=Za (HP0.o.old hb);have HR1:=Za (HR0.o.old hb);clear hb;go_wp2_with fail
 refine(HU.o _ HP1.o).mono ?_;rintro e w2 ⟨rfl,hf,hp⟩;have HF2:=Za (HF1.o.trans hf);have HP2:=Za hp;have HR2:=Za (HR1.o.sfr hf HNE.o);clear hf hp;go_wp2_with fail
 refine(HC.o _ HP2.o).mono ?_;intro e w3 he
 cases hA:Bf f 1 r with
 |error n=>
  rw[hA]at he;obtain⟨hf,rfl⟩:=he;have HF:=Za (HF2.o.trans hf);have e1:Dj (f+1) s (t::r)=.error n:=by rw[Dj,Af HN1.o];dsimp only;rw[An HY.o];dsimp only;rw[hA]
  have e2:=HRR.o.symm.trans e1;subst e2;clear e1 hf;unfold Bk;go_wp2_with fail
  exact⟨rfl,HF.o,rfl⟩
 |ok q=>
  obtain⟨x,r2⟩:=q;rw[hA]at he;obtain⟨hf,v,rfl,hp,hv⟩:=he;obtain⟨s3,rfl,hx,hn⟩:=hv;obtain⟨a1,a2,rfl⟩:=hx.shape;have HX3:=Za (hx.up (show w.heap.size+1≤w2.heap.size from HR2.o.lt));have HN:=Za hn;clear hx hn;have HF3:=Za (HF2.o.trans hf);have HP3:=Za hp;have HR3:=Za (HR2.o.sfr hf HNE.o);clear hf hp;have HA3:=Za hA;clear hA;go_upto_region 5 with(fail)
  obtain⟨W,hW⟩:∃W,w3.alloc (.cells #[.int .i64 x.kind,.int .i64 x.op,.int .i64 x.n,.string (Aa x.name),.slice a1 x.args.length a2] 27)=W:=⟨_,rfl⟩;rw[hW];have hba:Below w3.heap.size w3 W:=hW ▸ bA;have HF4:=Za (HF3.o.trans (Zb hba));have HP4:=Za (HP3.o.old hba);have HR4:=Za (HR3.o.old hba);have HX4:=Za (HX3.o.old hba);have HE4:=Za (hW ▸ Zd w3 [.int .i64 x.kind,.int .i64 x.op,.int .i64 x.n,.string (Aa x.name),.slice a1 x.args.length a2] 27);have HEP:Hid (w3.heap.size≠p):=by show _≠_;have:=HP3.o.lt;omega
  clear hba hW;obtain⟨w4,hWW⟩:∃w4,w4=W:=⟨_,rfl⟩;subst hWW;have hba:Below w4.heap.size w4 (w4.alloc (.cells #[.string ⟨#[93]⟩] 9)):=bA;have HF5:=Za (HF4.o.trans (Zb hba));have HP5:=Za (HP4.o.old hba);have HR5:=Za (HR4.o.old hba);have HE5:=Za (HE4.o.old hba);have HX5:=Za (HX4.o.old hba);have HWN:=Za (De p tb r2 [93] _ HP5.o w4.heap.size 1 ((Zd w4 [.string ⟨#[93]⟩] 9).at 0 _ rfl));clear hba;go_wp2_with fail
  refine(HWN.o).mono ?_;intro e w6 he
  cases hA:As [93] r2 with
  |error n=>
   rw[hA]at he;obtain⟨hf,rfl⟩:=he;have HF:=Za (HF5.o.trans hf);have e1:Dj (f+1) s (t::r)=.error n:=by rw[Dj,Af HN1.o];dsimp only;rw[An HY.o];dsimp only;rw[HA3.o];dsimp only;rw[hA]
   have e2:=HRR.o.symm.trans e1;subst e2;clear e1 hf;unfold Bk;go_wp2_with fail
   exact⟨rfl,HF.o,rfl⟩
  |ok r3=>
   rw[hA]at he;obtain⟨hf,rfl,hp⟩:=he;have HF6:=Za (HF5.o.trans hf);have HP6:=Za hp;have HR6:=Za (HR5.o.sfr hf HNE.o);have HE6:=Za (HE5.o.sfr hf HEP.o);have HX6:=Za (HX5.o.keep (hf.fresh (by have:=HPW.o;omega)));clear hf hp;have HA6:=Za hA;clear hA;clear HWN;obtain⟨⟨e0,e1,e2,e3,e4⟩,ef0,ef1,ef2,ef3,ef4⟩:=Bu HE6.o;have elt:=HE6.o.lt;obtain⟨⟨x0,x1,x2,x3,x4⟩,xf0,xf1,xf2,xf3,xf4⟩:=Bu HR6.o;have xlt:=HR6.o.lt;go_wp2_with fail
   have e1:Dj (f+1) s (t::r)=.ok (.mk 6 0 0 s [x],r3):=by rw[Dj,Af HN1.o];dsimp only;rw[An HY.o];dsimp only;rw[HA3.o];dsimp only;rw[HA6.o]
   have e2:=HRR.o.symm.trans e1;subst e2;obtain⟨⟨d0,d1,d2,d3,d4⟩,_⟩:=Bu ((Nv HR6.o (.int .i64 6) (.int .i64 0) (.int .i64 0) (.string (Aa s)) (.slice (some ⟨w6.heap.size,0,none⟩) 1 1)).alloc (.cells #[.int .i64 x.kind,.int .i64 x.op,.int .i64 x.n,.string (Aa x.name),(.slice a1 x.args.length a2)] 27));exact bodyPost_ret (v:=.agg #[.int .i64 6,.int .i64 0,.int .i64 0,.string (Aa s),.slice (some ⟨w6.heap.size,0,none⟩) 1 1]) (by simp [results,results163,go_sem,d0,d1,d2,d3,d4]) rfl (mZ (x:=x) (y:=.mk 6 0 0 s [x]) HPW.o HF6.o HP6.o HX6.o HN.o HR6.o.lt rfl Gp _ _ _ _ _)
@[go_sem] theorem field_tk2 (a b c d:Value) (w:World):(Instr.field 50 (.agg #[a,b,c,d]) 2).run Zc w=.ok c w:=by kernel_rfl
theorem gY(t:Tk)(r:List Tk):Fa (t::r)=if t.kind=1 then .ok (t.text,r)else .error t.line:=by
 unfold Fa;have:Lv 1 (t::r)=if t.kind=1 then Except.ok (t,r)else Except.error t.line:=rfl
 rw[this]
 by_cases h:t.kind=1
 ·rw[if_pos h,if_pos h]
 ·rw[if_neg h,if_neg h]
theorem Sw(t:Tk)(r:List Tk):(Fh (t::r)=some (17,r)∧isP (Aw 17) t=true)∨(Fh (t::r)=some (18,r)∧isP (Aw 17) t=false∧isP (Aw 18) t=true)∨(Fh (t::r)=some (19,r)∧isP (Aw 17) t=false∧isP (Aw 18) t=false∧isP (Aw 19) t=true)∨
  (Fh (t::r)=none∧isP (Aw 17) t=false∧isP (Aw 18) t=false∧isP (Aw 19) t=false):=by
 unfold Fh
 cases h1:isP (Aw 17) t with
 |true=>rw[An h1];exact .inl ⟨rfl,rfl⟩
 |false=>
  rw[Af h1]
  cases h2:isP (Aw 18) t with
  |true=>rw[An h2];exact .inr (.inl ⟨rfl,rfl,rfl⟩)
  |false=>
   rw[Af h2]
   cases h3:isP (Aw 19) t with
   |true=>rw[An h3];exact .inr (.inr (.inl ⟨rfl,rfl,rfl,rfl⟩))
   |false=>rw[Af h3];exact .inr (.inr (.inr ⟨rfl,rfl,rfl,rfl⟩))
theorem dB(p tb:Nat)(t:Tk)(r:List Tk)(op:Int)(hu:Fh (t::r)=some (op,r))(w:World)(h:Ps w p tb (t::r)):
  Calls Zc 162 #[.pointer (some ⟨p,0,none⟩)] w fun e w'=>e=.returned (.int .i64 op)∧SFr p w w'∧Ps w' p tb r:=by
 rcases Sw t r with⟨e,h1⟩|⟨e,h1,h2⟩|⟨e,h1,h2,h3⟩|⟨e,_⟩
 ·rw[e]at hu;injection hu with hu;injection hu with hu _;subst hu;exact kD p tb t r w h h1
 ·rw[e]at hu;injection hu with hu;injection hu with hu _;subst hu;exact mM p tb t r w h h1 h2
 ·rw[e]at hu;injection hu with hu;injection hu with hu _;subst hu;exact lY p tb t r w h h1 h2 h3
 ·rw[e]at hu;cases hu
theorem Lf(p tb:Nat)(t:Tk)(r:List Tk)(hu:Fh (t::r)=none)(w:World)(h:Ps w p tb (t::r)):
  Calls Zc 162 #[.pointer (some ⟨p,0,none⟩)] w fun e w'=>e=.returned (.int .i64 0)∧SFr p w w'∧Ps w' p tb (t::r):=by
 rcases Sw t r with⟨e,h1⟩|⟨e,h1,h2⟩|⟨e,h1,h2,h3⟩|⟨e,h1,h2,h3⟩
 ·rw[e]at hu;cases hu
 ·rw[e]at hu;cases hu
 ·rw[e]at hu;cases hu
 ·exact mA p tb t r w h h1 h2 h3
theorem Sj {t:Tk}{r q:List Tk}{op:Int}(h:Fh (t::r)=some (op,q)):q=r∧(op=17∨op=18∨op=19):=by
 rcases Sw t r with⟨e,_⟩|⟨e,_⟩|⟨e,_⟩|⟨e,_⟩<;>rw[e]at h
 ·injection h with h;injection h with h1 h2;exact⟨h2.symm,.inl h1.symm⟩
 ·injection h with h;injection h with h1 h2;exact⟨h2.symm,.inr (.inl h1.symm)⟩
 ·injection h with h;injection h with h1 h2;exact⟨h2.symm,.inr (.inr h1.symm)⟩
 ·cases h
theorem eS(f:Nat)(ih:Tb f)(t:Tk)(r:List Tk)(w:World)(p tb:Nat)(hl:4*(t::r).length+1≤f+1)(h:Ps w p tb (t::r))(op:Int)(hu:Fh (t::r)=some (op,r)):
  Calls Zc 118 #[.pointer (some ⟨p,0,none⟩)] w (Gu (ExH w.heap.size) w p tb (Br (f+1) (t::r))):=by
 have HPW:=Za h.lt;have HNE:Hid (w.heap.size≠p):=by show _≠_;have:=h.lt;omega
 have hb0:Below w.heap.size w (w.alloc (.cells #[.int .i64 0,.int .i64 0,.int .i64 0,.string ⟨#[]⟩,.slice none 0 0] 27)):=bA;have HF0:Hid (SFr p w (w.alloc (.cells #[.int .i64 0,.int .i64 0,.int .i64 0,.string ⟨#[]⟩,.slice none 0 0] 27))):=Zb hb0;have HR0:=Za (Zd w [.int .i64 0,.int .i64 0,.int .i64 0,.string ⟨#[]⟩,.slice none 0 0] 27);have HP0:=Za (h.old hb0);clear hb0;obtain⟨R,hR⟩:∃R,Br (f+1) (t::r)=R:=⟨_,rfl⟩;rw[hR];have HRR:=Za hR;clear hR;have HU:=Za hu;have HT:Hid (∀w1,Ps w1 p tb (t::r)→_):=fun w1 h1=>dB p tb t r op hu w1 h1
 rw[Zf]at hl;have HC:Hid (∀w1,Ps w1 p tb r→_):=fun w1 h1=>ih r w1 p tb (by omega) h1
 have hop:(op !=0)=true:=by rcases(Sj hu).2 with rfl|rfl|rfl<;>rfl
 have hop2:(op==0)=false:=by rcases(Sj hu).2 with rfl|rfl|rfl<;>rfl
 have hop3:¬op=0:=by rcases(Sj hu).2 with rfl|rfl|rfl<;>decide
 clear hu hl ih;clear h;go_enter func118,Zh
 go_wp2_with fail
 refine(HT.o _ HP0.o).mono ?_;rintro e w1 ⟨rfl,hf,hp⟩;have HF1:=Za (HF0.o.trans hf);have HP1:=Za hp;have HR1:=Za (HR0.o.sfr hf HNE.o);clear hf hp;go_wp2_with fail
 refine(HC.o _ HP1.o).mono ?_;intro e w2 he
 cases hA:Br f r with
 |error n=>
  rw[hA]at he;obtain⟨hf,rfl⟩:=he;have HF:=Za (HF1.o.trans hf);have e1:Br (f+1) (t::r)=.error n:=by rw[Br,HU.o];dsimp only;rw[hA]
  have e2:=HRR.o.symm.trans e1;subst e2;clear e1 hf;unfold Bk;go_wp2_with fail
  exact⟨rfl,HF.o,rfl⟩
 |ok q=>
  obtain⟨x,r2⟩:=q;rw[hA]at he;obtain⟨hf,v,rfl,hp,hv⟩:=he;obtain⟨s3,rfl,hx,hn⟩:=hv;obtain⟨a1,a2,rfl⟩:=hx.shape;have HX2:=Za (hx.up (show w.heap.size+1≤w1.heap.size from HR1.o.lt));have HN:=Za hn;clear hx hn;have HF2:=Za (HF1.o.trans hf);have HP2:=Za hp;have HR2:=Za (HR1.o.sfr hf HNE.o);clear hf hp;have HA2:=Za hA;clear hA;obtain⟨⟨x0,x1,x2,x3,x4⟩,xf0,xf1,xf2,xf3,xf4⟩:=Bu HR2.o;have xlt:=HR2.o.lt;go_wp2_with fail
  have e1:Br (f+1) (t::r)=.ok (.mk 3 op 0 [] [x],r2):=by rw[Br,HU.o];dsimp only;rw[HA2.o]
  have e2:=HRR.o.symm.trans e1;subst e2;obtain⟨⟨d0,d1,d2,d3,d4⟩,_⟩:=Bu ((Nv HR2.o (.int .i64 3) (.int .i64 op) (.int .i64 0) (.string ⟨#[]⟩) (.slice (some ⟨w2.heap.size,0,none⟩) 1 1)).alloc (.cells #[.int .i64 x.kind,.int .i64 x.op,.int .i64 x.n,.string (Aa x.name),(.slice a1 x.args.length a2)] 27));exact bodyPost_ret (v:=.agg #[.int .i64 3,.int .i64 op,.int .i64 0,.string ⟨#[]⟩,.slice (some ⟨w2.heap.size,0,none⟩) 1 1]) (by simp [results,Zi,go_sem,d0,d1,d2,d3,d4]) rfl (mZ (x:=x) (y:=.mk 3 op 0 [] [x]) HPW.o HF2.o HP2.o HX2.o HN.o HR2.o.lt rfl Gp _ _ _ _ _)
theorem aM(f:Nat)(ih:Ox f)(t:Tk)(r:List Tk)(w:World)(p tb:Nat)(hl:4*(t::r).length+1≤f+1)(h:Ps w p tb (t::r))(hu:Fh (t::r)=none)(y:isP [40] t=true):
  Calls Zc 118 #[.pointer (some ⟨p,0,none⟩)] w (Gu (ExH w.heap.size) w p tb (Br (f+1) (t::r))):=by
 have HPW:=Za h.lt;have HNE:Hid (w.heap.size≠p):=by show _≠_;have:=h.lt;omega
 have hb0:Below w.heap.size w (w.alloc (.cells #[.int .i64 0,.int .i64 0,.int .i64 0,.string ⟨#[]⟩,.slice none 0 0] 27)):=bA;have HF0:Hid (SFr p w (w.alloc (.cells #[.int .i64 0,.int .i64 0,.int .i64 0,.string ⟨#[]⟩,.slice none 0 0] 27))):=Zb hb0;have HR0:=Za (Zd w [.int .i64 0,.int .i64 0,.int .i64 0,.string ⟨#[]⟩,.slice none 0 0] 27);have HP0:=Za (h.old hb0);clear hb0;obtain⟨R,hR⟩:∃R,Br (f+1) (t::r)=R:=⟨_,rfl⟩;rw[hR];have HRR:=Za hR;clear hR;have HU:=Za hu;have HT:Hid (∀w1,Ps w1 p tb (t::r)→_):=fun w1 h1=>Lf p tb t r hu w1 h1
 have HY:=Za y;have HV:Hid (∀w1,Ps w1 p tb (t::r)→_):=fun w1 h1=>Bq p tb t r [40] w1 h1 y
 rw[Zf]at hl;have HC:Hid (∀w1,Ps w1 p tb r→_):=fun w1 h1=>ih r w1 p tb (by omega) h1
 clear hu y hl ih;clear h;go_enter func118,Zh
 go_wp2_with fail
 refine(HT.o _ HP0.o).mono ?_;rintro e w1 ⟨rfl,hf,hp⟩;have HF1:=Za (HF0.o.trans hf);have HP1:=Za hp;have HR1:=Za (HR0.o.sfr hf HNE.o);clear hf hp;go_wp2_with fail
 refine(HV.o _ HP1.o).mono ?_;rintro e w2 ⟨rfl,hf,hp⟩;have HF2:=Za (HF1.o.trans hf);have HP2:=Za hp;have HR2:=Za (HR1.o.sfr hf HNE.o);clear hf hp;go_wp2_with fail
 refine(HC.o _ HP2.o).mono ?_;intro e w3 he
 cases hA:Bf f 1 r with
 |error n=>
  rw[hA]at he;obtain⟨hf,rfl⟩:=he;have HF:=Za (HF2.o.trans hf);have e1:Br (f+1) (t::r)=.error n:=by rw[Br,HU.o];dsimp only;rw[An HY.o];dsimp only;rw[hA]
  have e2:=HRR.o.symm.trans e1;subst e2;clear e1 hf;unfold Bk;go_wp2_with fail
  exact⟨rfl,HF.o,rfl⟩
 |ok q=>
  obtain⟨x,r2⟩:=q;rw[hA]at he;obtain⟨hf,v,rfl,hp,hv⟩:=he;obtain⟨s3,rfl,hx,hn⟩:=hv;obtain⟨a1,a2,rfl⟩:=hx.shape;have HX3:=Za (hx.up (show w.heap.size+1≤w2.heap.size from HR2.o.lt));have HN:=Za hn;clear hx hn;have HF3:=Za (HF2.o.trans hf);have HP3:=Za hp;have HR3:=Za (HR2.o.sfr hf HNE.o);clear hf hp;have HA3:=Za hA;clear hA;go_upto_region 6 with(fail)
  obtain⟨W,hW⟩:∃W,w3.alloc (.cells #[.int .i64 x.kind,.int .i64 x.op,.int .i64 x.n,.string (Aa x.name),.slice a1 x.args.length a2] 27)=W:=⟨_,rfl⟩;rw[hW];have hba:Below w3.heap.size w3 W:=hW ▸ bA;have HF4:=Za (HF3.o.trans (Zb hba));have HP4:=Za (HP3.o.old hba);have HR4:=Za (HR3.o.old hba);have HX4:=Za (HX3.o.old hba);have HE4:=Za (hW ▸ Zd w3 [.int .i64 x.kind,.int .i64 x.op,.int .i64 x.n,.string (Aa x.name),.slice a1 x.args.length a2] 27);have HEP:Hid (w3.heap.size≠p):=by show _≠_;have:=HP3.o.lt;omega
  clear hba hW;obtain⟨w4,hWW⟩:∃w4,w4=W:=⟨_,rfl⟩;subst hWW;have hba:Below w4.heap.size w4 (w4.alloc (.cells #[.string ⟨#[41]⟩] 9)):=bA;have HF5:=Za (HF4.o.trans (Zb hba));have HP5:=Za (HP4.o.old hba);have HR5:=Za (HR4.o.old hba);have HE5:=Za (HE4.o.old hba);have HX5:=Za (HX4.o.old hba);have HWN:=Za (De p tb r2 [41] _ HP5.o w4.heap.size 1 ((Zd w4 [.string ⟨#[41]⟩] 9).at 0 _ rfl));clear hba;go_wp2_with fail
  refine(HWN.o).mono ?_;intro e w6 he
  cases hA:As [41] r2 with
  |error n=>
   rw[hA]at he;obtain⟨hf,rfl⟩:=he;have HF:=Za (HF5.o.trans hf);have e1:Br (f+1) (t::r)=.error n:=by rw[Br,HU.o];dsimp only;rw[An HY.o];dsimp only;rw[HA3.o];dsimp only;rw[hA]
   have e2:=HRR.o.symm.trans e1;subst e2;clear e1 hf;unfold Bk;go_wp2_with fail
   exact⟨rfl,HF.o,rfl⟩
  |ok r3=>
   rw[hA]at he;obtain⟨hf,rfl,hp⟩:=he;have HF6:=Za (HF5.o.trans hf);have HP6:=Za hp;have HR6:=Za (HR5.o.sfr hf HNE.o);have HE6:=Za (HE5.o.sfr hf HEP.o);have HX6:=Za (HX5.o.keep (hf.fresh (by have:=HPW.o;omega)));clear hf hp;have HA6:=Za hA;clear hA;clear HWN;obtain⟨⟨e0,e1,e2,e3,e4⟩,ef0,ef1,ef2,ef3,ef4⟩:=Bu HE6.o;have elt:=HE6.o.lt;obtain⟨⟨x0,x1,x2,x3,x4⟩,xf0,xf1,xf2,xf3,xf4⟩:=Bu HR6.o;have xlt:=HR6.o.lt;go_wp2_with fail
   have e1:Br (f+1) (t::r)=.ok (x,r3):=by rw[Br,HU.o];dsimp only;rw[An HY.o];dsimp only;rw[HA3.o];dsimp only;rw[HA6.o]
   have e2:=HRR.o.symm.trans e1;subst e2;obtain⟨⟨d0,d1,d2,d3,d4⟩,_⟩:=Bu (Nv HR6.o (.int .i64 x.kind) (.int .i64 x.op) (.int .i64 x.n) (.string (Aa x.name)) (.slice a1 x.args.length a2));exact bodyPost_ret (v:=.agg #[.int .i64 x.kind,.int .i64 x.op,.int .i64 x.n,.string (Aa x.name),.slice a1 x.args.length a2]) (by simp [results,Zi,go_sem,d0,d1,d2,d3,d4]) rfl (Oy (x:=x) HPW.o HF6.o HP6.o HX6.o HN.o _ _ _ _ _)
theorem cQ(f:Nat)(t:Tk)(r:List Tk)(w:World)(p tb:Nat)(hl:4*(t::r).length+1≤f+1)(h:Ps w p tb (t::r))(hu:Fh (t::r)=none)(n:isP [40] t=false)(y:isP [114,101,97,100] t=true):
  Calls Zc 118 #[.pointer (some ⟨p,0,none⟩)] w (Gu (ExH w.heap.size) w p tb (Br (f+1) (t::r))):=by
 have HPW:=Za h.lt;have HNE:Hid (w.heap.size≠p):=by show _≠_;have:=h.lt;omega
 have hb0:Below w.heap.size w (w.alloc (.cells #[.int .i64 0,.int .i64 0,.int .i64 0,.string ⟨#[]⟩,.slice none 0 0] 27)):=bA;have HF0:Hid (SFr p w (w.alloc (.cells #[.int .i64 0,.int .i64 0,.int .i64 0,.string ⟨#[]⟩,.slice none 0 0] 27))):=Zb hb0;have HR0:=Za (Zd w [.int .i64 0,.int .i64 0,.int .i64 0,.string ⟨#[]⟩,.slice none 0 0] 27);have HP0:=Za (h.old hb0);clear hb0;obtain⟨R,hR⟩:∃R,Br (f+1) (t::r)=R:=⟨_,rfl⟩;rw[hR];have HRR:=Za hR;clear hR;have HU:=Za hu;have HT:Hid (∀w1,Ps w1 p tb (t::r)→_):=fun w1 h1=>Lf p tb t r hu w1 h1
 have HY:=Za y;have HN1:=Za n;have HV:Hid (∀w1,Ps w1 p tb (t::r)→_):=fun w1 h1=>Aj p tb t r [40] w1 h1 n
 have HV2:Hid (∀w1,Ps w1 p tb (t::r)→_):=fun w1 h1=>Bq p tb t r [114,101,97,100] w1 h1 y
 clear hu y n hl;clear h;go_enter func118,Zh
 go_wp2_with fail
 refine(HT.o _ HP0.o).mono ?_;rintro e w1 ⟨rfl,hf,hp⟩;have HF1:=Za (HF0.o.trans hf);have HP1:=Za hp;have HR1:=Za (HR0.o.sfr hf HNE.o);clear hf hp;go_wp2_with fail
 refine(HV.o _ HP1.o).mono ?_;rintro e w2 ⟨rfl,hb⟩;have HF2:=Za (HF1.o.trans (Zb hb));have HP2:=Za (HP1.o.old hb);have HR2:=Za (HR1.o.old hb);clear hb;go_wp2_with fail
 refine(HV2.o _ HP2.o).mono ?_;rintro e w3 ⟨rfl,hf,hp⟩;have HF3:=Za (HF2.o.trans hf);have HP3:=Za hp;have HR3:=Za (HR2.o.sfr hf HNE.o);clear hf hp;have hba:Below w3.heap.size w3 (w3.alloc (.cells #[.string ⟨#[40]⟩,.string ⟨#[41]⟩] 9)):=bA;have hwp:w3.heap.size≠p:=by have:=HP3.o.lt;omega
 have HF4:=Za (HF3.o.trans (Zb hba));have HP4:=Za (HP3.o.old hba);have HR4:=Za (HR3.o.old hba);have HWN:=Za (Rb p tb r [40] [41] _ HP4.o w3.heap.size 2 ((Zd w3 [.string ⟨#[40]⟩,.string ⟨#[41]⟩] 9).at 0 _ rfl) ((Zd w3 [.string ⟨#[40]⟩,.string ⟨#[41]⟩] 9).at 1 _ rfl) hwp);clear hba hwp;go_wp2_with fail
 refine(HWN.o).mono ?_;intro e w5 he
 cases hA:Ie [40] [41] r with
 |error n=>
  rw[hA]at he;obtain⟨hf,rfl⟩:=he;have HF:=Za (HF4.o.trans hf);have e1:Br (f+1) (t::r)=.error n:=by rw[Br,HU.o];dsimp only;rw[Af HN1.o];dsimp only;rw[An HY.o];dsimp only;unfold Ie at hA;cases hB:As [40] r with
   |error n=>rw[hB]at hA;injection hA with hA;subst hA;rfl
   |ok q=>rw[hB]at hA;dsimp only at hA ⊢;rw[hA]
  have e2:=HRR.o.symm.trans e1;subst e2;clear e1 hf;unfold Bk;go_wp2_with fail
  exact⟨rfl,HF.o,rfl⟩
 |ok r3=>
  rw[hA]at he;obtain⟨hf,rfl,hp⟩:=he;have HF5:=Za (HF4.o.trans hf);have HP5:=Za hp;have HR5:=Za (HR4.o.sfr hf HNE.o);clear hf hp;have HA5:=Za hA;clear hA;clear HWN;obtain⟨⟨x0,x1,x2,x3,x4⟩,xf0,xf1,xf2,xf3,xf4⟩:=Bu HR5.o;have xlt:=HR5.o.lt;go_wp2_with fail
  have e1:Br (f+1) (t::r)=.ok (.mk 7 0 0 [] [],r3):=by
     have hA:=HA5.o;rw[Br,HU.o];dsimp only;rw[Af HN1.o];dsimp only;rw[An HY.o];dsimp only;unfold Ie at hA
     cases hB:As [40] r with
     |error n=>rw[hB]at hA;cases hA
     |ok q=>rw[hB]at hA;dsimp only at hA ⊢;rw[hA]
  have e2:=HRR.o.symm.trans e1;subst e2;obtain⟨⟨d0,d1,d2,d3,d4⟩,_⟩:=Bu (Nv HR5.o (.int .i64 7) (.int .i64 0) (.int .i64 0) (.string ⟨#[]⟩) (.slice none 0 0));exact bodyPost_ret (v:=.agg #[.int .i64 7,.int .i64 0,.int .i64 0,.string ⟨#[]⟩,.slice none 0 0]) (by simp [results,Zi,go_sem,d0,d1,d2,d3,d4]) rfl (Oy (x:=.mk 7 0 0 [] []) HPW.o HF5.o HP5.o Ag.zero Gp _ _ _ _ _)
theorem fW(f:Nat)(t:Tk)(r:List Tk)(w:World)(p tb:Nat)(hl:4*(t::r).length+1≤f+1)(h:Ps w p tb (t::r))(hu:Fh (t::r)=none)(n1:isP [40] t=false)(n2:isP [114,101,97,100] t=false)(hk:t.kind=3):
  Calls Zc 118 #[.pointer (some ⟨p,0,none⟩)] w (Gu (ExH w.heap.size) w p tb (Br (f+1) (t::r))):=by
 have HPW:=Za h.lt;have HNE:Hid (w.heap.size≠p):=by show _≠_;have:=h.lt;omega
 have hb0:Below w.heap.size w (w.alloc (.cells #[.int .i64 0,.int .i64 0,.int .i64 0,.string ⟨#[]⟩,.slice none 0 0] 27)):=bA;have HF0:Hid (SFr p w (w.alloc (.cells #[.int .i64 0,.int .i64 0,.int .i64 0,.string ⟨#[]⟩,.slice none 0 0] 27))):=Zb hb0;have HR0:=Za (Zd w [.int .i64 0,.int .i64 0,.int .i64 0,.string ⟨#[]⟩,.slice none 0 0] 27);have HP0:=Za (h.old hb0);clear hb0;obtain⟨R,hR⟩:∃R,Br (f+1) (t::r)=R:=⟨_,rfl⟩;rw[hR];have HRR:=Za hR;clear hR;have HU:=Za hu;have HT:Hid (∀w1,Ps w1 p tb (t::r)→_):=fun w1 h1=>Lf p tb t r hu w1 h1
 have HN1:=Za n1;have HN2:=Za n2;have HV:Hid (∀w1,Ps w1 p tb (t::r)→_):=fun w1 h1=>Aj p tb t r [40] w1 h1 n1
 have HV2:Hid (∀w1,Ps w1 p tb (t::r)→_):=fun w1 h1=>Aj p tb t r [114,101,97,100] w1 h1 n2
 have HNX:Hid (∀w1,Ps w1 p tb (t::r)→_):=fun w1 h1=>Ha p tb t r w1 h1
 have HKD:Hid (∀w1,Ps w1 p tb (t::r)→_):=fun w1 h1=>Nt p tb (t::r) 3 (by decide) w1 h1
 have HKP:Hid (Lv 3 (t::r)=.ok (t,r)):=by show(if t.kind=3 then Except.ok (t,r)else Except.error t.line)=_;rw[if_pos hk]
 have HK:=Za hk;have hk2:(t.kind==3)=true:=by simp [hk]
 have HNUM:=Za (h.nums t List.mem_cons_self);clear hu n1 n2 hl hk;clear h;go_enter func118,Zh
 go_wp2_with fail
 refine(HT.o _ HP0.o).mono ?_;rintro e w1 ⟨rfl,hf,hp⟩;have HF1:=Za (HF0.o.trans hf);have HP1:=Za hp;have HR1:=Za (HR0.o.sfr hf HNE.o);clear hf hp;go_wp2_with fail
 refine(HV.o _ HP1.o).mono ?_;rintro e w2 ⟨rfl,hb⟩;have HF2:=Za (HF1.o.trans (Zb hb));have HP2:=Za (HP1.o.old hb);have HR2:=Za (HR1.o.old hb);clear hb;go_wp2_with fail
 refine(HV2.o _ HP2.o).mono ?_;rintro e w3 ⟨rfl,hb⟩;have HF3:=Za (HF2.o.trans (Zb hb));have HP3:=Za (HP2.o.old hb);have HR3:=Za (HR2.o.old hb);clear hb;go_wp2_with fail
 refine(HNX.o _ HP3.o).mono ?_;rintro e w4 ⟨rfl,hb⟩;have HF4:=Za (HF3.o.trans (Zb hb));have HP4:=Za (HP3.o.old hb);have HR4:=Za (HR3.o.old hb);clear hb;unfold tkV;go_wp2_with fail
 have hq:=HKD.o _ HP4.o;rw[HKP.o]at hq;refine hq.mono ?_;clear hq;rintro e w5 ⟨hf,v,rfl,hp,rfl⟩;have HF5:=Za (HF4.o.trans hf);have HP5:=Za hp;have HR5:=Za (HR4.o.sfr hf HNE.o);clear hf hp;unfold tkV;obtain⟨⟨x0,x1,x2,x3,x4⟩,xf0,xf1,xf2,xf3,xf4⟩:=Bu HR5.o;have xlt:=HR5.o.lt;go_wp2_with fail
 have e1:Br (f+1) (t::r)=.ok (.mk 1 0 t.num [] [],r):=by rw[Br,HU.o];dsimp only;rw[Af HN1.o];dsimp only;rw[Af HN2.o];dsimp only;rw[if_pos HK.o]
 have e2:=HRR.o.symm.trans e1;subst e2;obtain⟨⟨d0,d1,d2,d3,d4⟩,_⟩:=Bu (Nv HR5.o (.int .i64 1) (.int .i64 0) (.int .i64 t.num) (.string ⟨#[]⟩) (.slice none 0 0));exact bodyPost_ret (v:=.agg #[.int .i64 1,.int .i64 0,.int .i64 t.num,.string ⟨#[]⟩,.slice none 0 0]) (by simp [results,Zi,go_sem,d0,d1,d2,d3,d4]) rfl (Oy (x:=.mk 1 0 t.num [] []) HPW.o HF5.o HP5.o Ag.zero HNUM.o _ _ _ _ _)
theorem cZ(f:Nat)(ih:Ww f)(t:Tk)(r:List Tk)(w:World)(p tb:Nat)(hl:4*(t::r).length+1≤f+1)(h:Ps w p tb (t::r))(hu:Fh (t::r)=none)(n1:isP [40] t=false)(n2:isP [114,101,97,100] t=false)(hk:t.kind≠3):
  Calls Zc 118 #[.pointer (some ⟨p,0,none⟩)] w (Gu (ExH w.heap.size) w p tb (Br (f+1) (t::r))):=by
 have HPW:=Za h.lt;have HNE:Hid (w.heap.size≠p):=by show _≠_;have:=h.lt;omega
 have hb0:Below w.heap.size w (w.alloc (.cells #[.int .i64 0,.int .i64 0,.int .i64 0,.string ⟨#[]⟩,.slice none 0 0] 27)):=bA;have HF0:Hid (SFr p w (w.alloc (.cells #[.int .i64 0,.int .i64 0,.int .i64 0,.string ⟨#[]⟩,.slice none 0 0] 27))):=Zb hb0;have HR0:=Za (Zd w [.int .i64 0,.int .i64 0,.int .i64 0,.string ⟨#[]⟩,.slice none 0 0] 27);have HP0:=Za (h.old hb0);clear hb0;obtain⟨R,hR⟩:∃R,Br (f+1) (t::r)=R:=⟨_,rfl⟩;rw[hR];have HRR:=Za hR;clear hR;have HU:=Za hu;have HT:Hid (∀w1,Ps w1 p tb (t::r)→_):=fun w1 h1=>Lf p tb t r hu w1 h1
 have HN1:=Za n1;have HN2:=Za n2;have HV:Hid (∀w1,Ps w1 p tb (t::r)→_):=fun w1 h1=>Aj p tb t r [40] w1 h1 n1
 have HV2:Hid (∀w1,Ps w1 p tb (t::r)→_):=fun w1 h1=>Aj p tb t r [114,101,97,100] w1 h1 n2
 have HNX:Hid (∀w1,Ps w1 p tb (t::r)→_):=fun w1 h1=>Ha p tb t r w1 h1
 have HNM:Hid (∀w1,Ps w1 p tb (t::r)→_):=fun w1 h1=>Gd p tb (t::r) w1 h1
 rw[Zf]at hl;have HC:Hid (∀s w1,Ps w1 p tb r→_):=fun s w1 h1=>ih s r w1 p tb (by omega) h1
 have HK:=Za hk;have hk2:(t.kind==3)=false:=by simp [hk]
 have HNP:=Za (gY t r);clear hu n1 n2 hl hk ih;clear h;go_enter func118,Zh
 go_wp2_with fail
 refine(HT.o _ HP0.o).mono ?_;rintro e w1 ⟨rfl,hf,hp⟩;have HF1:=Za (HF0.o.trans hf);have HP1:=Za hp;have HR1:=Za (HR0.o.sfr hf HNE.o);clear hf hp;go_wp2_with fail
 refine(HV.o _ HP1.o).mono ?_;rintro e w2 ⟨rfl,hb⟩;have HF2:=Za (HF1.o.trans (Zb hb));have HP2:=Za (HP1.o.old hb);have HR2:=Za (HR1.o.old hb);clear hb;go_wp2_with fail
 refine(HV2.o _ HP2.o).mono ?_;rintro e w3 ⟨rfl,hb⟩;have HF3:=Za (HF2.o.trans (Zb hb));have HP3:=Za (HP2.o.old hb);have HR3:=Za (HR2.o.old hb);clear hb;go_wp2_with fail
 refine(HNX.o _ HP3.o).mono ?_;rintro e w4 ⟨rfl,hb⟩;have HF4:=Za (HF3.o.trans (Zb hb));have HP4:=Za (HP3.o.old hb);have HR4:=Za (HR3.o.old hb);clear hb;unfold tkV;go_wp2_with fail
 refine(HNM.o _ HP4.o).mono ?_;intro e w5 he
 cases hA:Fa (t::r)with
 |error n=>
  rw[hA]at he;obtain⟨hf,rfl⟩:=he;have HF:=Za (HF4.o.trans hf);have e1:Br (f+1) (t::r)=.error n:=by
    have hB:=HNP.o;rw[hA]at hB
    by_cases h1:t.kind=1
    ·rw[if_pos h1]at hB;cases hB
    ·rw[if_neg h1]at hB;injection hB with hB;subst hB
     rw[Br,HU.o];dsimp only;rw[Af HN1.o];dsimp only;rw[Af HN2.o];dsimp only;rw[if_neg HK.o,if_neg h1]
  have e2:=HRR.o.symm.trans e1;subst e2;clear e1 hf;unfold Bk;go_wp2_with fail
  exact⟨rfl,HF.o,rfl⟩
 |ok q=>
  obtain⟨s,r2⟩:=q;rw[hA]at he;obtain⟨hf,v,rfl,hp,hv⟩:=he;have hv:v=.string (Aa s):=hv;subst hv;obtain⟨h1,rfl,rfl⟩:t.kind=1∧s=t.text∧r=r2:=by
   have hB:=HNP.o;rw[hA]at hB
   by_cases h1:t.kind=1
   ·rw[if_pos h1]at hB;injection hB with hB;injection hB with hB1 hB2;exact⟨h1,hB1,hB2.symm⟩
   ·rw[if_neg h1]at hB;cases hB
  have HK1:=Za h1;clear h1;have HF5:=Za (HF4.o.trans hf);have HP5:=Za hp;have HR5:=Za (HR4.o.sfr hf HNE.o);clear hf hp;have HA5:=Za hA;clear hA;go_wp2_with fail
  refine(HC.o t.text _ HP5.o).mono ?_;intro e w6 he
  cases hA:Dj f t.text r with
  |error n=>
   rw[hA]at he;obtain⟨hf,rfl⟩:=he;have HF:=Za (HF5.o.trans hf);have e1:Br (f+1) (t::r)=.error n:=by rw[Br,HU.o];dsimp only;rw[Af HN1.o];dsimp only;rw[Af HN2.o];dsimp only;rw[if_neg HK.o,if_pos HK1.o,hA]
   have e2:=HRR.o.symm.trans e1;subst e2;clear e1 hf;unfold Bk;go_wp2_with fail
   exact⟨rfl,HF.o,rfl⟩
  |ok q=>
   obtain⟨x,r3⟩:=q;rw[hA]at he;obtain⟨hf,v,rfl,hp,hv⟩:=he;obtain⟨s3,rfl,hx,hn⟩:=hv;obtain⟨a1,a2,rfl⟩:=hx.shape;have HX6:=Za (hx.up (show w.heap.size+1≤w5.heap.size from HR5.o.lt));have HN:=Za hn;clear hx hn;have HF6:=Za (HF5.o.trans hf);have HP6:=Za hp;have HR6:=Za (HR5.o.sfr hf HNE.o);clear hf hp;have HA6:=Za hA;clear hA;obtain⟨⟨x0,x1,x2,x3,x4⟩,xf0,xf1,xf2,xf3,xf4⟩:=Bu HR6.o;have xlt:=HR6.o.lt;go_wp2_with fail
   have e1:Br (f+1) (t::r)=.ok (x,r3):=by rw[Br,HU.o];dsimp only;rw[Af HN1.o];dsimp only;rw[Af HN2.o];dsimp only;rw[if_neg HK.o,if_pos HK1.o,HA6.o]
   have e2:=HRR.o.symm.trans e1;subst e2;obtain⟨⟨d0,d1,d2,d3,d4⟩,_⟩:=Bu (Nv HR6.o (.int .i64 x.kind) (.int .i64 x.op) (.int .i64 x.n) (.string (Aa x.name)) (.slice a1 x.args.length a2));exact bodyPost_ret (v:=.agg #[.int .i64 x.kind,.int .i64 x.op,.int .i64 x.n,.string (Aa x.name),.slice a1 x.args.length a2]) (by simp [results,Zi,go_sem,d0,d1,d2,d3,d4]) rfl (Oy (x:=x) HPW.o HF6.o HP6.o HX6.o HN.o _ _ _ _ _)
theorem kY(f:Nat)(hT:Tb f)(hE:Ox f)(hN:Ww f):Tb (f+1):=by
 intro l w p tb hl h;obtain⟨t,r,rfl⟩:=h.ends.ne
 cases hu:Fh (t::r)with
 |some q=>
  obtain⟨op,q⟩:=q;obtain⟨rfl,_⟩:=Sj hu;exact eS f hT t _ w p tb hl h op hu
 |none=>
  cases h1:isP [40] t with
  |true=>exact aM f hE t r w p tb hl h hu h1
  |false=>
   cases h2:isP [114,101,97,100] t with
   |true=>exact cQ f t r w p tb hl h hu h1 h2
   |false=>
    by_cases hk:t.kind=3
    ·exact fW f t r w p tb hl h hu h1 h2 hk
    ·exact cZ f hN t r w p tb hl h hu h1 h2 hk
theorem jO(f:Nat)(hA:gI f)(hE:Ox f):Ww (f+1):=by
 intro s l w p tb hl h;obtain⟨t,r,rfl⟩:=h.ends.ne
 cases h1:isP [40] t with
 |true=>exact dX f hA s t r w p tb hl h h1
 |false=>
  cases h2:isP [91] t with
  |true=>exact iE f hE s t r w p tb hl h h1 h2
  |false=>exact eT f s t r w p tb h h1 h2
end Go.Proofs.YtcfpfnoldgnloaaGreatDoor
