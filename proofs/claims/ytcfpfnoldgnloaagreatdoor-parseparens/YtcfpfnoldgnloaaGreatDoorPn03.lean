/-
  named: what stands behind a name in an expression. Conditions: the parser lies in memory; the contracts of expr and args.
-/
import Derived.Test.YtcfpfnoldgnloaaGreatDoorPn00
import Derived.Laws.RangeAny
import Derived.Deep.OwnRows
import Derived.IntWalk
set_option linter.unusedVariables false
set_option linter.unusedSimpArgs false
namespace Go.Proofs.YtcfpfnoldgnloaaGreatDoor
open Go.RowKit
set_option maxHeartbeats 20000000
set_option maxRecDepth 100000
open Go.Lib renaming hid→Za
open Go.Proofs.Tryz renaming prog→Zb
open SFr renaming of_below→Zc
open Nat renaming le_refl→Zd
open List renaming range→Ze,length_cons→Zg
open Ac renaming new→Zf
def Dn(r:Int):Bool:=decide (r=95∨(97≤r∧r≤122)∨(65≤r∧r≤90))
def Di(r:Int):Bool:=decide (48≤r∧r≤57)
theorem Dq(r:Int)(w:World):
  Calls Zb 89 #[.int .i32 r] w fun e w'=>e= .returned (.bool (Dn r))∧w=w':=by
 go_enter Tryz.func89,Tryz.ntmps89
 go_wp2
 all_goals go_ret
 all_goals(refine⟨Be ?_,rfl⟩;rw[Bool.eq_iff_iff];simp [Dn];omega)
theorem Fl(r:Int)(w:World):
  Calls Zb 91 #[.int .i32 r] w fun e w'=>e= .returned (.bool (Di r))∧w=w':=by
 go_enter Tryz.func91,Tryz.ntmps91
 go_wp2
 all_goals go_ret
 all_goals(refine⟨Be ?_,rfl⟩;rw[Bool.eq_iff_iff];simp [Di];omega)
theorem Lu(l:Bs)(w:World):
  Calls Zb 144 #[.string (Aa l)] w fun e w'=>e= .returned (.bool (Gp l))∧w=w':=by
 go_enter Tryz.func144,Tryz.ntmps144
 go_wp2
 all_goals go_ret
 all_goals(refine⟨Be ?_,rfl⟩;simp_all [Gp,Ua])
theorem Gq(c:UInt8):Dn (c.toNat:Nat)=Bw c:=by
 rw[Bool.eq_iff_iff];simp [Dn,Bw,UInt8.le_iff_toNat_le,←UInt8.toNat_inj];omega
theorem He(c:UInt8):Di (c.toNat:Nat)=Ca c:=by
 rw[Bool.eq_iff_iff];simp [Di,Ca,UInt8.le_iff_toNat_le];omega
theorem Lg {r:Nat}(h:128≤r):Dn r=false:=by simp [Dn];omega
theorem Nf {r:Nat}(h:128≤r):Di r=false:=by simp [Di];omega
theorem Qn {c:UInt8}(h:128≤c.toNat):Bw c=false:=by rw[←Gq];exact Lg h
theorem Tc {c:UInt8}(h:128≤c.toNat):Ca c=false:=by rw[←He];exact Nf h
theorem aM(l:Bs)(k:Nat)(h:k<l.length):∃r d,Utf8.decode (Aa l) k=(r,d)∧1≤d∧Dn r=Bw l[k]∧Di r=Ca l[k]∧(r<128→r=l[k].toNat∧d=1)∧r≤2147483647:=by
 have hs:k<(Aa l).size:=h;have he:(Aa l)[k]'hs=l[k]:=rfl;have hle:=decode_le (Aa l) k
 by_cases ha:((Aa l)[k]'hs).toNat<128
 ·rw[decode_ascii _ _ hs ha]at hle
  exact⟨_,_,decode_ascii _ _ hs ha,Zd _,by rw[he];exact Gq _,by rw[he];exact He _,fun _=>⟨by rw[he],rfl⟩,hle⟩
 ·have hh:=decode_high (Aa l) k hs (by omega)
  have h2:128≤l[k].toNat:=by rw[←he];omega
  generalize Utf8.decode (Aa l) k=q at hh hle ⊢;exact⟨q.1,q.2,rfl,hh.2,by rw[Lg hh.1,Qn h2],by rw[Nf hh.1,Tc h2],fun h=>by omega,hle⟩
theorem Tt {r:Nat}(h:Dn r=true):r<128:=by simp [Dn]at h;omega
theorem Wp {r:Nat}(h:Di r=true):r<128:=by simp [Di]at h;omega
theorem aA(l:Bs)(h20:l.length≤20)(h0:l.isEmpty=false)(hw:Gp l=false)(w:World):
  Calls Zb 112 #[.string (Aa l)] w fun e w'=>e= .returned (.bool (Ec true l))∧Below w.heap.size w w':=by
 go_enter Tryz.func112,Tryz.ntmps112
 go_wp2_with (go_at_call 144;refine(Lu _ _).mono ?_;rintro e w1 ⟨rfl,rfl⟩)
 go_loopw [3,4] (fun _ _ wr=> ∃k:Nat,k≤l.length∧wr=w.iter (Aa l) k∧Hid (Ec true l=Ec (decide (k=0)) (l.drop k))) (fun _ _ wr=>l.length - wr.iterPos w.heap.size)
 case atStart=>exact⟨0,Nat.zero_le _,rfl,rfl⟩
 case round=>
  obtain⟨k,hk,rfl,HI⟩:=hrel
  by_cases hlt:k<l.length
  ·have hnx:=fun ty=>run_next_any (P:=Zb) w (Aa l) k ty hlt
   obtain⟨r,d,hd,h1,hl,hdg,hlow,hr⟩:=aM l k hlt;rw[hd]at hnx;have HL:=Za hl;have HD:=Za hdg;have HLOW:=Za hlow;have HE:Hid (Ec (decide (k=0)) (l.drop k)=((Bw l[k]||(!decide (k=0) && Ca l[k])) && Ec false (l.drop (k+1)))):=by
    show _=_
    rw[List.drop_eq_getElem_cons hlt];rfl
   clear hl hdg hlow hd
   by_cases q:Dn r=true
   ·go_wp2_with (go_at_call 89;refine(Dq _ _).mono ?_;rintro e w1 ⟨rfl,rfl⟩)
    have h3:=HLOW.out (Tt q);obtain rfl:=h3.2;go_roundw
    case rel=>exact⟨k+1,by omega,rfl,by show _=_;rw[HI.out,HE.out,←HL.out,q];simp⟩
    case measure=>simp;omega
   ·have q':Dn r=false:=by simpa using q
    clear q
    by_cases z:k=0
    ·subst z
     go_wp2_with (go_at_call 89;refine(Dq _ _).mono ?_;rintro e w1 ⟨rfl,rfl⟩)
     go_ret
     exact⟨Be (by rw[HI.out,HE.out,←HL.out,q'];simp),bA⟩
    ·have z':((k:Int)==0)=false:=by simpa using z
     by_cases g:Di r=true
     ·go_wp2_with (first|(go_at_call 89;refine(Dq _ _).mono ?_;rintro e w1 ⟨rfl,rfl⟩)|(go_at_call 91;refine(Fl _ _).mono ?_;rintro e w1 ⟨rfl,rfl⟩))
      have h3:=HLOW.out (Wp g);obtain rfl:=h3.2;go_roundw
      case rel=>exact⟨k+1,by omega,rfl,by show _=_;rw[HI.out,HE.out,←HL.out,←HD.out,q',g];simp [z]⟩
      case measure=>simp;omega
     ·have g':Di r=false:=by simpa using g
      clear g;go_wp2_with (first|(go_at_call 89;refine(Dq _ _).mono ?_;rintro e w1 ⟨rfl,rfl⟩)|(go_at_call 91;refine(Fl _ _).mono ?_;rintro e w1 ⟨rfl,rfl⟩))
      go_ret
      exact⟨Be (by rw[HI.out,HE.out,←HL.out,←HD.out,q',g'];simp),bA⟩
  ·have hnx:=fun ty=>run_next_end (P:=Zb) w (Aa l) k ty hlt
   go_wp2_with fail
   go_ret
   exact⟨Be (by rw[HI.out,List.drop_eq_nil_of_le (by omega)];rfl),bA⟩
theorem Hh(l:Bs)(w:World):
  Calls Zb 112 #[.string (Aa l)] w fun e w'=>e= .returned (.bool (Ap l))∧Below w.heap.size w w':=by
 by_cases h0:l=[]
 ·subst h0
  go_enter Tryz.func112,Tryz.ntmps112
  go_wp2_with fail
  go_ret
  exact⟨rfl,Below.refl _ _⟩
 ·have h0':l.isEmpty=false:=by simpa using h0
  by_cases h20:l.length≤20
  ·cases hw:Gp l
   ·have h:=aA l h20 h0' hw w
    have e:Ap l=Ec true l:=by simp [Ap,h0,h20,hw]
    rw[e];exact h
   ·go_enter Tryz.func112,Tryz.ntmps112
    go_wp2_with (go_at_call 144;refine(Lu _ _).mono ?_;rintro e w1 ⟨rfl,rfl⟩)
    go_ret
    exact⟨Be (by simp [Ap,hw]),Below.refl _ _⟩
  ·have h20':20<l.length:=by omega
   go_enter Tryz.func112,Tryz.ntmps112
   go_wp2_with fail
   go_ret
   exact⟨Be (by simp [Ap,h20]),Below.refl _ _⟩
structure Tk where
 kind:Int
 text:Bs
 num:Int
 line:Int
def Fw(t:Tk):List Value:=[.int .i64 t.kind,.string (Aa t.text),.int .i64 t.num,.int .i64 t.line]
theorem infoTk:(Tryz.prog.info? 50).map (fun i=>(i.zero,i.size,i.bytes))=some (some (.agg #[.int .i64 0,.string ⟨#[]⟩,.int .i64 0,.int .i64 0]),4,40):=by kernel_rfl
def En(w:World)(base:Nat)(l:List Tk)(v:Value):Prop:=w.ownsRow base 50 4 v l.length (l.flatMap Fw)
theorem En.zero(w:World)(base:Nat):En w base [] (.slice none 0 0):=⟨rfl,.inl ⟨rfl,rfl⟩⟩
theorem En.ge {w:World}{base:Nat}{l:List Tk}{v:Value}(h:En w base l v){k:Nat}(hk:v.ownBlock=some k):base≤k∧k<w.heap.size:=World.ownsRow.lt h k hk
theorem En.snoc {w':World}{base:Nat}{l:List Tk}(a:Tk){g cap:Nat}(hown:w'.ownsRow base 50 4 (.slice (some ⟨g,0,none⟩) (l.length+1) cap) (l.length+1) (l.flatMap Fw++Fw a)):
  En w' base (l++[a]) (.slice (some ⟨g,0,none⟩) (l.length+1) cap):=by
 unfold En;simpa using hown
theorem Nn(a:Tk):∀u,u∈Fw a→u.oneCell'=true:=by
 intro u hu;simp only[Fw,List.mem_cons,List.not_mem_nil,or_false]at hu;rcases hu with rfl|rfl|rfl|rfl<;>rfl
abbrev PR(α:Type):=Except Int (α ×List Tk)
def Hp(l:List Tk):Int:=(l.head?.map (·.line)).getD 0
def isP(s:Bs)(t:Tk):Bool:=(t.kind==2||t.kind==4) && t.text==s
def Bk(s:Bs):List Tk→Option (List Tk)
 |[]=>none
 |t::r=>if isP s t=true then some r else none
def Ak(s:Bs)(l:List Tk):Except Int (List Tk):=match Bk s l with
 |some r=> .ok r
 |none=> .error (Hp l)
def Il(k:Int):List Tk→PR Tk
 |[]=> .error 0
 |t::r=>if t.kind=k then .ok (t,r)else .error t.line
def Dg(l:List Tk):PR Bs:=match Il 1 l with
 | .ok (t,r)=> .ok (t.text,r)
 | .error e=> .error e
def Dc(l:List Tk):Option (Int ×List Tk):=
 match Bk (Al 17) l with
 |some r=>some (17,r)
 |none=>match Bk (Al 18) l with
  |some r=>some (18,r)
  |none=>match Bk (Al 19) l with
   |some r=>some (19,r)
   |none=>none
def Cb(lv:Int)(l:List Tk):Int:=match l with
 |[]=>0
 |t::_=>((((Ze 16).map fun i:Nat=>(i:Int)+1).find? fun op=>isP (Al op) t && decide (lv≤Aj op))).getD 0
mutual
def Aq:Nat→Int→List Tk→PR Ex
 |0,_,l=> .error (Hp l)
 |f+1,lv,l=>match Bb f l with
  | .error e=> .error e
  | .ok (x,r)=>Gg f lv x r
def Gg:Nat→Int→Ex→List Tk→PR Ex
 |0,_,_,l=> .error (Hp l)
 |f+1,lv,x,l=>if Cb lv l=0 then .ok (x,l)else
  match Aq f (Aj (Cb lv l)+1) (l.drop 1)with
  | .error e=> .error e
  | .ok (y,r)=>Gg f lv (.mk 4 (Cb lv l) 0 [] [x,y]) r
def Bb:Nat→List Tk→PR Ex
 |0,l=> .error (Hp l)
 |f+1,l=>match Dc l with
  |some (op,r)=>(match Bb f r with
   | .error e=> .error e
   | .ok (x,r)=> .ok (.mk 3 op 0 [] [x],r))
  |none=>match Bk [40] l with
   |some r=>(match Aq f 1 r with
    | .error e=> .error e
    | .ok (x,r)=>match Ak [41] r with
     | .error e=> .error e
     | .ok r=> .ok (x,r))
   |none=>match Bk [114,101,97,100] l with
    |some r=>(match Ak [40] r with
     | .error e=> .error e
     | .ok r=>match Ak [41] r with
      | .error e=> .error e
      | .ok r=> .ok (.mk 7 0 0 [] [],r))
    |none=>match l with
     |[]=> .error 0
     |t::r=>if t.kind=3 then .ok (.mk 1 0 t.num [] [],r)else
      if t.kind=1 then Cf f t.text r else .error t.line
def Cf:Nat→Bs→List Tk→PR Ex
 |0,_,l=> .error (Hp l)
 |f+1,s,l=>match Bk [40] l with
  |some r=>(match Ei f r with
   | .error e=> .error e
   | .ok (a,r)=> .ok (.mk 5 0 0 s a,r))
  |none=>match Bk [91] l with
   |some r=>(match Aq f 1 r with
    | .error e=> .error e
    | .ok (x,r)=>match Ak [93] r with
     | .error e=> .error e
     | .ok r=> .ok (.mk 6 0 0 s [x],r))
   |none=> .ok (.mk 2 0 0 s [],l)
def Ei:Nat→List Tk→PR (List Ex)
 |0,l=> .error (Hp l)
 |f+1,l=>match Bk [41] l with
  |some r=> .ok ([],r)
  |none=>Gb f [] l
def Gb:Nat→List Ex→List Tk→PR (List Ex)
 |0,_,l=> .error (Hp l)
 |f+1,a,l=>match Aq f 1 l with
  | .error e=> .error e
  | .ok (x,r)=>match Bk [44] r with
   |some r=>Gb f (a++[x]) r
   |none=>match Ak [41] r with
    | .error e=> .error e
    | .ok r=> .ok (a++[x],r)
end
def Bz(f:Nat)(l:List Tk):PR Ex:=match Ak [40] l with
 | .error e=> .error e
 | .ok r=>match Aq f 1 r with
  | .error e=> .error e
  | .ok (x,r)=>match Ak [41] r with
   | .error e=> .error e
   | .ok r=> .ok (x,r)
def An(f:Nat)(l:List Tk):PR St:=
 match Bk [98,114,101,97,107] l with
 |some r=> .ok (.mk 5 [] [] [] [],r)
 |none=>match Bk [99,111,110,116,105,110,117,101] l with
 |some r=> .ok (.mk 6 [] [] [] [],r)
 |none=>match Bk [114,101,116,117,114,110] l with
 |some r=>(match Aq f 1 r with
  | .error e=> .error e
  | .ok (x,r)=> .ok (.mk 7 [] [x] [] [],r))
 |none=>match Bk [112,114,105,110,116] l with
 |some r=>(match Bz f r with
  | .error e=> .error e
  | .ok (x,r)=> .ok (.mk 8 [] [x] [] [],r))
 |none=>match Bk [116,114,97,112] l with
 |some r=>(match Bz f r with
  | .error e=> .error e
  | .ok (x,r)=> .ok (.mk 9 [] [x] [] [],r))
 |none=>match Dg l with
 | .error e=> .error e
 | .ok (s,l)=>match Bk [40] l with
 |some r=>(match Ei f r with
  | .error e=> .error e
  | .ok (a,r)=> .ok (.mk 10 [] [.mk 5 0 0 s a] [] [],r))
 |none=>match Bk [91] l with
 |some r=>(match Aq f 1 r with
  | .error e=> .error e
  | .ok (x,r)=>match Ak [93] r with
   | .error e=> .error e
   | .ok r=>match Ak [61] r with
    | .error e=> .error e
    | .ok r=>match Aq f 1 r with
     | .error e=> .error e
     | .ok (y,r)=> .ok (.mk 2 s [x,y] [] [],r))
 |none=>match Ak [61] l with
  | .error e=> .error e
  | .ok r=>match Aq f 1 r with
   | .error e=> .error e
   | .ok (x,r)=> .ok (.mk 1 s [x] [] [],r)
mutual
def Da:Nat→List Tk→PR St
 |0,l=> .error (Hp l)
 |f+1,l=>match Bk [105,102] l with
  |some r=>(match Bz f r with
   | .error e=> .error e
   | .ok (x,r)=>match Ak [123] r with
    | .error e=> .error e
    | .ok r=>match Cz f [] r with
     | .error e=> .error e
     | .ok (a,r)=>match Bk [101,108,115,101] r with
      |none=> .ok (.mk 3 [] [x] a [],r)
      |some r=>match Ak [123] r with
       | .error e=> .error e
       | .ok r=>match Cz f [] r with
        | .error e=> .error e
        | .ok (b,r)=> .ok (.mk 3 [] [x] a b,r))
  |none=>match Bk [119,104,105,108,101] l with
  |some r=>(match Bz f r with
   | .error e=> .error e
   | .ok (x,r)=>match Ak [123] r with
    | .error e=> .error e
    | .ok r=>match Cz f [] r with
     | .error e=> .error e
     | .ok (a,r)=> .ok (.mk 4 [] [x] a [],r))
  |none=>match An f l with
   | .error e=> .error e
   | .ok (x,r)=>match Ak [59] r with
    | .error e=> .error e
    | .ok r=> .ok (x,r)
def Cz:Nat→List St→List Tk→PR (List St)
 |0,_,l=> .error (Hp l)
 |f+1,a,l=>match Bk [125] l with
  |some r=> .ok (a,r)
  |none=>match Da f l with
   | .error e=> .error e
   | .ok (x,r)=>Cz f (a++[x]) r
end
def Jh:Nat→List Bs→List Tk→PR (List Bs)
 |0,_,l=> .error (Hp l)
 |f+1,a,l=>match Ak [105,110,116] l with
  | .error e=> .error e
  | .ok r=>match Dg r with
   | .error e=> .error e
   | .ok (s,r)=>match Bk [44] r with
    |some r=>Jh f (a++[s]) r
    |none=>match Ak [41] r with
     | .error e=> .error e
     | .ok r=> .ok (a++[s],r)
def Ha:Nat→List Bs→List Tk→PR (List Bs)
 |0,_,l=> .error (Hp l)
 |f+1,a,l=>match Bk [105,110,116] l with
  |none=> .ok (a,l)
  |some r=>match Dg r with
   | .error e=> .error e
   | .ok (s,r)=>match Ak [59] r with
    | .error e=> .error e
    | .ok r=>Ha f (a++[s]) r
def Fk(f:Nat)(s:Bs)(l:List Tk):PR Fu:=
 match(match Bk [41] l with|some r=>(.ok ([],r):PR (List Bs))|none=>Jh f [] l)with
 | .error e=> .error e
 | .ok (ps,r)=>match Ak [123] r with
  | .error e=> .error e
  | .ok r=>match Ha f [] r with
   | .error e=> .error e
   | .ok (ls,r)=>match Cz f [] r with
    | .error e=> .error e
    | .ok (b,r)=> .ok (⟨s,ps,ls,b⟩,r)
def Fj:Nat→Pr→List Tk→PR Pr
 |0,_,l=> .error (Hp l)
 |f+1,p,l=>if(l.head?.map (·.kind)).getD 0=5 then .ok (p,l)else
  match Ak [105,110,116] l with
  | .error e=> .error e
  | .ok r=>match Dg r with
   | .error e=> .error e
   | .ok (s,r)=>match(if p.funcs.isEmpty=true then Bk [91] r else none)with
    |some r=>(match Il 3 r with
     | .error e=> .error e
     | .ok (t,r)=>match Ak [93] r with
      | .error e=> .error e
      | .ok r=>match Ak [59] r with
       | .error e=> .error e
       | .ok r=>Fj f {p with arrays:=p.arrays++[⟨s,t.num⟩]} r)
    |none=>match Ak [40] r with
     | .error e=> .error e
     | .ok r=>match Fk f s r with
      | .error e=> .error e
      | .ok (x,r)=>Fj f {p with funcs:=p.funcs++[x]} r
theorem Ao {s:Bs}{t:Tk}{r:List Tk}(h:isP s t=true):Bk s (t::r)=some r:=by
 show(if isP s t=true then some r else none)=some r
 rw[if_pos h]
theorem Ad {s:Bs}{t:Tk}{r:List Tk}(h:isP s t=false):Bk s (t::r)=none:=by
 show(if isP s t=true then some r else none)=none
 rw[if_neg (by rw[h];decide)]
theorem Gs {s:Bs}{t:Tk}{r:List Tk}(h:isP s t=true):Ak s (t::r)= .ok r:=by
 unfold Ak;rw[Ao h]
theorem Br {s:Bs}{l r:List Tk}(h:Bk s l=some r):r.length<l.length:=by
 cases l with
 |nil=>cases h
 |cons t l=>
  have h:(if isP s t=true then some l else none)=some r:=h;split at h
  ·injection h with h;subst h;simp
  ·cases h
theorem Az {s:Bs}{l r:List Tk}(h:Ak s l= .ok r):r.length<l.length:=by
 unfold Ak at h
 cases ht:Bk s l with
 |none=>rw[ht]at h;cases h
 |some q=>rw[ht]at h;injection h with h;subst h;exact Br ht
theorem Re {k:Int}{l r:List Tk}{t:Tk}(h:Il k l= .ok (t,r)):r.length<l.length:=by
 cases l with
 |nil=>cases h
 |cons u l=>
  have h:(if u.kind=k then Except.ok (u,l)else Except.error u.line)= .ok (t,r):=h;split at h
  ·injection h with h;injection h with h1 h2;subst h2;simp
  ·cases h
theorem Fb {l r:List Tk}{s:Bs}(h:Dg l= .ok (s,r)):r.length<l.length:=by
 unfold Dg at h
 cases hk:Il 1 l with
 |error e=>rw[hk]at h;cases h
 |ok q=>
  obtain⟨t,q⟩:=q;rw[hk]at h;injection h with h;injection h with h1 h2;subst h2
  exact Re hk
theorem Xo {l r:List Tk}{op:Int}(h:Dc l=some (op,r)):r.length<l.length:=by
 unfold Dc at h
 cases h1:Bk (Al 17) l with
 |some q=>rw[h1]at h;injection h with h;injection h with _ h;subst h;exact Br h1
 |none=>
  rw[h1]at h;dsimp only at h
  cases h2:Bk (Al 18) l with
  |some q=>rw[h2]at h;injection h with h;injection h with _ h;subst h;exact Br h2
  |none=>
   rw[h2]at h;dsimp only at h
   cases h3:Bk (Al 19) l with
   |some q=>rw[h3]at h;injection h with h;injection h with _ h;subst h;exact Br h3
   |none=>rw[h3]at h;cases h
theorem Db:∀f:Nat,
  (∀lv l x r,Aq f lv l= .ok (x,r)→r.length<l.length)∧(∀lv y l x r,Gg f lv y l= .ok (x,r)→r.length≤l.length)∧(∀l x r,Bb f l= .ok (x,r)→r.length<l.length)∧
  (∀s l x r,Cf f s l= .ok (x,r)→r.length≤l.length)∧(∀l x r,Ei f l= .ok (x,r)→r.length<l.length)∧(∀a l x r,Gb f a l= .ok (x,r)→r.length<l.length)
 |0=>⟨fun lv l x r h=>(by cases h),fun lv y l x r h=>(by cases h),fun l x r h=>(by cases h),fun s l x r h=>(by cases h),fun l x r h=>(by cases h),fun a l x r h=>(by cases h)⟩
 |f+1=>by
  obtain⟨ic,il,it,inm,ia,im⟩:=Db f;refine⟨?_,?_,?_,?_,?_,?_⟩
  ·intro lv l x r h
   unfold Aq at h
   cases ht:Bb f l with
   |error e=>rw[ht]at h;cases h
   |ok q=>
    obtain⟨y,q⟩:=q;rw[ht]at h;have h1:=it _ _ _ ht;have h2:=il _ _ _ _ _ h;omega
  ·intro lv y l x r h
   unfold Gg at h;split at h
   ·injection h with h;injection h with _ h;subst h;exact Zd _
   ·cases hc:Aq f (Aj (Cb lv l)+1) (l.drop 1)with
    |error e=>rw[hc]at h;cases h
    |ok q=>
     obtain⟨z,q⟩:=q;rw[hc]at h;have h1:=ic _ _ _ _ hc;have h2:=il _ _ _ _ _ h;rw[List.length_drop]at h1;omega
  ·intro l x r h
   unfold Bb at h
   cases hu:Dc l with
   |some q=>
    obtain⟨op,q⟩:=q;rw[hu]at h;dsimp only at h;have h0:=Xo hu
    cases ht:Bb f q with
    |error e=>rw[ht]at h;cases h
    |ok z=>
     obtain⟨y,z⟩:=z;rw[ht]at h;injection h with h;injection h with _ h;subst h
     have:=it _ _ _ ht;omega
   |none=>
    rw[hu]at h;dsimp only at h
    cases h1:Bk [40] l with
    |some q=>
     rw[h1]at h;dsimp only at h;have h0:=Br h1
     cases hc:Aq f 1 q with
     |error e=>rw[hc]at h;cases h
     |ok z=>
      obtain⟨y,z⟩:=z;rw[hc]at h;dsimp only at h;have h2:=ic _ _ _ _ hc
      cases hw:Ak [41] z with
      |error e=>rw[hw]at h;cases h
      |ok v=>
       rw[hw]at h;injection h with h;injection h with _ h;subst h
       have:=Az hw;omega
    |none=>
     rw[h1]at h;dsimp only at h
     cases h2:Bk [114,101,97,100] l with
     |some q=>
      rw[h2]at h;dsimp only at h;have h0:=Br h2
      cases hw:Ak [40] q with
      |error e=>rw[hw]at h;cases h
      |ok v=>
       rw[hw]at h;dsimp only at h;have h3:=Az hw
       cases hz:Ak [41] v with
       |error e=>rw[hz]at h;cases h
       |ok z=>
        rw[hz]at h;injection h with h;injection h with _ h;subst h
        have:=Az hz;omega
     |none=>
      rw[h2]at h;dsimp only at h
      cases l with
      |nil=>cases h
      |cons t l=>
       dsimp only at h;split at h
       ·injection h with h;injection h with _ h;subst h;simp
       ·split at h
        ·have:=inm _ _ _ _ h;simp;omega
        ·cases h
  ·intro s l x r h
   unfold Cf at h
   cases h1:Bk [40] l with
   |some q=>
    rw[h1]at h;dsimp only at h;have h0:=Br h1
    cases ha:Ei f q with
    |error e=>rw[ha]at h;cases h
    |ok z=>
     obtain⟨y,z⟩:=z;rw[ha]at h;injection h with h;injection h with _ h;subst h
     have:=ia _ _ _ ha;omega
   |none=>
    rw[h1]at h;dsimp only at h
    cases h2:Bk [91] l with
    |some q=>
     rw[h2]at h;dsimp only at h;have h0:=Br h2
     cases hc:Aq f 1 q with
     |error e=>rw[hc]at h;cases h
     |ok z=>
      obtain⟨y,z⟩:=z;rw[hc]at h;dsimp only at h;have h3:=ic _ _ _ _ hc
      cases hw:Ak [93] z with
      |error e=>rw[hw]at h;cases h
      |ok v=>
       rw[hw]at h;injection h with h;injection h with _ h;subst h
       have:=Az hw;omega
    |none=>
     rw[h2]at h;injection h with h;injection h with _ h;subst h;exact Zd _
  ·intro l x r h
   unfold Ei at h
   cases h1:Bk [41] l with
   |some q=>
    rw[h1]at h;injection h with h;injection h with _ h;subst h
    exact Br h1
   |none=>rw[h1]at h;exact im _ _ _ _ h
  ·intro a l x r h
   unfold Gb at h
   cases hc:Aq f 1 l with
   |error e=>rw[hc]at h;cases h
   |ok z=>
    obtain⟨y,z⟩:=z;rw[hc]at h;dsimp only at h;have h3:=ic _ _ _ _ hc
    cases h2:Bk [44] z with
    |some q=>
     rw[h2]at h;have h0:=Br h2;have:=im _ _ _ _ h;omega
    |none=>
     rw[h2]at h;dsimp only at h
     cases hw:Ak [41] z with
     |error e=>rw[hw]at h;cases h
     |ok v=>
      rw[hw]at h;injection h with h;injection h with _ h;subst h
      have:=Az hw;omega
def Iq(w:World)(tb:Nat):Nat→List Tk→Prop
 |_,[]=>True
 |o,t::l=>w.cell? ⟨tb,o,none⟩=some (.int .i64 t.kind)∧w.cell? ⟨tb,o+1,none⟩=some (.string (Aa t.text))∧w.cell? ⟨tb,o+2,none⟩=some (.int .i64 t.num)∧w.cell? ⟨tb,o+3,none⟩=some (.int .i64 t.line)∧Iq w tb (o+4) l
theorem Iq.keep {w w':World}{tb:Nat}(hk:Cp (· =tb) w w'):∀ {l:List Tk} {o:Nat},Iq w tb o l→Iq w' tb o l
 |[],_,_=>trivial
 |t::l,o,h=>⟨hk _ _ _ rfl h.1,hk _ _ _ rfl h.2.1,hk _ _ _ rfl h.2.2.1,hk _ _ _ rfl h.2.2.2.1,Iq.keep hk h.2.2.2.2⟩
def Gh:List Tk→Prop
 |[]=>False
 |[t]=>t.kind=5
 |_::u::r=>Gh (u::r)
theorem Gh.tail {t:Tk}{r:List Tk}(h:Gh (t::r))(hk:t.kind≠5):Gh r:=by
 cases r with
 |nil=>exact absurd h hk
 |cons u r=>exact h
theorem Gh.ne {l:List Tk}(h:Gh l):∃t r,l=t::r:=by
 cases l with
 |nil=>exact h.elim
 |cons t r=>exact⟨t,r,rfl⟩
theorem Ot {s:Bs}{t:Tk}(h:isP s t=true):t.kind≠5:=by
 intro e;unfold isP at h;rw[e]at h;simp at h
structure Si (w:World)(p tb o cap:Nat)(l:List Tk):Prop where
 own:Ac w p [.slice (some ⟨tb,o,none⟩) l.length cap] 113
 row:Iq w tb o l
 hcap:l.length≤cap
 fit:l.length≤1000000
 lt:tb<p
 ends:Gh l
 nums:∀t,t∈l→I64 t.num
def Ps(w:World)(p tb:Nat)(l:List Tk):Prop:= ∃o cap,Si w p tb o cap l
theorem Si.old {w w':World}{p tb o cap:Nat}{l:List Tk}(h:Si w p tb o cap l)(hb:Below w.heap.size w w'):Si w' p tb o cap l:=
 ⟨h.own.old hb,h.row.keep (Ba hb),h.hcap,h.fit,h.lt,h.ends,h.nums⟩
theorem Ps.old {w w':World}{p tb:Nat}{l:List Tk}(h:Ps w p tb l)(hb:Below w.heap.size w w'):Ps w' p tb l:=by
 obtain⟨o,cap,h⟩:=h;exact⟨o,cap,h.old hb⟩
theorem Ps.alloc {w:World}{p tb:Nat}{l:List Tk}(h:Ps w p tb l)(x:Obj):Ps (w.alloc x) p tb l:=h.old (bA)
theorem Si.other {w:World}{p tb o cap:Nat}{l:List Tk}(h:Si w p tb o cap l){k:Nat}(hk:p<k)(i:Nat)(v:Value):Si (w.setCell ⟨k,i,none⟩ v) p tb o cap l:=
 ⟨h.own.other (Nat.ne_of_lt hk) i v,h.row.keep (Am w (by have:=h.lt;show ¬k=tb;omega) i v),h.hcap,h.fit,h.lt,h.ends,h.nums⟩
theorem Ps.other {w:World}{p tb:Nat}{l:List Tk}(h:Ps w p tb l){k:Nat}(hk:p<k)(i:Nat)(v:Value):Ps (w.setCell ⟨k,i,none⟩ v) p tb l:=by
 obtain⟨o,cap,h⟩:=h;exact⟨o,cap,h.other hk i v⟩
theorem Ps.lt {w:World}{p tb:Nat}{l:List Tk}(h:Ps w p tb l):p<w.heap.size:=by
 obtain⟨o,cap,h⟩:=h;exact h.own.lt
theorem Ps.ends {w:World}{p tb:Nat}{l:List Tk}(h:Ps w p tb l):Gh l:=by
 obtain⟨o,cap,h⟩:=h;exact h.ends
theorem Ps.nums {w:World}{p tb:Nat}{l:List Tk}(h:Ps w p tb l):∀t,t∈l→I64 t.num:=by
 obtain⟨o,cap,h⟩:=h;exact h.nums
theorem Si.take {w:World}{p tb o cap:Nat}{t:Tk}{r:List Tk}(h:Si w p tb o cap (t::r))(hk:t.kind≠5):
  Ps (w.setCell ⟨p,0,none⟩ (.slice (some ⟨tb,o+4,none⟩) r.length (cap - 1))) p tb r∧SFr p w (w.setCell ⟨p,0,none⟩ (.slice (some ⟨tb,o+4,none⟩) r.length (cap - 1))):=by
 have hc:=h.hcap;have hf:=h.fit;have hl:=h.lt;rw[Zg]at hc hf;refine⟨⟨o+4,cap - 1,?_,?_,by omega,by omega,hl,h.ends.tail hk,fun x hx=>h.nums x (List.mem_cons_of_mem _ hx)⟩,⟨rfl,rfl,rfl,by simp [World.setCell],fun k _ hk=>Below.heap_setCell _ _ _ _ hk⟩⟩
 ·exact h.own.set 0 _
 ·exact Iq.keep (Am w (by show ¬p=tb;omega) 0 _) h.row.2.2.2.2
def tkV(t:Tk):Value:= .agg #[.int .i64 t.kind,.string (Aa t.text),.int .i64 t.num,.int .i64 t.line]
def Ay(n:Int):Ending:= .panicked [{v:= .iface 110 (.agg #[.int .i64 n]),recovered:=false}]
def Dt {α:Type}(H:α→Value→World→Prop)(w:World)(p tb:Nat)(r:PR α)(e:Ending)(w':World):Prop:=
 SFr p w w'∧match r with
  | .ok (x,l)=> ∃v,e= .returned v∧Ps w' p tb l∧H x v w'
  | .error n=>e=Ay n
theorem Dx(p tb:Nat)(t:Tk)(r:List Tk)(w:World)(h:Ps w p tb (t::r)):
  Calls Zb 58 #[.pointer (some ⟨p,0,none⟩)] w fun e w'=>e= .returned (tkV t)∧Below w.heap.size w w':=by
 obtain⟨o,cap,h⟩:=h;have hb1:Below w.heap.size w (w.alloc (.cells #[.int .i64 0,.string ⟨#[]⟩,.int .i64 0,.int .i64 0] 50)):=bA;have h1:=h.old hb1;have c0:=h1.own.at 0 _ rfl;obtain⟨r0,r1,r2,r3,_⟩:=h1.row;have hpl:=h.own.lt;have hcap:=h.hcap;have htl:=h.lt;have hn0:(0:Int)<((t::r).length:Int):=by rw[Zg];omega
 have hn1:0<(t::r).length:=by simp
 clear h h1 hb1;generalize (t::r).length=n at*;go_enter Tryz.func58,Tryz.ntmps58
 go_wp2_with fail
 exact bodyPost_ret (v:=tkV t) (by simp [tkV,results,Tryz.results58,go_sem]) rfl ⟨rfl,bA⟩
@[go_sem] theorem field_tk0 (a b c d:Value) (w:World):(Instr.field 50 (.agg #[a,b,c,d]) 0).run Zb w= .ok a w:=by kernel_rfl
@[go_sem] theorem field_tk1 (a b c d:Value) (w:World):(Instr.field 50 (.agg #[a,b,c,d]) 1).run Zb w= .ok b w:=by kernel_rfl
@[go_sem] theorem field_tk3 (a b c d:Value) (w:World):(Instr.field 50 (.agg #[a,b,c,d]) 3).run Zb w= .ok d w:=by kernel_rfl
theorem Gl(p tb:Nat)(t:Tk)(r:List Tk)(w:World)(h:Ps w p tb (t::r)):
  Calls Zb 59 #[.pointer (some ⟨p,0,none⟩)] w fun e w'=>e=Ay t.line∧Below w.heap.size w w':=by
 have HN:=Za (Dx p tb t r w h);clear h;go_enter Tryz.func59,Tryz.ntmps59
 go_wp2_with fail
 refine HN.out.mono ?_;rintro e w1 ⟨rfl,hb⟩;unfold tkV;have HB:=Za hb;clear hb;go_wp2_with fail
 exact⟨rfl,rfl,HB.out⟩
theorem Om(p tb:Nat)(t:Tk)(r:List Tk)(s:Bs)(w:World)(h:Ps w p tb (t::r)):
  Calls Zb 124 #[.pointer (some ⟨p,0,none⟩),.string (Aa s)] w fun e w'=>e= .returned (.bool (isP s t))∧Below w.heap.size w w':=by
 have HN:=Za (Dx p tb t r w h);clear h;have hbi:isP s t=((t.kind==2||t.kind==4) && t.text==s):=rfl;rw[hbi]
 cases e2:(t.kind==2)
 ·cases e4:(t.kind==4)
  ·clear hbi
   go_enter Tryz.func124,Tryz.ntmps124
   go_wp2_with fail
   refine HN.out.mono ?_;rintro e w1 ⟨rfl,hb⟩;unfold tkV;have HB:=Za hb;clear hb;go_wp2_with fail
   go_ret
   exact⟨rfl,HB.out.alloc HB.out.size _⟩
  ·have n2:t.kind≠2:=by simpa using e2
   clear hbi;go_enter Tryz.func124,Tryz.ntmps124
   go_wp2_with fail
   refine HN.out.mono ?_;rintro e w1 ⟨rfl,hb⟩;unfold tkV;have HB:=Za hb;clear hb;go_wp2_with fail
   go_ret
   exact⟨by simp,HB.out.alloc HB.out.size _⟩
 ·clear hbi
  go_enter Tryz.func124,Tryz.ntmps124
  go_wp2_with fail
  refine HN.out.mono ?_;rintro e w1 ⟨rfl,hb⟩;unfold tkV;have HB:=Za hb;clear hb;go_wp2_with fail
  go_ret
  exact⟨by simp,HB.out.alloc HB.out.size _⟩
theorem Ai(p tb:Nat)(t:Tk)(r:List Tk)(s:Bs)(w:World)(h:Ps w p tb (t::r))(hs:isP s t=false):
  Calls Zb 66 #[.pointer (some ⟨p,0,none⟩),.string (Aa s)] w fun e w'=>e= .returned (.bool false)∧Below w.heap.size w w':=by
 have HN:=Za (Om p tb t r s w h);rw[hs]at HN;clear h hs;go_enter Tryz.func66,Tryz.ntmps66
 go_wp2_with fail
 refine HN.out.mono ?_;rintro e w1 ⟨rfl,hb⟩;have HB:=Za hb;clear hb;go_wp2_with fail
 go_ret
 exact⟨rfl,HB.out⟩
theorem Bc(p tb:Nat)(t:Tk)(r:List Tk)(s:Bs)(w:World)(h:Ps w p tb (t::r))(hs:isP s t=true):
  Calls Zb 66 #[.pointer (some ⟨p,0,none⟩),.string (Aa s)] w fun e w'=>e= .returned (.bool true)∧SFr p w w'∧Ps w' p tb r:=by
 have HN:=Za (Om p tb t r s w h);rw[hs]at HN;have HK:=Za (Ot hs);have HP:=Za h;clear h hs;go_enter Tryz.func66,Tryz.ntmps66
 go_wp2_with fail
 refine HN.out.mono ?_;rintro e w1 ⟨rfl,hb⟩;have HB:=Za hb;obtain⟨o,cap,h1⟩:=HP.out.old hb;have HT:=Za (h1.take HK.out);have c0:=h1.own.at 0 _ rfl;have z0:=h1.own.fz 0;have hpl:=h1.own.lt;have hcap:=h1.hcap;have hfit:=h1.fit;obtain⟨n,hn⟩:∃n,r.length=n:=⟨_,rfl⟩;rw[Zg,hn]at c0 hcap;rw[hn]at HT;have hr0:0<n:=by
  obtain⟨u,q,rfl⟩:=(h1.ends.tail HK.out).ne;rw[←hn];simp
 have i1:(1:Int)≤(n:Int)+1:=by omega
 have i2:((n:Int)+1)≤(cap:Int):=by omega
 have i3:¬(cap:Int) - 1=0:=by omega
 have i4:¬cap - 1=0:=by omega
 clear hb h1;go_wp2_with fail
 go_ret
 exact⟨rfl,(Zc HB.out).trans HT.out.2,HT.out.1⟩
def WEnd(w:World)(p tb:Nat)(r:Except Int (List Tk))(e:Ending)(w':World):Prop:=
 SFr p w w'∧match r with
  | .ok l=>e= .returned (.tuple #[])∧Ps w' p tb l
  | .error n=>e=Ay n
theorem Cd(p tb:Nat)(l:List Tk)(s:Bs)(w:World)(h:Ps w p tb l)(b c:Nat)(hc:w.cell? ⟨b,0,none⟩=some (.string (Aa s))):
  Calls Zb 64 #[.pointer (some ⟨p,0,none⟩),.slice (some ⟨b,0,none⟩) 1 c] w (WEnd w p tb (Ak s l)):=by
 obtain⟨t,r,rfl⟩:=h.ends.ne
 cases hs:isP s t with
 |true=>
  rw[Gs hs];have HT:=Za (Bc p tb t r s w h hs);clear h hs;go_enter Tryz.func64,Tryz.ntmps64
  go_wp2_with fail
  refine wp_loop_rounds 2 ?_;rw[rounds_succ];go_wp2_with fail
  refine HT.out.mono ?_;rintro e w1 ⟨rfl,hf,hp⟩;have HF:=Za hf;have HP:=Za hp;clear hf hp;go_wp2_with fail
  rw[rounds_succ];go_wp2_with fail
  go_end0
  exact⟨HF.out,rfl,HP.out⟩
 |false=>
  have e:Ak s (t::r)= .error t.line:=by unfold Ak;rw[Ad hs];rfl
  rw[e];have HT:=Za (Ai p tb t r s w h hs);have HP:=Za h;clear h hs e;go_enter Tryz.func64,Tryz.ntmps64
  go_wp2_with fail
  refine wp_loop_rounds 1 ?_;rw[rounds_succ];go_wp2_with fail
  refine HT.out.mono ?_;rintro e w1 ⟨rfl,hb⟩;have HB:=Za hb;have HL:=Za (Gl p tb t r w1 (HP.out.old hb));clear hb;go_wp2_with fail
  refine HL.out.mono ?_;rintro e w2 ⟨rfl,hb⟩;have HB2:=Za (HB.out.trans (hb.mono HB.out.size));clear hb;unfold Ay;go_wp2_with fail
  exact⟨rfl,Zc HB2.out,rfl⟩
def Es(s u:Bs)(l:List Tk):Except Int (List Tk):=match Ak s l with
 | .ok r=>Ak u r
 | .error e=> .error e
theorem Ys {s:Bs}{t:Tk}{r:List Tk}(h:isP s t=false):Ak s (t::r)= .error t.line:=by
 unfold Ak;rw[Ad h];rfl
theorem Kt(p tb:Nat)(l:List Tk)(s u:Bs)(w:World)(h:Ps w p tb l)(b c:Nat)(hc:w.cell? ⟨b,0,none⟩=some (.string (Aa s)))(hd:w.cell? ⟨b,1,none⟩=some (.string (Aa u)))(hbp:b≠p):
  Calls Zb 64 #[.pointer (some ⟨p,0,none⟩),.slice (some ⟨b,0,none⟩) 2 c] w (WEnd w p tb (Es s u l)):=by
 obtain⟨t,r,rfl⟩:=h.ends.ne
 cases hs:isP s t with
 |true=>
  have hr:Gh r:=h.ends.tail (Ot hs);obtain⟨t2,q,rfl⟩:=hr.ne;have HT:=Za (Bc p tb t (t2::q) s w h hs);have e1:Es s u (t::t2::q)=Ak u (t2::q):=by unfold Es;rw[Gs hs]
  rw[e1]
  cases hu:isP u t2 with
  |true=>
   rw[Gs hu];have HU:Hid (∀w1,Ps w1 p tb (t2::q)→_):=fun w1 h1=>Bc p tb t2 q u w1 h1 hu
   clear h hs hr e1 hu;go_enter Tryz.func64,Tryz.ntmps64
   go_wp2_with fail
   refine wp_loop_rounds 3 ?_;rw[rounds_succ];go_wp2_with fail
   refine HT.out.mono ?_;rintro e w1 ⟨rfl,hf,hp⟩;have HF:=Za hf;have HP:=Za hp;have d1:=hf.cell hbp hd;clear hf hp;go_wp2_with fail
   rw[rounds_succ];go_wp2_with fail
   refine(HU.out w1 HP.out).mono ?_;rintro e w2 ⟨rfl,hf,hp⟩;have HF2:=Za (HF.out.trans hf);have HP2:=Za hp;clear hf hp;go_wp2_with fail
   rw[rounds_succ];go_wp2_with fail
   go_end0
   exact⟨HF2.out,rfl,HP2.out⟩
  |false=>
   rw[Ys hu];have HU:Hid (∀w1,Ps w1 p tb (t2::q)→_):=fun w1 h1=>Ai p tb t2 q u w1 h1 hu
   have HL:Hid (∀w1,Ps w1 p tb (t2::q)→_):=fun w1 h1=>Gl p tb t2 q w1 h1
   clear h hs hr e1 hu;go_enter Tryz.func64,Tryz.ntmps64
   go_wp2_with fail
   refine wp_loop_rounds 2 ?_;rw[rounds_succ];go_wp2_with fail
   refine HT.out.mono ?_;rintro e w1 ⟨rfl,hf,hp⟩;have HF:=Za hf;have HP:=Za hp;have d1:=hf.cell hbp hd;clear hf hp;go_wp2_with fail
   rw[rounds_succ];go_wp2_with fail
   refine(HU.out w1 HP.out).mono ?_;rintro e w2 ⟨rfl,hb⟩;have HF2:=Za (HF.out.trans (Zc hb));have HP2:=Za (HP.out.old hb);clear hb;go_wp2_with fail
   refine(HL.out w2 HP2.out).mono ?_;rintro e w3 ⟨rfl,hb⟩;have HF3:=Za (HF2.out.trans (Zc hb));clear hb;unfold Ay;go_wp2_with fail
   exact⟨rfl,HF3.out,rfl⟩
 |false=>
  have e1:Es s u (t::r)= .error t.line:=by unfold Es;rw[Ys hs]
  rw[e1];have HT:=Za (Ai p tb t r s w h hs);have HL:Hid (∀w1,Ps w1 p tb (t::r)→_):=fun w1 h1=>Gl p tb t r w1 h1
  have HP:=Za h;clear h hs e1;go_enter Tryz.func64,Tryz.ntmps64
  go_wp2_with fail
  refine wp_loop_rounds 1 ?_;rw[rounds_succ];go_wp2_with fail
  refine HT.out.mono ?_;rintro e w1 ⟨rfl,hb⟩;have HF:=Za (Zc (s:=p) hb);have HP1:=Za (HP.out.old hb);clear hb;go_wp2_with fail
  refine(HL.out w1 HP1.out).mono ?_;rintro e w2 ⟨rfl,hb⟩;have HF2:=Za (HF.out.trans (Zc hb));clear hb;unfold Ay;go_wp2_with fail
  exact⟨rfl,HF2.out,rfl⟩
def TkH(t:Tk)(v:Value)(w:World):Prop:=v=tkV t
theorem Ir(p tb:Nat)(l:List Tk)(k:Int)(hk5:k≠5)(w:World)(h:Ps w p tb l):
  Calls Zb 67 #[.pointer (some ⟨p,0,none⟩),.int .i64 k] w (Dt TkH w p tb (Il k l)):=by
 obtain⟨t,r,rfl⟩:=h.ends.ne
 by_cases hk:t.kind=k
 ·subst hk
  have e1:Il t.kind (t::r)= .ok (t,r):=by show(if t.kind=t.kind then Except.ok (t,r)else Except.error t.line)=_;rw[if_pos rfl]
  rw[e1];have hb1:Below w.heap.size w (w.alloc (.cells #[.int .i64 0,.string ⟨#[]⟩,.int .i64 0,.int .i64 0] 50)):=bA;have HB:=Za hb1;have HP:=Za (h.old hb1);have HN:=Za (Dx p tb t r _ (h.old hb1));have HR:=Za (Zf w [.int .i64 0,.string ⟨#[]⟩,.int .i64 0,.int .i64 0] 50);have HK:=Za hk5;have HPW:=Za h.lt;clear h hb1 e1 hk5;go_enter Tryz.func67,Tryz.ntmps67
  go_wp2_with fail
  refine HN.out.mono ?_;rintro e w1 ⟨rfl,hb⟩;unfold tkV;have HR1:=Za (HR.out.old hb);have HB1:=Za (HB.out.trans (hb.mono HB.out.size));have HP1:=Za (HP.out.old hb);clear hb;go_upto_region 2 with(fail)
  obtain⟨W,hW⟩:∃W,w1.alloc (.cells #[.int .i64 t.kind,.string (Aa t.text),.int .i64 t.num,.int .i64 t.line] 50)=W:=⟨_,rfl⟩;rw[hW];have hba:Below w1.heap.size w1 W:=hW ▸ bA;have hps:=HP1.out.old hba;have HBW:=Za (HB1.out.trans (hba.mono HB1.out.size));have HRW:=Za (HR1.out.old hba);have HNW:=Za (hW ▸ Zf w1 [.int .i64 t.kind,.string (Aa t.text),.int .i64 t.num,.int .i64 t.line] 50);clear hba hW;have x0:=HNW.out.at 0 _ rfl;go_upto_region 4 with(fail)
  obtain⟨o,cap,h1⟩:=hps;have HT:=Za (h1.take HK.out);have c0:=h1.own.at 0 _ rfl;have z0:=h1.own.fz 0;have hpl:=h1.own.lt;have hcap:=h1.hcap;have hfit:=h1.fit;obtain⟨n,hn⟩:∃n,r.length=n:=⟨_,rfl⟩;rw[Zg,hn]at c0 hcap;rw[hn]at HT;have hr0:0<n:=by
   obtain⟨u,q,rfl⟩:=(h1.ends.tail HK.out).ne;rw[←hn];simp
  have i1:(1:Int)≤(n:Int)+1:=by omega
  have i2:((n:Int)+1)≤(cap:Int):=by omega
  have i3:¬(cap:Int) - 1=0:=by omega
  have i4:¬cap - 1=0:=by omega
  clear h1;go_upto_region 5 with(fail)
  have hpw:=HPW.out;have hw1:p<w1.heap.size:=HP1.out.lt;have hpx:p≠w.heap.size:=by omega
  have hpy:p≠w1.heap.size:=by omega
  have HNV:=Za (HNW.out.other (Ne.symm hpy) 0 (.slice (some ⟨tb,o+4,none⟩) n (cap - 1)));have HRV:=Za (HRW.out.other (Ne.symm hpx) 0 (.slice (some ⟨tb,o+4,none⟩) n (cap - 1)));have HF:=Za ((Zc HBW.out).trans HT.out.2);have HPV:=Za HT.out.1;clear HT c0 z0 x0;generalize W.setCell ⟨p,0,none⟩ (.slice (some ⟨tb,o+4,none⟩) n (cap - 1))=V at*;have y0:=HNV.out.at 0 _ rfl;have y1:=HNV.out.at 1 _ rfl;have y2:=HNV.out.at 2 _ rfl;have y3:=HNV.out.at 3 _ rfl;have z0:=HRV.out.at 0 _ rfl;have z1:=HRV.out.at 1 _ rfl;have z2:=HRV.out.at 2 _ rfl;have z3:=HRV.out.at 3 _ rfl;have f0:=HRV.out.fz 0;have f1:=HRV.out.fz 1;have f2:=HRV.out.fz 2;have f3:=HRV.out.fz 3;go_wp2_with fail
  have HS:=Za ((((HRV.out.set 0 (.int .i64 t.kind)).set 1 (.string (Aa t.text))).set 2 (.int .i64 t.num)).set 3 (.int .i64 t.line));have d0:=HS.out.at 0 _ rfl;have d1:=HS.out.at 1 _ rfl;have d2:=HS.out.at 2 _ rfl;have d3:=HS.out.at 3 _ rfl;exact bodyPost_ret (v:=tkV t) (by simp [tkV,results,Tryz.results67,go_sem,d0,d1,d2,d3]) rfl ⟨(((HF.out.setNew (Zd _) _ _).setNew (Zd _) _ _).setNew (Zd _) _ _).setNew (Zd _) _ _,_,rfl,(((HPV.out.other hpw _ _).other hpw _ _).other hpw _ _).other hpw _ _,rfl⟩
 ·have e1:Il k (t::r)= .error t.line:=by show(if t.kind=k then Except.ok (t,r)else Except.error t.line)=_;rw[if_neg hk]
  rw[e1];have hb1:Below w.heap.size w (w.alloc (.cells #[.int .i64 0,.string ⟨#[]⟩,.int .i64 0,.int .i64 0] 50)):=bA;have HB:=Za hb1;have HP:=Za (h.old hb1);have HN:=Za (Dx p tb t r _ (h.old hb1));have HL:Hid (∀w1,Ps w1 p tb (t::r)→_):=fun w1 h1=>Gl p tb t r w1 h1
  have hne:(t.kind !=k)=true:=by simp [hk]
  have hne2:(t.kind==k)=false:=by simp [hk]
  clear h hb1 e1;go_enter Tryz.func67,Tryz.ntmps67
  go_wp2_with fail
  refine HN.out.mono ?_;rintro e w1 ⟨rfl,hb⟩;unfold tkV;have HB1:=Za (HB.out.trans (hb.mono HB.out.size));have HP1:=Za (HP.out.old hb);clear hb;go_wp2_with fail
  refine(HL.out _ (HP1.out.alloc _)).mono ?_;rintro e w3 ⟨rfl,hb⟩;have HB3:=Za ((HB1.out.alloc HB1.out.size _).trans (hb.mono (HB1.out.alloc HB1.out.size _).size));clear hb;unfold Ay;go_wp2_with fail
  exact⟨rfl,Zc HB3.out,rfl⟩
def NmH(s:Bs)(v:Value)(w:World):Prop:=v= .string (Aa s)
theorem Do(p tb:Nat)(l:List Tk)(w:World)(h:Ps w p tb l):
  Calls Zb 65 #[.pointer (some ⟨p,0,none⟩)] w (Dt NmH w p tb (Dg l)):=by
 have HK:=Za (Ir p tb l 1 (by decide) w h);clear h;obtain⟨R,hR⟩:∃R,Dg l=R:=⟨_,rfl⟩;rw[hR];go_enter Tryz.func65,Tryz.ntmps65
 go_wp2_with fail
 refine HK.out.mono ?_;intro e w1 he
 cases hk:Il 1 l with
 |error n=>
  rw[hk]at he;have e1:Dg l= .error n:=by unfold Dg;rw[hk]
  rw[e1]at hR;subst hR;clear e1;obtain⟨hf,rfl⟩:=he;have HF:=Za hf;clear hf HK;unfold Ay;go_wp2_with fail
  exact⟨rfl,HF.out,rfl⟩
 |ok q=>
  obtain⟨t,r⟩:=q;rw[hk]at he;have e1:Dg l= .ok (t.text,r):=by unfold Dg;rw[hk]
  rw[e1]at hR;subst hR;clear e1;obtain⟨hf,v,rfl,hp,hv⟩:=he;have HF:=Za hf;have HP:=Za hp;have hv:v=tkV t:=hv;subst hv;unfold tkV;clear hf hp HK;go_wp2_with fail
  go_ret
  exact⟨HF.out,_,rfl,HP.out,rfl⟩
theorem row_eq {s:ByteArray}{l op:Int}{F1 F2:Value}(hs:s=Aa (Al op))(hl:l=Aj op):
  ∃f1 f2,Ending.returned (.agg #[.string s,.int .i64 l,F1,F2])= .returned (.agg #[.string (Aa (Al op)),.int .i64 (Aj op),f1,f2]):=by
 subst hs hl;exact⟨_,_,rfl⟩
theorem Rk(op:Int)(w:World):
  Calls Zb 128 #[.int .i64 op] w fun e w'=>(∃f1 f2,e= .returned (.agg #[.string (Aa (Al op)),.int .i64 (Aj op),f1,f2]))∧Below w.heap.size w w':=by
 go_enter Tryz.func128,Tryz.ntmps128
 go_wp2
 all_goals(refine bodyPost_ret (by simp [results,Tryz.results128,go_sem];rfl) rfl ?_)
 all_goals(refine⟨row_eq ?_ ?_,by repeat(first|exact Below.refl _ _|refine Below.alloc ?_ (Zd _) _)⟩)
 all_goals(simp only[beq_iff_eq,beq_eq_false_iff_ne,ne_eq]at*;simp [Al,Aj,Aa, *])
@[go_sem] theorem field_row0 (a b c d:Value) (w:World):(Instr.field 157 (.agg #[a,b,c,d]) 0).run Zb w= .ok a w:=by kernel_rfl
@[go_sem] theorem field_row1 (a b c d:Value) (w:World):(Instr.field 157 (.agg #[a,b,c,d]) 1).run Zb w= .ok b w:=by kernel_rfl
theorem Gn(op:Int)(w:World):
  Calls Zb 74 #[.int .i64 op] w fun e w'=>e= .returned (.int .i64 (Aj op))∧Below w.heap.size w w':=by
 go_enter Tryz.func74,Tryz.ntmps74
 go_wp2_with fail
 refine(Rk op _).mono ?_;rintro e w1 ⟨⟨f1,f2,rfl⟩,hb⟩;go_wp2_with fail
 go_ret
 exact⟨rfl,hb⟩
theorem Cs(op:Int)(w:World):
  Calls Zb 71 #[.int .i64 op] w fun e w'=>e= .returned (.tuple #[.string (Aa (Al op)),.bool (!(Al op).isEmpty)])∧Below w.heap.size w w':=by
 go_enter Tryz.func71,Tryz.ntmps71
 go_wp2_with fail
 refine(Rk op _).mono ?_;rintro e w1 ⟨⟨f1,f2,rfl⟩,hb⟩;go_wp2_with fail
 go_ret2
 exact⟨by simp [Aa],hb⟩
theorem Wu(p tb:Nat)(t:Tk)(r:List Tk)(w:World)(h:Ps w p tb (t::r))(y:isP (Al 17) t=true):
  Calls Zb 162 #[.pointer (some ⟨p,0,none⟩)] w fun e w'=>e= .returned (.int .i64 17)∧SFr p w w'∧Ps w' p tb r:=by
 have Y:Hid (∀w1,Ps w1 p tb (t::r)→_):=fun w1 h1=>Bc p tb t r (Al 17) w1 h1 y
 have HP0:=Za h;clear h y;have HF0:=Za (SFr.refl p w);go_enter Tryz.func162,Tryz.ntmps162
 go_wp2_with fail
 refine wp_loop_rounds 1 ?_;rw[rounds_succ];go_wp2_with fail
 refine(Cs 17 _).mono ?_;rintro e w1 ⟨rfl,hb⟩;have HP1:=Za (HP0.out.old hb);have HF1:=Za (HF0.out.trans (Zc hb));clear hb;go_wp2_with fail
 refine(Y.out _ HP1.out).mono ?_;rintro e w2 ⟨rfl,hf,hp⟩;have HF:=Za (HF1.out.trans hf);have HP:=Za hp;clear hf hp;go_wp2_with fail
 go_ret
 exact⟨rfl,HF.out,HP.out⟩
theorem Xu(p tb:Nat)(t:Tk)(r:List Tk)(w:World)(h:Ps w p tb (t::r))(n17:isP (Al 17) t=false)(y:isP (Al 18) t=true):
  Calls Zb 162 #[.pointer (some ⟨p,0,none⟩)] w fun e w'=>e= .returned (.int .i64 18)∧SFr p w w'∧Ps w' p tb r:=by
 have N17:Hid (∀w1,Ps w1 p tb (t::r)→_):=fun w1 h1=>Ai p tb t r (Al 17) w1 h1 n17
 have Y:Hid (∀w1,Ps w1 p tb (t::r)→_):=fun w1 h1=>Bc p tb t r (Al 18) w1 h1 y
 have HP0:=Za h;clear h n17 y;have HF0:=Za (SFr.refl p w);go_enter Tryz.func162,Tryz.ntmps162
 go_wp2_with fail
 refine wp_loop_rounds 2 ?_;rw[rounds_succ];go_wp2_with fail
 refine(Cs 17 _).mono ?_;rintro e w1 ⟨rfl,hb⟩;have HP1:=Za (HP0.out.old hb);have HF1:=Za (HF0.out.trans (Zc hb));clear hb;go_wp2_with fail
 refine(N17.out _ HP1.out).mono ?_;rintro e w2 ⟨rfl,hb⟩;have HP2:=Za (HP1.out.old hb);have HF2:=Za (HF1.out.trans (Zc hb));clear hb;go_wp2_with fail
 rw[rounds_succ];go_wp2_with fail
 refine(Cs 18 _).mono ?_;rintro e w1 ⟨rfl,hb⟩;have HP3:=Za (HP2.out.old hb);have HF3:=Za (HF2.out.trans (Zc hb));clear hb;go_wp2_with fail
 refine(Y.out _ HP3.out).mono ?_;rintro e w2 ⟨rfl,hf,hp⟩;have HF:=Za (HF3.out.trans hf);have HP:=Za hp;clear hf hp;go_wp2_with fail
 go_ret
 exact⟨rfl,HF.out,HP.out⟩
theorem Xa(p tb:Nat)(t:Tk)(r:List Tk)(w:World)(h:Ps w p tb (t::r))(n17:isP (Al 17) t=false)(n18:isP (Al 18) t=false)(y:isP (Al 19) t=true):
  Calls Zb 162 #[.pointer (some ⟨p,0,none⟩)] w fun e w'=>e= .returned (.int .i64 19)∧SFr p w w'∧Ps w' p tb r:=by
 have N17:Hid (∀w1,Ps w1 p tb (t::r)→_):=fun w1 h1=>Ai p tb t r (Al 17) w1 h1 n17
 have N18:Hid (∀w1,Ps w1 p tb (t::r)→_):=fun w1 h1=>Ai p tb t r (Al 18) w1 h1 n18
 have Y:Hid (∀w1,Ps w1 p tb (t::r)→_):=fun w1 h1=>Bc p tb t r (Al 19) w1 h1 y
 have HP0:=Za h;clear h n17 n18 y;have HF0:=Za (SFr.refl p w);go_enter Tryz.func162,Tryz.ntmps162
 go_wp2_with fail
 refine wp_loop_rounds 3 ?_;rw[rounds_succ];go_wp2_with fail
 refine(Cs 17 _).mono ?_;rintro e w1 ⟨rfl,hb⟩;have HP1:=Za (HP0.out.old hb);have HF1:=Za (HF0.out.trans (Zc hb));clear hb;go_wp2_with fail
 refine(N17.out _ HP1.out).mono ?_;rintro e w2 ⟨rfl,hb⟩;have HP2:=Za (HP1.out.old hb);have HF2:=Za (HF1.out.trans (Zc hb));clear hb;go_wp2_with fail
 rw[rounds_succ];go_wp2_with fail
 refine(Cs 18 _).mono ?_;rintro e w1 ⟨rfl,hb⟩;have HP3:=Za (HP2.out.old hb);have HF3:=Za (HF2.out.trans (Zc hb));clear hb;go_wp2_with fail
 refine(N18.out _ HP3.out).mono ?_;rintro e w2 ⟨rfl,hb⟩;have HP4:=Za (HP3.out.old hb);have HF4:=Za (HF3.out.trans (Zc hb));clear hb;go_wp2_with fail
 rw[rounds_succ];go_wp2_with fail
 refine(Cs 19 _).mono ?_;rintro e w1 ⟨rfl,hb⟩;have HP5:=Za (HP4.out.old hb);have HF5:=Za (HF4.out.trans (Zc hb));clear hb;go_wp2_with fail
 refine(Y.out _ HP5.out).mono ?_;rintro e w2 ⟨rfl,hf,hp⟩;have HF:=Za (HF5.out.trans hf);have HP:=Za hp;clear hf hp;go_wp2_with fail
 go_ret
 exact⟨rfl,HF.out,HP.out⟩
theorem Wf(p tb:Nat)(t:Tk)(r:List Tk)(w:World)(h:Ps w p tb (t::r))(n17:isP (Al 17) t=false)(n18:isP (Al 18) t=false)(n19:isP (Al 19) t=false):
  Calls Zb 162 #[.pointer (some ⟨p,0,none⟩)] w fun e w'=>e= .returned (.int .i64 0)∧SFr p w w'∧Ps w' p tb (t::r):=by
 have N17:Hid (∀w1,Ps w1 p tb (t::r)→_):=fun w1 h1=>Ai p tb t r (Al 17) w1 h1 n17
 have N18:Hid (∀w1,Ps w1 p tb (t::r)→_):=fun w1 h1=>Ai p tb t r (Al 18) w1 h1 n18
 have N19:Hid (∀w1,Ps w1 p tb (t::r)→_):=fun w1 h1=>Ai p tb t r (Al 19) w1 h1 n19
 have HP0:=Za h;clear h n17 n18 n19;have HF0:=Za (SFr.refl p w);go_enter Tryz.func162,Tryz.ntmps162
 go_wp2_with fail
 refine wp_loop_rounds 4 ?_;rw[rounds_succ];go_wp2_with fail
 refine(Cs 17 _).mono ?_;rintro e w1 ⟨rfl,hb⟩;have HP1:=Za (HP0.out.old hb);have HF1:=Za (HF0.out.trans (Zc hb));clear hb;go_wp2_with fail
 refine(N17.out _ HP1.out).mono ?_;rintro e w2 ⟨rfl,hb⟩;have HP2:=Za (HP1.out.old hb);have HF2:=Za (HF1.out.trans (Zc hb));clear hb;go_wp2_with fail
 rw[rounds_succ];go_wp2_with fail
 refine(Cs 18 _).mono ?_;rintro e w1 ⟨rfl,hb⟩;have HP3:=Za (HP2.out.old hb);have HF3:=Za (HF2.out.trans (Zc hb));clear hb;go_wp2_with fail
 refine(N18.out _ HP3.out).mono ?_;rintro e w2 ⟨rfl,hb⟩;have HP4:=Za (HP3.out.old hb);have HF4:=Za (HF3.out.trans (Zc hb));clear hb;go_wp2_with fail
 rw[rounds_succ];go_wp2_with fail
 refine(Cs 19 _).mono ?_;rintro e w1 ⟨rfl,hb⟩;have HP5:=Za (HP4.out.old hb);have HF5:=Za (HF4.out.trans (Zc hb));clear hb;go_wp2_with fail
 refine(N19.out _ HP5.out).mono ?_;rintro e w2 ⟨rfl,hb⟩;have HP6:=Za (HP5.out.old hb);have HF6:=Za (HF5.out.trans (Zc hb));clear hb;go_wp2_with fail
 rw[rounds_succ];go_wp2_with fail
 go_ret
 exact⟨rfl,HF6.out,HP6.out⟩
theorem Vk(lv:Int)(t:Tk)(r:List Tk):Cb lv (t::r)=((((Ze 16).map fun i:Nat=>(i:Int)+1).find? fun op=>isP (Al op) t && decide (lv≤Aj op))).getD 0:=rfl
theorem find_at(f:Int→Bool)(k:Nat)(hk:k<16)(hno:∀j,j<k→f ((j:Int)+1)=false)(hy:f ((k:Int)+1)=true):(((Ze 16).map fun i:Nat=>(i:Int)+1).find? f).getD 0=(k:Int)+1:=by
 rcases hf:((Ze 16).map fun i:Nat=>(i:Int)+1).find? f with _|op
 ·rw[List.find?_eq_none]at hf
  have:=hf ((k:Int)+1) (List.mem_map.2 ⟨k,List.mem_range.2 hk,rfl⟩);rw[hy]at this;simp at this
 ·rw[List.find?_eq_some_iff_append]at hf
  obtain⟨ho,xs,ys,hl,hn⟩:=hf;obtain⟨j,hj,rfl⟩:=List.mem_map.1 (show op∈(Ze 16).map fun i:Nat=>(i:Int)+1 by rw[hl];simp);have hj:=List.mem_range.1 hj;rcases Nat.lt_trichotomy j k with h|h|h
  ·rw[hno j h]at ho;cases ho
  ·rw[h];rfl
  ·exfalso
   have e1:xs.length=j:=by
    have g1:((Ze 16).map fun i:Nat=>(i:Int)+1)[xs.length]? =some ((j:Int)+1):=by rw[hl];simp
    rw[List.getElem?_map]at g1;have hlt:xs.length<16:=by
     have:=congrArg List.length hl;simp at this;omega
    rw[List.getElem?_range hlt]at g1;simp at g1;omega
   have hm:((k:Int)+1)∈xs:=by
    have g2:((Ze 16).map fun i:Nat=>(i:Int)+1)[k]? =some ((k:Int)+1):=by rw[List.getElem?_map,List.getElem?_range hk];rfl
    rw[hl,List.getElem?_append_left (by omega)]at g2;exact List.mem_of_getElem? g2
   have:=hn _ hm;rw[hy]at this;cases this
theorem Oi(f:Int→Bool)(hno:∀j:Nat,j<16→f ((j:Int)+1)=false):(((Ze 16).map fun i:Nat=>(i:Int)+1).find? f).getD 0=0:=by
 have:((Ze 16).map fun i:Nat=>(i:Int)+1).find? f=none:=by
  rw[List.find?_eq_none];intro x hx;obtain⟨j,hj,rfl⟩:=List.mem_map.1 hx;rw[hno j (List.mem_range.1 hj)];decide
 rw[this];rfl
theorem Ss(p tb:Nat)(l:List Tk)(lv:Int)(w:World)(h:Ps w p tb l):
  Calls Zb 119 #[.pointer (some ⟨p,0,none⟩),.int .i64 lv] w fun e w'=>e= .returned (.int .i64 (Cb lv l))∧Below w.heap.size w w':=by
 obtain⟨t,r,rfl⟩:=h.ends.ne;rw[Vk];obtain⟨f,hf⟩:∃f:Int→Bool,f=fun op=>isP (Al op) t && decide (lv≤Aj op):=⟨_,rfl⟩
 rw[←hf];have HN:=Za (Oi f);have HA:=Za (find_at f);have HPS:=Za h;have HFE:Hid (∀op,f op=(isP (Al op) t && decide (lv≤Aj op))):=fun op=>by rw[hf]
 clear h hf;generalize (((Ze 16).map fun i:Nat=>(i:Int)+1).find? f).getD 0=R at*;go_enter Tryz.func119,Tryz.ntmps119
 go_wp2_with fail
 go_loopw [5] (fun s5 wr=> ∃k:Nat,k≤16∧s5= .int .i64 ((k:Int)+1)∧(∀j:Nat,j<k→f ((j:Int)+1)=false)∧Below w.heap.size w wr) (fun s5 _=>17 - (intOf s5).toNat)
 case atStart=>exact⟨0,by omega,rfl,fun j hj=>by omega,Below.refl _ _⟩
 case round=>
  obtain⟨k,hk,rfl,hno,hb⟩:=hrel;have HNO:=Za hno;have HB:=Za hb;clear hno hb
  by_cases hlt:k<16
  ·have hle:(k:Int)+1≤16:=by omega
   have hge:(0:Int)≤(k:Int)+1:=by omega
   have hw1:IntKind.i64.wrap ((k:Int)+1+1)=(k:Int)+1+1:=IntWalk.i64_in _ (by omega);have HI:Hid (∀w1,Ps w1 p tb (t::r)→_):=fun w1 h1=>Om p tb t r (Al ((k:Int)+1)) w1 h1
   go_wp2_with fail
   refine(Cs ((k:Int)+1) _).mono ?_;rintro e w1 ⟨rfl,hb⟩;have HB1:=Za (HB.out.trans (hb.mono HB.out.size));clear hb;go_wp2_with fail
   refine(HI.out _ (HPS.out.old HB1.out)).mono ?_;rintro e w2 ⟨rfl,hb⟩;have HB2:=Za (HB1.out.trans (hb.mono HB1.out.size));clear hb HI
   cases hi:isP (Al ((k:Int)+1)) t with
   |false=>
    have HF:Hid (f ((k:Int)+1)=false):=by show _=_;rw[HFE.out,hi];rfl
    clear hi;go_wp2_with fail
    go_roundw
    case rel=>exact⟨k+1,by omega,by rw[Int.natCast_succ],fun j hj=>by
     rcases Nat.lt_succ_iff_lt_or_eq.1 hj with h'|rfl
     ·exact HNO.out j h'
     ·exact HF.out,HB2.out⟩
    case measure=>simp only[intOf];omega
   |true=>
    by_cases hl:lv≤Aj ((k:Int)+1)
    ·have HF:Hid (f ((k:Int)+1)=true):=by show _=_;rw[HFE.out,hi,decide_eq_true hl];rfl
     clear hi;go_wp2_with fail
     refine(Gn ((k:Int)+1) _).mono ?_;rintro e w3 ⟨rfl,hb⟩;have HB3:=Za (HB2.out.trans (hb.mono HB2.out.size));clear hb;go_wp2_with fail
     go_ret
     exact⟨Ek (HA.out k hlt HNO.out HF.out).symm,HB3.out⟩
    ·have HF:Hid (f ((k:Int)+1)=false):=by show _=_;rw[HFE.out,hi,decide_eq_false hl];rfl
     have hl':Aj ((k:Int)+1)<lv:=by omega
     clear hi;go_wp2_with fail
     refine(Gn ((k:Int)+1) _).mono ?_;rintro e w3 ⟨rfl,hb⟩;have HB3:=Za (HB2.out.trans (hb.mono HB2.out.size));clear hb;go_wp2_with fail
     go_roundw
     case rel=>exact⟨k+1,by omega,by rw[Int.natCast_succ],fun j hj=>by
      rcases Nat.lt_succ_iff_lt_or_eq.1 hj with h'|rfl
      ·exact HNO.out j h'
      ·exact HF.out,HB3.out⟩
     case measure=>simp only[intOf];omega
  ·obtain rfl:k=16:=by omega
   clear hlt;go_wp2_with fail
   go_ret
   exact⟨Ek (HN.out HNO.out).symm,HB.out⟩
def ExH(B:Nat)(x:Ex)(v:Value)(w:World):Prop:= ∃s,v=exV x s∧Ag (B≤ ·) w x.args s∧I64 x.n
def ExsH(B:Nat)(l:List Ex)(v:Value)(w:World):Prop:=Ag (B≤ ·) w l v
def Pe(f:Nat):Prop:= ∀lv l w p tb,4*l.length+2≤f→Ps w p tb l→Calls Zb 60 #[.pointer (some ⟨p,0,none⟩),.int .i64 lv] w (Dt (ExH w.heap.size) w p tb (Aq f lv l))
def Jo(f:Nat):Prop:= ∀l w p tb,4*l.length+2≤f→Ps w p tb l→Calls Zb 27 #[.pointer (some ⟨p,0,none⟩)] w (Dt (ExH w.heap.size) w p tb (Aq f 1 l))
def Mu(f:Nat):Prop:= ∀l w p tb,4*l.length+1≤f→Ps w p tb l→Calls Zb 118 #[.pointer (some ⟨p,0,none⟩)] w (Dt (ExH w.heap.size) w p tb (Bb f l))
def Pl(f:Nat):Prop:= ∀s l w p tb,4*l.length+1≤f→Ps w p tb l→Calls Zb 163 #[.pointer (some ⟨p,0,none⟩),.string (Aa s)] w (Dt (ExH w.heap.size) w p tb (Cf f s l))
def Un(f:Nat):Prop:= ∀l w p tb,4*l.length+4≤f→Ps w p tb l→Calls Zb 201 #[.pointer (some ⟨p,0,none⟩)] w (Dt (ExsH w.heap.size) w p tb (Ei f l))
theorem Jd {w:World}{b:Nat}{T:TypeId}{a0 a1 a2 a3 a4:Value}(h:Ac w b [a0,a1,a2,a3,a4] T)(c0 c1 c2 c3 c4:Value):Ac (((((w.setCell ⟨b,0,none⟩ c0).setCell ⟨b,1,none⟩ c1).setCell ⟨b,2,none⟩ c2).setCell ⟨b,3,none⟩ c3).setCell ⟨b,4,none⟩ c4) b [c0,c1,c2,c3,c4] T:=
 ((((h.set 0 c0).set 1 c1).set 2 c2).set 3 c3).set 4 c4
theorem eA {p:Nat}{w w1:World}(h:SFr p w w1){b:Nat}(hb:w.heap.size≤b)(c0 c1 c2 c3 c4:Value):SFr p w (((((w1.setCell ⟨b,0,none⟩ c0).setCell ⟨b,1,none⟩ c1).setCell ⟨b,2,none⟩ c2).setCell ⟨b,3,none⟩ c3).setCell ⟨b,4,none⟩ c4):=
 ((((h.setNew hb 0 c0).setNew hb 1 c1).setNew hb 2 c2).setNew hb 3 c3).setNew hb 4 c4
theorem ps5 {w:World}{p tb:Nat}{l:List Tk}(h:Ps w p tb l){b:Nat}(hb:p<b)(c0 c1 c2 c3 c4:Value):Ps (((((w.setCell ⟨b,0,none⟩ c0).setCell ⟨b,1,none⟩ c1).setCell ⟨b,2,none⟩ c2).setCell ⟨b,3,none⟩ c3).setCell ⟨b,4,none⟩ c4) p tb l:=
 ((((h.other hb 0 c0).other hb 1 c1).other hb 2 c2).other hb 3 c3).other hb 4 c4
theorem Gz {D:Nat→Prop}(w:World){b:Nat}(hb:¬D b)(c0 c1 c2 c3 c4:Value):Cp D w (((((w.setCell ⟨b,0,none⟩ c0).setCell ⟨b,1,none⟩ c1).setCell ⟨b,2,none⟩ c2).setCell ⟨b,3,none⟩ c3).setCell ⟨b,4,none⟩ c4):=
 ((((Am w hb 0 c0).trans (Am _ hb 1 c1)).trans (Am _ hb 2 c2)).trans (Am _ hb 3 c3)).trans (Am _ hb 4 c4)
theorem Bf {w:World}{b:Nat}{T:TypeId}{a0 a1 a2 a3 a4:Value}(h:Ac w b [a0,a1,a2,a3,a4] T):(w.cell? ⟨b,0,none⟩=some a0∧w.cell? ⟨b,1,none⟩=some a1∧w.cell? ⟨b,2,none⟩=some a2∧w.cell? ⟨b,3,none⟩=some a3∧w.cell? ⟨b,4,none⟩=some a4)∧
  w.frozen? ⟨b,0,none⟩=false∧w.frozen? ⟨b,1,none⟩=false∧w.frozen? ⟨b,2,none⟩=false∧w.frozen? ⟨b,3,none⟩=false∧w.frozen? ⟨b,4,none⟩=false:=
 ⟨⟨h.at 0 _ rfl,h.at 1 _ rfl,h.at 2 _ rfl,h.at 3 _ rfl,h.at 4 _ rfl⟩,h.fz 0,h.fz 1,h.fz 2,h.fz 3,h.fz 4⟩
theorem Jt {w W:World}{p tb:Nat}{l:List Tk}{x:Ex}{s:Value}(hp:p<w.heap.size)(HF:SFr p w W)(HP:Ps W p tb l)(HX:Ag (w.heap.size+1≤ ·) W x.args s)(hn:I64 x.n)(c0 c1 c2 c3 c4:Value):
  Dt (ExH w.heap.size) w p tb (.ok (x,l)) (.returned (exV x s)) (((((W.setCell ⟨w.heap.size,0,none⟩ c0).setCell ⟨w.heap.size,1,none⟩ c1).setCell ⟨w.heap.size,2,none⟩ c2).setCell ⟨w.heap.size,3,none⟩ c3).setCell ⟨w.heap.size,4,none⟩ c4):=
 ⟨eA HF (Zd _) _ _ _ _ _,_,rfl,ps5 HP hp _ _ _ _ _,_,rfl,(HX.keep (Gz W (by show ¬w.heap.size+1≤w.heap.size;omega) _ _ _ _ _)).mono (fun b hb=>by have:w.heap.size+1≤b:=hb;omega),hn⟩
theorem Ag.up {B B':Nat}{w:World}{l:List Ex}{v:Value}(h:Ag (B≤ ·) w l v)(hb:B'≤B):Ag (B'≤ ·) w l v:=h.mono (fun b hx=>Nat.le_trans hb hx)
theorem Xs {w:World}{B:Nat}{x:Ex}{s:Value}(h:Ag (B≤ ·) w x.args s)(hn:I64 x.n)(hB:B≤w.heap.size):
  Ag (B≤ ·) (w.alloc (.cells #[.int .i64 x.kind,.int .i64 x.op,.int .i64 x.n,.string (Aa x.name),s] 27)) [x] (.slice (some ⟨w.heap.size,0,none⟩) 1 1):=
 .one x s hB (Df.new w (As x s) 27) (h.old (bA)) hn
theorem ex_box2 {w:World}{B:Nat}{x y:Ex}{s u:Value}(h:Ag (B≤ ·) w x.args s)(hn:I64 x.n)(k:Ag (B≤ ·) w y.args u)(hm:I64 y.n)(hB:B≤w.heap.size):
  Ag (B≤ ·) (w.alloc (.cells #[.int .i64 x.kind,.int .i64 x.op,.int .i64 x.n,.string (Aa x.name),s,.int .i64 y.kind,.int .i64 y.op,.int .i64 y.n,.string (Aa y.name),u] 27)) [x,y] (.slice (some ⟨w.heap.size,0,none⟩) 2 2):=
 .two x y s u hB (Df.new w (As x s++As y u) 27) (h.old (bA)) hn (k.old (bA)) hm
theorem Ik(W:World)(b:Nat)(c0 c1 c2 c3 c4:Value):(((((W.setCell ⟨b,0,none⟩ c0).setCell ⟨b,1,none⟩ c1).setCell ⟨b,2,none⟩ c2).setCell ⟨b,3,none⟩ c3).setCell ⟨b,4,none⟩ c4).heap.size=W.heap.size:=by simp [World.setCell]
theorem Zu {w W:World}{p tb:Nat}{l:List Tk}{x y:Ex}{s:Value}(hp:p<w.heap.size)(HF:SFr p w W)(HP:Ps W p tb l)(HX:Ag (w.heap.size+1≤ ·) W x.args s)(hn:I64 x.n)(hlt:w.heap.size<W.heap.size)(hy:y.args=[x])(hyn:I64 y.n)(c0 c1 c2 c3 c4:Value):
  Dt (ExH w.heap.size) w p tb (.ok (y,l)) (.returned (exV y (.slice (some ⟨W.heap.size,0,none⟩) 1 1))) ((((((W.setCell ⟨w.heap.size,0,none⟩ c0).setCell ⟨w.heap.size,1,none⟩ c1).setCell ⟨w.heap.size,2,none⟩ c2).setCell ⟨w.heap.size,3,none⟩ c3).setCell ⟨w.heap.size,4,none⟩ c4).alloc (.cells #[.int .i64 x.kind,.int .i64 x.op,.int .i64 x.n,.string (Aa x.name),s] 27)):=by
 have h1:=HX.keep (Gz W (show ¬w.heap.size+1≤w.heap.size by omega) c0 c1 c2 c3 c4);have h2:=Xs h1 hn (by rw[Ik];omega);rw[Ik]at h2;refine⟨(eA HF (Zd _) c0 c1 c2 c3 c4).trans (Zc (bA)),_,rfl,(ps5 HP hp c0 c1 c2 c3 c4).alloc _,_,rfl,?_,hyn⟩;rw[hy];exact h2.mono (fun b hb=>by have:w.heap.size+1≤b:=hb;omega)
theorem Dw:I64 0:=⟨by decide,by decide⟩
theorem Td(f:Nat)(ih:Un f)(s:Bs)(t:Tk)(r:List Tk)(w:World)(p tb:Nat)(hl:4*(t::r).length+1≤f+1)(h:Ps w p tb (t::r))(y:isP [40] t=true):
  Calls Zb 163 #[.pointer (some ⟨p,0,none⟩),.string (Aa s)] w (Dt (ExH w.heap.size) w p tb (Cf (f+1) s (t::r))):=by
 have HPW:=Za h.lt;have HNE:Hid (w.heap.size≠p):=by show _≠_;have:=h.lt;omega
 have hb0:Below w.heap.size w (w.alloc (.cells #[.int .i64 0,.int .i64 0,.int .i64 0,.string ⟨#[]⟩,.slice none 0 0] 27)):=bA;have HF0:Hid (SFr p w (w.alloc (.cells #[.int .i64 0,.int .i64 0,.int .i64 0,.string ⟨#[]⟩,.slice none 0 0] 27))):=Zc hb0;have HR0:=Za (Zf w [.int .i64 0,.int .i64 0,.int .i64 0,.string ⟨#[]⟩,.slice none 0 0] 27);have HP0:=Za (h.old hb0);clear hb0;obtain⟨R,hR⟩:∃R,Cf (f+1) s (t::r)=R:=⟨_,rfl⟩;rw[hR];have HRR:=Za hR;clear hR;have HY:=Za y;have HT:Hid (∀w1,Ps w1 p tb (t::r)→_):=fun w1 h1=>Bc p tb t r [40] w1 h1 y
 rw[Zg]at hl;have HC:Hid (∀w1,Ps w1 p tb r→_):=fun w1 h1=>ih r w1 p tb (by omega) h1
 clear y hl ih;clear h;go_enter Tryz.func163,Tryz.ntmps163
 go_wp2_with fail
 refine(HT.out _ HP0.out).mono ?_;rintro e w1 ⟨rfl,hf,hp⟩;have HF1:=Za (HF0.out.trans hf);have HP1:=Za hp;have HR1:=Za (HR0.out.sfr hf HNE.out);clear hf hp;go_wp2_with fail
 refine(HC.out _ HP1.out).mono ?_;intro e w2 he
 cases hA:Ei f r with
 |error n=>
  rw[hA]at he;obtain⟨hf,rfl⟩:=he;have HF:=Za (HF1.out.trans hf);have e1:Cf (f+1) s (t::r)= .error n:=by rw[Cf,Ao HY.out];dsimp only;rw[hA]
  have e2:=HRR.out.symm.trans e1;subst e2;clear e1 hf;unfold Ay;go_wp2_with fail
  exact⟨rfl,HF.out,rfl⟩
 |ok q=>
  obtain⟨x,r2⟩:=q;rw[hA]at he;obtain⟨hf,v,rfl,hp,hv⟩:=he;have hv:Ag (w1.heap.size≤ ·) w2 x v:=hv;obtain⟨a1,a2,rfl⟩:=hv.shape;have HX2:=Za (hv.up (show w.heap.size+1≤w1.heap.size from HR1.out.lt));clear hv;have HF2:=Za (HF1.out.trans hf);have HP2:=Za hp;have HR2:=Za (HR1.out.sfr hf HNE.out);clear hf hp;have HA2:=Za hA;clear hA;obtain⟨⟨x0,x1,x2,x3,x4⟩,xf0,xf1,xf2,xf3,xf4⟩:=Bf HR2.out;have xlt:=HR2.out.lt;go_wp2_with fail
  have e1:Cf (f+1) s (t::r)= .ok (.mk 5 0 0 s x,r2):=by rw[Cf,Ao HY.out];dsimp only;rw[HA2.out]
  have e2:=HRR.out.symm.trans e1;subst e2;obtain⟨⟨d0,d1,d2,d3,d4⟩,_⟩:=Bf (Jd HR2.out (.int .i64 5) (.int .i64 0) (.int .i64 0) (.string (Aa s)) (.slice a1 x.length a2));exact bodyPost_ret (v:= .agg #[.int .i64 5,.int .i64 0,.int .i64 0,.string (Aa s),.slice a1 x.length a2]) (by simp [results,Tryz.results163,go_sem,d0,d1,d2,d3,d4]) rfl (Jt (x:= .mk 5 0 0 s x) HPW.out HF2.out HP2.out HX2.out Dw _ _ _ _ _)
theorem Vs(f:Nat)(s:Bs)(t:Tk)(r:List Tk)(w:World)(p tb:Nat)(h:Ps w p tb (t::r))(n1:isP [40] t=false)(n2:isP [91] t=false):
  Calls Zb 163 #[.pointer (some ⟨p,0,none⟩),.string (Aa s)] w (Dt (ExH w.heap.size) w p tb (Cf (f+1) s (t::r))):=by
 have HPW:=Za h.lt;have HNE:Hid (w.heap.size≠p):=by show _≠_;have:=h.lt;omega
 have hb0:Below w.heap.size w (w.alloc (.cells #[.int .i64 0,.int .i64 0,.int .i64 0,.string ⟨#[]⟩,.slice none 0 0] 27)):=bA;have HF0:Hid (SFr p w (w.alloc (.cells #[.int .i64 0,.int .i64 0,.int .i64 0,.string ⟨#[]⟩,.slice none 0 0] 27))):=Zc hb0;have HR0:=Za (Zf w [.int .i64 0,.int .i64 0,.int .i64 0,.string ⟨#[]⟩,.slice none 0 0] 27);have HP0:=Za (h.old hb0);clear hb0;obtain⟨R,hR⟩:∃R,Cf (f+1) s (t::r)=R:=⟨_,rfl⟩;rw[hR];have HRR:=Za hR;clear hR;have HN1:=Za n1;have HN2:=Za n2;have HT:Hid (∀w1,Ps w1 p tb (t::r)→_):=fun w1 h1=>Ai p tb t r [40] w1 h1 n1
 have HU:Hid (∀w1,Ps w1 p tb (t::r)→_):=fun w1 h1=>Ai p tb t r [91] w1 h1 n2
 clear n1 n2;clear h;go_enter Tryz.func163,Tryz.ntmps163
 go_wp2_with fail
 refine(HT.out _ HP0.out).mono ?_;rintro e w1 ⟨rfl,hb⟩;have HF1:=Za (HF0.out.trans (Zc hb));have HP1:=Za (HP0.out.old hb);have HR1:=Za (HR0.out.old hb);clear hb;go_wp2_with fail
 refine(HU.out _ HP1.out).mono ?_;rintro e w2 ⟨rfl,hb⟩;have HF2:=Za (HF1.out.trans (Zc hb));have HP2:=Za (HP1.out.old hb);have HR2:=Za (HR1.out.old hb);clear hb;obtain⟨⟨x0,x1,x2,x3,x4⟩,xf0,xf1,xf2,xf3,xf4⟩:=Bf HR2.out;have xlt:=HR2.out.lt;go_wp2_with fail
 have e1:Cf (f+1) s (t::r)= .ok (.mk 2 0 0 s [],t::r):=by rw[Cf,Ad HN1.out];dsimp only;rw[Ad HN2.out]
 have e2:=HRR.out.symm.trans e1;subst e2;obtain⟨⟨d0,d1,d2,d3,d4⟩,_⟩:=Bf (Jd HR2.out (.int .i64 2) (.int .i64 0) (.int .i64 0) (.string (Aa s)) (.slice none 0 0));exact bodyPost_ret (v:= .agg #[.int .i64 2,.int .i64 0,.int .i64 0,.string (Aa s),.slice none 0 0]) (by simp [results,Tryz.results163,go_sem,d0,d1,d2,d3,d4]) rfl (Jt (x:= .mk 2 0 0 s []) HPW.out HF2.out HP2.out Ag.zero Dw _ _ _ _ _)
theorem Ty(f:Nat)(ih:Jo f)(s:Bs)(t:Tk)(r:List Tk)(w:World)(p tb:Nat)(hl:4*(t::r).length+1≤f+1)(h:Ps w p tb (t::r))(n1:isP [40] t=false)(y:isP [91] t=true):
  Calls Zb 163 #[.pointer (some ⟨p,0,none⟩),.string (Aa s)] w (Dt (ExH w.heap.size) w p tb (Cf (f+1) s (t::r))):=by
 have HPW:=Za h.lt;have HNE:Hid (w.heap.size≠p):=by show _≠_;have:=h.lt;omega
 have hb0:Below w.heap.size w (w.alloc (.cells #[.int .i64 0,.int .i64 0,.int .i64 0,.string ⟨#[]⟩,.slice none 0 0] 27)):=bA;have HF0:Hid (SFr p w (w.alloc (.cells #[.int .i64 0,.int .i64 0,.int .i64 0,.string ⟨#[]⟩,.slice none 0 0] 27))):=Zc hb0;have HR0:=Za (Zf w [.int .i64 0,.int .i64 0,.int .i64 0,.string ⟨#[]⟩,.slice none 0 0] 27);have HP0:=Za (h.old hb0);clear hb0;obtain⟨R,hR⟩:∃R,Cf (f+1) s (t::r)=R:=⟨_,rfl⟩;rw[hR];have HRR:=Za hR;clear hR;have HY:=Za y;have HN1:=Za n1;have HT:Hid (∀w1,Ps w1 p tb (t::r)→_):=fun w1 h1=>Ai p tb t r [40] w1 h1 n1
 have HU:Hid (∀w1,Ps w1 p tb (t::r)→_):=fun w1 h1=>Bc p tb t r [91] w1 h1 y
 rw[Zg]at hl;have HC:Hid (∀w1,Ps w1 p tb r→_):=fun w1 h1=>ih r w1 p tb (by omega) h1
 clear y n1 hl ih;clear h;go_enter Tryz.func163,Tryz.ntmps163
 go_wp2_with fail
 refine(HT.out _ HP0.out).mono ?_;rintro e w1 ⟨rfl,hb⟩;have HF1:=Za (HF0.out.trans (Zc hb));have HP1:=Za (HP0.out.old hb);have HR1:=Za (HR0.out.old hb);clear hb;go_wp2_with fail
 refine(HU.out _ HP1.out).mono ?_;rintro e w2 ⟨rfl,hf,hp⟩;have HF2:=Za (HF1.out.trans hf);have HP2:=Za hp;have HR2:=Za (HR1.out.sfr hf HNE.out);clear hf hp;go_wp2_with fail
 refine(HC.out _ HP2.out).mono ?_;intro e w3 he
 cases hA:Aq f 1 r with
 |error n=>
  rw[hA]at he;obtain⟨hf,rfl⟩:=he;have HF:=Za (HF2.out.trans hf);have e1:Cf (f+1) s (t::r)= .error n:=by rw[Cf,Ad HN1.out];dsimp only;rw[Ao HY.out];dsimp only;rw[hA]
  have e2:=HRR.out.symm.trans e1;subst e2;clear e1 hf;unfold Ay;go_wp2_with fail
  exact⟨rfl,HF.out,rfl⟩
 |ok q=>
  obtain⟨x,r2⟩:=q;rw[hA]at he;obtain⟨hf,v,rfl,hp,hv⟩:=he;obtain⟨s3,rfl,hx,hn⟩:=hv;obtain⟨a1,a2,rfl⟩:=hx.shape;have HX3:=Za (hx.up (show w.heap.size+1≤w2.heap.size from HR2.out.lt));have HN:=Za hn;clear hx hn;have HF3:=Za (HF2.out.trans hf);have HP3:=Za hp;have HR3:=Za (HR2.out.sfr hf HNE.out);clear hf hp;have HA3:=Za hA;clear hA;go_upto_region 5 with(fail)
  obtain⟨W,hW⟩:∃W,w3.alloc (.cells #[.int .i64 x.kind,.int .i64 x.op,.int .i64 x.n,.string (Aa x.name),.slice a1 x.args.length a2] 27)=W:=⟨_,rfl⟩;rw[hW];have hba:Below w3.heap.size w3 W:=hW ▸ bA;have HF4:=Za (HF3.out.trans (Zc hba));have HP4:=Za (HP3.out.old hba);have HR4:=Za (HR3.out.old hba);have HX4:=Za (HX3.out.old hba);have HE4:=Za (hW ▸ Zf w3 [.int .i64 x.kind,.int .i64 x.op,.int .i64 x.n,.string (Aa x.name),.slice a1 x.args.length a2] 27);have HEP:Hid (w3.heap.size≠p):=by show _≠_;have:=HP3.out.lt;omega
  clear hba hW;obtain⟨w4,hWW⟩:∃w4,w4=W:=⟨_,rfl⟩;subst hWW;have hba:Below w4.heap.size w4 (w4.alloc (.cells #[.string ⟨#[93]⟩] 9)):=bA;have HF5:=Za (HF4.out.trans (Zc hba));have HP5:=Za (HP4.out.old hba);have HR5:=Za (HR4.out.old hba);have HE5:=Za (HE4.out.old hba);have HX5:=Za (HX4.out.old hba);have HWN:=Za (Cd p tb r2 [93] _ HP5.out w4.heap.size 1 ((Zf w4 [.string ⟨#[93]⟩] 9).at 0 _ rfl));clear hba;go_wp2_with fail
  refine(HWN.out).mono ?_;intro e w6 he
  cases hA:Ak [93] r2 with
  |error n=>
   rw[hA]at he;obtain⟨hf,rfl⟩:=he;have HF:=Za (HF5.out.trans hf);have e1:Cf (f+1) s (t::r)= .error n:=by rw[Cf,Ad HN1.out];dsimp only;rw[Ao HY.out];dsimp only;rw[HA3.out];dsimp only;rw[hA]
   have e2:=HRR.out.symm.trans e1;subst e2;clear e1 hf;unfold Ay;go_wp2_with fail
   exact⟨rfl,HF.out,rfl⟩
  |ok r3=>
   rw[hA]at he;obtain⟨hf,rfl,hp⟩:=he;have HF6:=Za (HF5.out.trans hf);have HP6:=Za hp;have HR6:=Za (HR5.out.sfr hf HNE.out);have HE6:=Za (HE5.out.sfr hf HEP.out);have HX6:=Za (HX5.out.keep (hf.fresh (by have:=HPW.out;omega)));clear hf hp;have HA6:=Za hA;clear hA;clear HWN;obtain⟨⟨e0,e1,e2,e3,e4⟩,ef0,ef1,ef2,ef3,ef4⟩:=Bf HE6.out;have elt:=HE6.out.lt;obtain⟨⟨x0,x1,x2,x3,x4⟩,xf0,xf1,xf2,xf3,xf4⟩:=Bf HR6.out;have xlt:=HR6.out.lt;go_wp2_with fail
   have e1:Cf (f+1) s (t::r)= .ok (.mk 6 0 0 s [x],r3):=by rw[Cf,Ad HN1.out];dsimp only;rw[Ao HY.out];dsimp only;rw[HA3.out];dsimp only;rw[HA6.out]
   have e2:=HRR.out.symm.trans e1;subst e2;obtain⟨⟨d0,d1,d2,d3,d4⟩,_⟩:=Bf ((Jd HR6.out (.int .i64 6) (.int .i64 0) (.int .i64 0) (.string (Aa s)) (.slice (some ⟨w6.heap.size,0,none⟩) 1 1)).alloc (.cells #[.int .i64 x.kind,.int .i64 x.op,.int .i64 x.n,.string (Aa x.name),(.slice a1 x.args.length a2)] 27));exact bodyPost_ret (v:= .agg #[.int .i64 6,.int .i64 0,.int .i64 0,.string (Aa s),.slice (some ⟨w6.heap.size,0,none⟩) 1 1]) (by simp [results,Tryz.results163,go_sem,d0,d1,d2,d3,d4]) rfl (Zu (x:=x) (y:= .mk 6 0 0 s [x]) HPW.out HF6.out HP6.out HX6.out HN.out HR6.out.lt rfl Dw _ _ _ _ _)
end Go.Proofs.YtcfpfnoldgnloaaGreatDoor
