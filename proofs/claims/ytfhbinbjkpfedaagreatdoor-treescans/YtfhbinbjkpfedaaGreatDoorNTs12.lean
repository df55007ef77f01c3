/-
  awake: chapter 3's example. Condition: the library's table of powers is there.
-/
import Derived.Test.YtfhbinbjkpfedaaGreatDoorNTs11
set_option linter.unusedVariables false
set_option linter.unusedSimpArgs false
namespace Go.Proofs.YtfhbinbjkpfedaaGreatDoor
open Go.RowKit Go.Proofs.Tryz
set_option maxHeartbeats 20000000
set_option maxRecDepth 100000
open Go.Lib renaming hid→Za
open List renaming mem_cons_self→Zb,mem_cons_of_mem→Zf,length_cons→Zg,length_append→Zk,append_assoc→Zp,all_eq_true→Zs,sizeOf_lt_of_mem→Zu,flatMap_cons→Zw
open Go.Proofs.Tryz renaming prog→Zc
open Eg renaming app→Zd
open Below renaming refl→Ze
open World renaming cell?_alloc_lt→Zh,block_lt_of_cell?→Zx
open Bj renaming old→Zi
open Aq renaming old→Zj
open Bool renaming and_eq_true→Zl
open Nat renaming le_refl→Zm,zero_le→Zn,lt_succ_iff_lt_or_eq→Zt,lt_of_lt_of_le→Zv,mul_le_mul_right→Zy
open Ca renaming new→Zo
open Br renaming zero→Zq
open As renaming cons→Zr
theorem Gr {S:Int→Bs→Bool}{t:Nat}{l:List Pc}{z:Bs}(h:Eg S l (10::z)):Eg S (Dv t l) z:=
 Zd (a:=[.g (Hh t)]++l) (b:=[.g [10]]) h trivial
theorem Fa {S:Int→Bs→Bool}(hS:Km S)(s:Bs)(c:UInt8)(z:Bs)(hc:Vu c=true):Eg S [sg s] (c::z):=⟨hS.ofSoft (Eo hc) 4,trivial⟩
theorem Nq {S:Int→Bs→Bool}:∀(l:List St),(∀x,x∈l→∀t z,Eg S (Hc t x) z)→∀t z,Eg S (Gk t l) z
 |[],_,t,z=>trivial
 |x::l,h,t,z=>by
  rw[Gk];exact Zd (h x Zb t _) (Nq l (fun y hy=>h y (Zf _ hy)) t z)
theorem Ld {S:Int→Bs→Bool}(hS:Km S)(hd:Sn){e:Ex}(h:WEx e)(l:List Pc)(z:Bs)(hz:Rf (Ao l++z))(hl:Eg S l z):Eg S (Cr e++l) z:=Zd (ex_sep hS hd h _ hz) hl
theorem Wl {S:Int→Bs→Bool}(hS:Km S)(hd:Sn){e:Ex}(h:WEx e)(w:Bs)(t:Nat)(z:Bs):Eg S (Dv t (wd w:: .g [32]::sg [40]::(Cr e++[sg [41],.g [32],sg [123]]))) z:=by
 refine Gr ⟨hS.soft 2 32 _ (by decide),?_,Ld hS hd h _ _ (Eo (by decide)) ⟨hS.soft 4 32 _ (by decide),Fa hS _ 10 _ (by decide)⟩⟩;rw[Aj,Zp];exact hS.ofHead (Hr hd h).app
theorem st_sep {S:Int→Bs→Bool}(hS:Km S)(hd:Sn){x:St}(h:WSt x):∀t z,Eg S (Hc t x) z:=by
 induction h with
 |set s x h hx=>
  intro t z;rw[stp1];exact Gr ⟨hS.soft 1 32 _ (by decide),hS.soft 4 32 _ (by decide),Ld hS hd hx _ _ (Eo (by decide)) (Fa hS _ 10 _ (by decide))⟩
 |store s x y h hx hy=>
  intro t z;rw[stp2];refine Gr ⟨(hS.opens 1 _ (by decide)).2,?_,Ld hS hd hx _ _ (Eo (by decide)) ⟨hS.soft 4 32 _ (by decide),hS.soft 4 32 _ (by decide),Ld hS hd hy _ _ (Eo (by decide)) (Fa hS _ 10 _ (by decide))⟩⟩;rw[Aj,Zp];exact hS.ofHead (Hr hd hx).app
 |cond x a b hx ha hb iha ihb=>
  intro t z;rw[stp3];refine Zd (Wl hS hd hx _ t _) (Zd (Nq a iha _ _) (Zd ?_ (Gr (Fa hS _ 10 _ (by decide)))))
  cases b with
  |nil=>exact trivial
  |cons y l=>
   rw[if_neg (by simp)];exact Zd (Gr ⟨hS.soft 4 32 _ (by decide),hS.soft 2 32 _ (by decide),Fa hS _ 10 _ (by decide)⟩) (Nq (y::l) ihb _ _)
 |loop x a hx ha iha=>
  intro t z;rw[stp4];exact Zd (Wl hS hd hx _ t _) (Zd (Nq a iha _ _) (Gr (Fa hS _ 10 _ (by decide))))
 |brk=>intro t z;rw[stp5];exact Gr ⟨hS.soft 2 59 _ (by decide),Fa hS _ 10 _ (by decide)⟩
 |cont=>intro t z;rw[stp6];exact Gr ⟨hS.soft 2 59 _ (by decide),Fa hS _ 10 _ (by decide)⟩
 |ret x hx=>
  intro t z;rw[stp7];exact Gr ⟨hS.soft 2 32 _ (by decide),Ld hS hd hx _ _ (Eo (by decide)) (Fa hS _ 10 _ (by decide))⟩
 |print x hx=>
  intro t z;rw[stp8];refine Gr ⟨(hS.opens 2 _ (by decide)).1,?_,Ld hS hd hx _ _ (Eo (by decide)) ⟨hS.soft 4 59 _ (by decide),Fa hS _ 10 _ (by decide)⟩⟩;rw[Aj,Zp];exact hS.ofHead (Hr hd hx).app
 |trap x hx=>
  intro t z;rw[stp9];refine Gr ⟨(hS.opens 2 _ (by decide)).1,?_,Ld hS hd hx _ _ (Eo (by decide)) ⟨hS.soft 4 59 _ (by decide),Fa hS _ 10 _ (by decide)⟩⟩;rw[Aj,Zp];exact hS.ofHead (Hr hd hx).app
 |call s l hx=>
  intro t z;have e:Hc t (.mk 10 [] [.mk 5 0 0 s l] [] [])=Dv t (Cr (.mk 5 0 0 s l)++[sg [59]]):=by rw[stp10,Og];simp only[Zp,List.cons_append,List.nil_append]
  rw[e];exact Gr (Ld hS hd hx _ _ (Eo (by decide)) (Fa hS _ 10 _ (by decide)))
theorem iA {S:Int→Bs→Bool}(hS:Km S)(x:Bs)(z:Bs)(hz:Rf z):Eg S (Iw x) z:=⟨hS.soft 2 32 _ (by decide),hS.ofSoft hz 1,trivial⟩
theorem bT {S:Int→Bs→Bool}(hS:Km S)(z:Bs)(hz:Rf z):∀(l:List Bs),Eg S (l.flatMap (fun y=>[sg [44],.g [32]]++Iw y)) z∧Rf (Ao (l.flatMap (fun y=>[sg [44],.g [32]]++Iw y))++z)
 |[]=>⟨trivial,hz⟩
 |y::l=>by
  obtain⟨h1,h2⟩:=bT hS z hz l;rw[Zw];exact⟨Zd (a:=[sg [44],.g [32]]++Iw y) ⟨hS.soft 4 32 _ (by decide),iA hS y _ h2⟩ h1,Eo (by decide)⟩
theorem gW {S:Int→Bs→Bool}(hS:Km S):∀(l:List Bs) (z:Bs),Eg S (l.flatMap Qb) z
 |[],z=>trivial
 |y::l,z=>by
  rw[Zw];exact Zd (Gr ⟨hS.soft 2 32 _ (by decide),hS.soft 1 59 _ (by decide),Fa hS _ 10 _ (by decide)⟩) (gW hS l z)
theorem fu_sep {S:Int→Bs→Bool}(hS:Km S)(hd:Sn){g:Fu}(hg:WFu g)(z:Bs):Eg S (Up g) z:=by
 obtain⟨nm,ps,ls,bd⟩:=g;obtain⟨_,_,_,hb⟩:=hg;dsimp only at hb;have hbd:Eg S ([sg [41],.g [32],sg [123],.g [10]]++(ls.flatMap Qb++(Gk 1 bd++Dv 0 [sg [125]]))) z:=
  ⟨hS.soft 4 32 _ (by decide),hS.soft 4 10 _ (by decide),(show Eg S (ls.flatMap Qb++(Gk 1 bd++Dv 0 [sg [125]])) z from Zd (gW hS ls _) (Zd (Nq bd (fun x hx=>st_sep hS hd (hb x hx)) _ _) (Gr (Fa hS _ 10 _ (by decide)))))⟩
 refine⟨hS.soft 2 32 _ (by decide),(hS.opens 1 _ (by decide)).1,?_,?_⟩
 ·cases ps with
  |nil=>exact hS.soft 4 41 _ (by decide)
  |cons x l=>exact hS.head 105 _ (by decide)
 ·show Eg S (Ji (ps.map Iw)++([sg [41],.g [32],sg [123],.g [10]]++(ls.flatMap Qb++(Gk 1 bd++Dv 0 [sg [125]])))) z
  refine Zd ?_ hbd
  cases ps with
  |nil=>exact trivial
  |cons x l=>
   have e:Ji ((x::l).map Iw)=Iw x++l.flatMap (fun y=>[sg [44],.g [32]]++Iw y):=by
    show Iw x++(l.map Iw).flatMap _=_;rw[List.flatMap_map]
   rw[e];obtain⟨h1,h2⟩:=bT hS (Ao ([sg [41],.g [32],sg [123],.g [10]]++(ls.flatMap Qb++(Gk 1 bd++Dv 0 [sg [125]])))++z) (Eo (by decide)) l;exact Zd (iA hS x _ h2) h1
theorem ar_sep {S:Int→Bs→Bool}(hS:Km S)(hd:Sn){a:Ar}(ha:0≤a.size)(z:Bs):Eg S (aH a) z:=by
 refine Gr ⟨hS.soft 2 32 _ (by decide),(hS.opens 1 _ (by decide)).2,?_,hS.soft 3 93 _ (by decide),hS.soft 4 59 _ (by decide),Fa hS _ 10 _ (by decide)⟩;exact hS.ofHead (Kk.app (show Kk (Ao [nu a.size,sg [93],sg [59]])from by rw[Kz];exact(Wf ha hd).app))
theorem aO {S:Int→Bs→Bool}(hS:Km S)(hd:Sn):∀(m:List Ar) (l:List Fu) (z:Bs),(∀a,a∈m→0≤a.size)→(∀x,x∈l→WFu x)→Eg S (m.flatMap aH++l.flatMap Up) z
 |[],[],z,_,_=>trivial
 |[],g::l,z,h1,h2=>by
  show Eg S ((g::l).flatMap Up) z
  rw[Zw];exact Zd (fu_sep hS hd (h2 g Zb) _) (aO hS hd [] l z h1 (fun x hx=>h2 x (Zf _ hx)))
 |a::m,l,z,h1,h2=>by
  rw[Zw,Zp];exact Zd (ar_sep hS hd (h1 a Zb) _) (aO hS hd m l z (fun x hx=>h1 x (Zf _ hx)) h2)
inductive Xe:St→Prop
 |mk (k:Int) (nm:Bs) (args:List Ex) (thn els:List St) (ha:∀x,x∈args→N64 x) (ht:∀y,y∈thn→Xe y) (he:∀y,y∈els→Xe y):Xe (.mk k nm args thn els)
theorem bJ {b:Bs}(h:b.all Av=true):match Pc.g b with|.t x=>Me x|.g b=> ∀c,c∈b→Av c=true:=fun c hc=>Zs.1 h c hc
theorem word_ok {x:Bs}(h1:Ge x=true)(h2:Ou x=true):Me ⟨2,x,0⟩:=⟨cI h1 h2,fun e=>absurd (show(2:Int)=3 from e) (by decide),Vd⟩
theorem aB(t:Nat):(Hh t).all Av=true:=by
 unfold Hh;rw[Zs];intro c hc;rw[List.eq_of_mem_replicate hc];rfl
theorem Ja {t:Nat}{l:List Pc}(h:As l):As (Dv t l):=As.app (As.app (Zr (bJ (aB t)) As.nil) h) (Zr (bJ (by decide)) As.nil)
theorem As.sg {s:Bs}{l:List Pc}(h:Eb s=true)(hl:As l):As (sg s::l):=Zr (Gl h) hl
theorem As.wd {s:Bs}{l:List Pc}(h:(Ge s && Ou s)=true)(hl:As l):As (wd s::l):=Zr (word_ok ((Zl _ _).mp h).1 ((Zl _ _).mp h).2) hl
theorem As.nm {s:Bs}{l:List Pc}(h:Ah s=true)(hl:As l):As (nmp s::l):=Zr (Qk h) hl
theorem As.sp {b:Bs}{l:List Pc}(h:b.all Av=true)(hl:As l):As (.g b::l):=Zr (bJ h) hl
theorem Kt:∀(l:List St),(∀x,x∈l→∀t,As (Hc t x))→∀t,As (Gk t l)
 |[],_,t=>As.nil
 |x::l,h,t=>by
  rw[Gk];exact As.app (h x Zb t) (Kt l (fun y hy=>h y (Zf _ hy)) t)
theorem Tp {e:Ex}(h:As (Cr e)){w:Bs}(hw:(Ge w && Ou w)=true)(t:Nat):As (Dv t (wd w:: .g [32]::sg [40]::(Cr e++[sg [41],.g [32],sg [123]]))):=
 Ja (.wd hw (.sp (by decide) (.sg (by decide) (.app h (.sg (by decide) (.sp (by decide) (.sg (by decide) .nil)))))))
theorem st_toks {x:St}(h:WSt x)(hn:Xe x):∀t,As (Hc t x):=by
 induction h with
 |set s x h hx=>
  cases hn with|mk _ _ _ _ _ ha ht he=>
  intro t;rw[stp1];exact Ja (.nm h (.sp (by decide) (.sg (by decide) (.sp (by decide) (.app (Ih hx (ha x Zb)) (.sg (by decide) .nil))))))
 |store s x y h hx hy=>
  cases hn with|mk _ _ _ _ _ ha ht he=>
  intro t;rw[stp2];exact Ja (.nm h (.sg (by decide) (.app (Ih hx (ha x Zb)) (.sg (by decide) (.sp (by decide) (.sg (by decide) (.sp (by decide) (.app (Ih hy (ha y (by simp))) (.sg (by decide) .nil)))))))))
 |cond x a b hx h1 h2 iha ihb=>
  cases hn with|mk _ _ _ _ _ ha ht he=>
  intro t;rw[stp3];refine .app (Tp (Ih hx (ha x Zb)) (by decide) t) (.app (Kt a (fun y hy=>iha y hy (ht y hy)) _) (.app ?_ (Ja (.sg (by decide) .nil))));split
  ·exact .nil
  ·exact .app (Ja (.sg (by decide) (.sp (by decide) (.wd (by decide) (.sp (by decide) (.sg (by decide) .nil)))))) (Kt b (fun y hy=>ihb y hy (he y hy)) _)
 |loop x a hx h1 iha=>
  cases hn with|mk _ _ _ _ _ ha ht he=>
  intro t;rw[stp4];exact .app (Tp (Ih hx (ha x Zb)) (by decide) t) (.app (Kt a (fun y hy=>iha y hy (ht y hy)) _) (Ja (.sg (by decide) .nil)))
 |brk=>intro t;rw[stp5];exact Ja (.wd (by decide) (.sg (by decide) .nil))
 |cont=>intro t;rw[stp6];exact Ja (.wd (by decide) (.sg (by decide) .nil))
 |ret x hx=>
  cases hn with|mk _ _ _ _ _ ha ht he=>
  intro t;rw[stp7];exact Ja (.wd (by decide) (.sp (by decide) (.app (Ih hx (ha x Zb)) (.sg (by decide) .nil))))
 |print x hx=>
  cases hn with|mk _ _ _ _ _ ha ht he=>
  intro t;rw[stp8];exact Ja (.wd (by decide) (.sg (by decide) (.app (Ih hx (ha x Zb)) (.sg (by decide) (.sg (by decide) .nil)))))
 |trap x hx=>
  cases hn with|mk _ _ _ _ _ ha ht he=>
  intro t;rw[stp9];exact Ja (.wd (by decide) (.sg (by decide) (.app (Ih hx (ha x Zb)) (.sg (by decide) (.sg (by decide) .nil)))))
 |call s l hx=>
  cases hn with|mk _ _ _ _ _ ha ht he=>
  intro t;have e:Hc t (.mk 10 [] [.mk 5 0 0 s l] [] [])=Dv t (Cr (.mk 5 0 0 s l)++[sg [59]]):=by rw[stp10,Og];simp only[Zp,List.cons_append,List.nil_append]
  rw[e];exact Ja (.app (Ih hx (ha _ Zb)) (.sg (by decide) .nil))
theorem Qi {α:Type}(f:α→List Pc)(l:List α)(h:∀x,x∈l→As (f x)):As (l.flatMap f):=fun p hp=>by
 obtain⟨x,hx,hp⟩:=List.mem_flatMap.1 hp;exact h x hx p hp
theorem pa_ok {x:Bs}(h:Ah x=true):As (Iw x):=.wd (by decide) (.sp (by decide) (.nm h .nil))
theorem fu_toks {g:Fu}(hg:WFu g)(hn:∀x,x∈g.body→Xe x):As (Up g):=by
 obtain⟨nm,ps,ls,bd⟩:=g;obtain⟨h1,h2,h3,hb⟩:=hg;dsimp only at h1 h2 h3 hb hn;have htail:As (ls.flatMap Qb++(Gk 1 bd++Dv 0 [sg [125]])):=.app (Qi Qb ls fun x hx=>(show As (Dv 1 [wd [105,110,116],.g [32],nmp x,sg [59]])from Ja (.wd (by decide) (.sp (by decide) (.nm (h3 x hx) (.sg (by decide) .nil)))))) (.app (Kt bd (fun y hy=>st_toks (hb y hy) (hn y hy)) _) (Ja (.sg (by decide) .nil)));have hps:As (Ji (ps.map Iw)):=by
  cases ps with
  |nil=>exact .nil
  |cons x l=>
   have e:Ji ((x::l).map Iw)=Iw x++l.flatMap (fun y=>[sg [44],.g [32]]++Iw y):=by
    show Iw x++(l.map Iw).flatMap _=_;rw[List.flatMap_map]
   rw[e];exact .app (pa_ok (h2 x Zb)) (Qi _ _ fun y hy=>.sg (by decide) (.sp (by decide) (pa_ok (h2 y (Zf _ hy)))))
 show As (wd [105,110,116]:: .g [32]::nmp nm::sg [40]::(Ji (ps.map Iw)++(sg [41]:: .g [32]::sg [123]:: .g [10]::(ls.flatMap Qb++(Gk 1 bd++Dv 0 [sg [125]])))))
 exact .wd (by decide) (.sp (by decide) (.nm h1 (.sg (by decide) (.app hps (.sg (by decide) (.sp (by decide) (.sg (by decide) (.sp (by decide) htail))))))))
theorem cC {a:Ar}(h:Ck a=true):As (aH a)∧0≤a.size:=by
 unfold Ck at h;obtain⟨h1,h2⟩:=(Zl _ _).mp h;have h2:=of_decide_eq_true h2;exact⟨Ja (.wd (by decide) (.sp (by decide) (.nm h1 (.sg (by decide) (.cons (kA (by omega) ⟨by omega,by omega⟩) (.sg (by decide) (.sg (by decide) .nil))))))),by omega⟩
theorem pr_gap:∀(m:List Ar) (l:List Fu),Dr (m.flatMap aH++l.flatMap Up)=[]
 |[],[]=>rfl
 |[],g::l=>rfl
 |a::m,l=>rfl
theorem Ut {p:Pr}(h:Dp p=true):(∀a,a∈p.arrays→Ck a=true)∧∀x,x∈p.funcs→WFu x:=by
 unfold Dp at h;simp only[Zl,Zs]at h;exact⟨h.1,fun x hx=>wfu_of (h.2 x hx)⟩
abbrev Od(l:List Tk)(i:Nat):Tk:=l.getD i ⟨0,[],0,0⟩
def fB(w:World)(l:List Tk)(v:Value):Prop:=
 ∃a cap b off,v=.slice a l.length cap∧l.length≤cap∧(l.length=0∨a=some ⟨b,off,none⟩)∧l.length≤1000000∧
  ∀i,i<l.length→w.cell? ⟨b,off+i*4,none⟩=some (.int .i64 (Od l i).kind)∧w.cell? ⟨b,off+i*4+1,none⟩=some (.string (Aa (Od l i).text))∧w.cell? ⟨b,off+i*4+2,none⟩=some (.int .i64 (Od l i).num)∧w.cell? ⟨b,off+i*4+3,none⟩=some (.int .i64 (Od l i).line)
theorem fB.slice {w:World}{l:List Tk}{v:Value}(h:fB w l v):∃a cap,v=.slice a l.length cap∧l.length≤cap:=by
 obtain⟨a,cap,b,off,h1,hc,_⟩:=h;exact⟨a,cap,h1,hc⟩
theorem fB.at {w:World}{l:List Tk}{a:Option Addr}{n cap:Nat}(h:fB w l (.slice a n cap))(i:Nat)(hi:i<l.length):∃b off,a=some ⟨b,off,none⟩∧b<w.heap.size∧
  w.cell? ⟨b,off+i*4,none⟩=some (.int .i64 (Od l i).kind)∧w.cell? ⟨b,off+i*4+1,none⟩=some (.string (Aa (Od l i).text))∧w.cell? ⟨b,off+i*4+2,none⟩=some (.int .i64 (Od l i).num)∧w.cell? ⟨b,off+i*4+3,none⟩=some (.int .i64 (Od l i).line):=by
 obtain⟨a',cap',b,off,h1,hc,h2,h3,h4⟩:=h
 cases h1
 rcases h2 with h2|h2
 ·omega
 ·exact⟨b,off,h2,Zx _ _ (h4 i hi).1,h4 i hi⟩
theorem Gg.tks {w:World}{base:Nat}{l:List Tk}{v:Value}(h:Gg w base l v)(hl:l.length≤1000000):fB w l v:=by
 have h0:=h;rcases h.2 with⟨rfl,hz⟩|⟨g,cap,cur,rfl,hb,hg,hc,r⟩
 ·have:l=[]:=List.length_eq_zero_iff.1 hz
  subst this;exact⟨none,0,0,0,rfl,Zm _,.inl rfl,hl,fun i hi=>absurd hi (Nat.not_lt_zero _)⟩
 ·refine⟨_,cap,g,0,rfl,hc,.inr rfl,hl,fun i hi=>?_⟩
  have hp:l[i]? =some (Od l i):=by simp [Od,List.getElem?_eq_getElem hi]
  have c:∀q u,q<4→(Ha (Od l i))[q]? =some u→w.cell? ⟨g,0+i*4+q,none⟩=some u:=fun q u hq hu=>by
   have:=zrow_at h0 (i*4+q) u (by rw[Xg Ha 4 (fun _=>rfl) l i q _ hp hq];exact hu)
   rwa[Nat.zero_add]
  exact⟨c 0 _ (by decide) rfl,c 1 _ (by decide) rfl,c 2 _ (by decide) rfl,c 3 _ (by decide) rfl⟩
theorem Uz:∀(l:List Pc) (n:Nat),As l→Wn (n+Az (Dr l)) (Gj l)=n+Az (Ao l)
 |[],n,_=>rfl
 |.g b::l,n,h=>by
  show Wn (n+Az (b++Dr l)) (Gj l)=n+Az (b++Ao l)
  rw[Bd,Bd,←Nat.add_assoc,←Nat.add_assoc];exact Uz l (n+Az b) (fun p hp=>h p (Zf _ hp))
 |.t x::l,n,h=>by
  have eg:Ay (Dr l) []=Dr l:=by unfold Ay;simp
  show Wn (n+0+Az (Ay (Dr l) [])) (Gj l)=n+Az (x.text++Ao l)
  rw[eg,Nat.add_zero,Bd,aR (h (.t x) Zb),Nat.zero_add];exact Uz l n (fun p hp=>h p (Zf _ hp))
theorem ts_scan {p:Pr}(hr:Dp p=true)(hn:∀g,g∈p.funcs→∀x,x∈g.body→Xe x)(hlen:(Bz p).length≤20000)(w:World)(hl:Kn w):
  Calls Zc 23 #[.string (Aa (Bz p))] w fun e w'=>Below w.heap.size w w'∧∃v T u,e=.returned (.tuple #[v,.int .i64 0,.int .i64 0])∧fB w' (T++[u]) v∧u.line=((p.arrays.length+Gc p.funcs+1:Nat):Int)∧T.length≤20000:=by
 obtain⟨h1,h2⟩:=Ut hr;have hok:As (Mg p):=.app (Qi _ _ fun a ha=>(cC (h1 a ha)).1) (Qi _ _ fun x hx=>fu_toks (h2 x hx) (hn x hx));have hg:Dr (Mg p)=[]:=pr_gap _ _;have hs:Eg Lf (Mg p) []:=aO sepR digL p.arrays p.funcs [] (fun a ha=>(cC (h1 a ha)).2) h2;obtain⟨i1,i2⟩:=Xt [] (Mg p) hok hs;have ht:=Nd (Mg p);have hil:=Uw (Mg p) hok;rw[hg,List.nil_append]at ht;rw[Tw]at ht hil;have e0:Ay [] []++Dy (Gj (Mg p))=Bz p:=by rw[←ht];rfl
 have hx:=iT [] [] gZ (Gj (Mg p)) i1 (by rw[e0];exact hlen) w hl;rw[e0]at hx;refine hx.mono ?_;rintro e w' ⟨hb,v,he,hT⟩;have hl2:(fF (1+Az (Ay [] [])) (Gj (Mg p))).length=(Gj (Mg p)).length:=fU _ _;refine⟨hb,v,_,_,he,hT.tks (by show(_++[_]).length≤_;rw[Zk,hl2];show _+1≤_;omega),?_,by rw[hl2];omega⟩;show((Wn (1+Az (Ay [] [])) (Gj (Mg p)):Nat):Int)=_
 have hf:=pr_nf hr;have he:=Uz (Mg p) 1 hok;rw[hg,Tw,hf]at he;have e1:Wn (1+Az (Ay [] [])) (Gj (Mg p))=1+(p.arrays.length+Gc p.funcs):=he;rw[e1];omega
def fuB:Nat:=1000+stB 4
def prB:Nat:=200+3*fuB
theorem gB:2*prB≤140737488355328:=by decide+kernel
theorem Yw {a:Ar}(h:Ck a=true):(Jk a).length≤100:=by
 unfold Ck at h;simp only[Zl,decide_eq_true_eq]at h;have h1:=Ek h.1;have h2:=Lib.itoa_length_le a.size (by omega) (by omega);unfold Jk;rw[Vm];simp only[List.flatten_cons,List.flatten_nil,Zk,Zg,List.length_nil];omega
theorem Pw:∀l:List Ar,(∀a,a∈l→Ck a=true)→(Cq l).length≤l.length*100
 |[],_=>by simp [Cq]
 |a::l,h=>by
  have h1:=Yw (h a Zb);have h2:=Pw l (fun x hx=>h x (Zf _ hx));show(Jk a++Cq l).length≤_
  rw[Zk,Zg,Nat.add_mul];omega
theorem Pv:∀l:List Bs,(∀x,x∈l→Ah x=true)→(De l).length≤l.length*40
 |[],_=>by simp [De]
 |x::l,h=>by
  have h1:=Ek (h x Zb);have h2:=Pv l (fun y hy=>h y (Zf _ hy));show(ln 1 [[105,110,116,32],x,[59]]++De l).length≤_
  rw[Zk,Vm,Zg,Nat.add_mul];simp only[List.flatten_cons,List.flatten_nil,Zk,Zg,List.length_nil];omega
theorem Yu {f:Fu}(h:FOk f)(hp:f.params.length≤6)(hl:f.locals.length≤5)(hb:(Bf 1 f.body).length≤stB 4):(Fg f).length≤fuB:=by
 have h1:=Ek h.name;have h2:=cH 24 (f.params.map Hd) (fun x hx=>by
  obtain⟨y,hy,rfl⟩:=List.mem_map.1 hx;have:=Ek (h.params y hy);unfold Hd;rw[Zk];simp;omega)
 have h3:=Pv f.locals h.locals;have h4:(f.params.map Hd).length*(24+2)≤6*26:=Zy _ (by rw[List.length_map];exact hp);have h5:f.locals.length*40≤5*40:=Zy _ hl;unfold Fg fuB;simp only[Zk,Vm,List.flatten_cons,List.flatten_nil,Zg,List.length_nil];omega
theorem Ph:∀l:List Fu,(∀f,f∈l→(Fg f).length≤fuB)→(Df l).length≤l.length*fuB
 |[],_=>by simp [Df]
 |a::l,h=>by
  have h1:=h a Zb;have h2:=Ph l (fun x hx=>h x (Zf _ hx));show(Fg a++Df l).length≤_
  rw[Zk,Zg,Nat.add_mul];omega
theorem Pe(raw:List Int)(sc:Sc)(P:Fu→Prop)(hP:∀f,f∈sc.funcs→∀a,P (Md raw sc f a).1):∀(l:List Fu),(∀f,f∈l→f∈sc.funcs)→∀a,∀x,x∈(Cf raw sc l a).1→P x
 |[],_,a,x,hx=>by cases hx
 |f::l,hl,a,x,hx=>by
  rw[Cf]at hx;rcases List.mem_cons.1 hx with rfl|hx
  ·exact hP f (hl f Zb) a
  ·exact Pe raw sc P hP l (fun g hg=>hl g (Zf _ hg)) _ x hx
theorem Lb(raw:List Int)(sc:Sc):∀(l:List Fu) (a:Nat),(Cf raw sc l a).1.length=l.length
 |[],a=>rfl
 |g::l,a=>by rw[Cf,Zg,Zg,Lb raw sc l]
theorem Oa(free:Bool)(raw:List Int):∀n a,(Gt free raw n a).1.length=n
 |0,a=>rfl
 |n+1,a=>by rw[Gt,Zg,Oa free raw n]
theorem Ob(raw:List Int):∀n a,(Gi raw n a).1.length=n
 |0,a=>rfl
 |n+1,a=>by rw[Gi,Zg,Ob raw n]
theorem gSc_ok(raw:List Int)(free:Bool){f:Fu}(hf:f∈(Gx raw free).funcs)(k:Nat):Sc.Ok ⟨f.params++Ch.take k,(Gx raw free).arrays,(Gx raw free).funcs,free,false⟩:=by
 refine⟨fun x hx=>?_,fun x hx=>?_,fun x hx=>⟨(Fp raw free x hx).1,(Fp raw free x hx).2.1⟩⟩
 ·rcases List.mem_append.1 hx with hx|hx
  ·exact(Fp raw free f hf).2.2 x hx
  ·exact Te x (List.mem_of_mem_take hx)
 ·have:=Kf raw free x hx
  unfold Ck at this;exact((Zl _ _).mp this).1
theorem Xc(raw:List Int)(free:Bool):∀f,f∈(Ie raw free).funcs→(Fg f).length≤fuB:=by
 intro f hf;have hr:=La raw free;unfold Dp at hr;simp only[Zl,Zs]at hr;have hok:=fR (hr.2 f hf);have h:=Pe (raw.take 400) (Gx (raw.take 400) free) (fun f=>f.params.length≤6∧f.locals.length≤5∧(Bf 1 f.body).length≤stB 4) (fun g hg a=>by
  have hh:=Fp (raw.take 400) free g hg;refine⟨hh.2.1,?_,?_⟩
  ·show(Ch.take _).length≤5
   rw[List.length_take];exact Nat.min_le_right _ _
  ·exact Mh (raw.take 400) 4 1 _ (gSc_ok (raw.take 400) free hg _) (by omega) _) (Gx (raw.take 400) free).funcs (fun f hf=>hf) _ f hf
 exact Yu hok h.1 h.2.1 h.2.2
theorem Uy(raw:List Int)(free:Bool):(Ie raw free).arrays.length≤2∧(Ie raw free).funcs.length≤3∧0<(Ie raw free).funcs.length:=by
 have h1:=Af (raw.take 400) 0 3 (by decide);have h2:=Af (raw.take 400) (Gz (raw.take 400) free).2 3 (by decide);have ea:(Ie raw free).arrays.length=(Ad (raw.take 400) 0 3).1.toNat:=Oa _ _ _ _;have ef:(Ie raw free).funcs.length=(Ad (raw.take 400) (Gz (raw.take 400) free).2 3).1.toNat+1:=by
  show(Cf _ _ _ _).1.length=_
  rw[Lb];show(Ig::(Mi _ _).1).length=_
  rw[Zg];show(Gi _ _ _).1.length+1=_
  rw[Ob]
 rw[ea,ef];omega
theorem fD(raw:List Int)(free:Bool):(Bz (Ie raw free)).length≤prB:=by
 have hr:=La raw free;unfold Dp at hr;simp only[Zl,Zs]at hr;obtain⟨c1,c2,_⟩:=Uy raw free;have h1:=Pw _ hr.1;have h2:=Ph _ (Xc raw free);have h3:(Ie raw free).arrays.length*100≤2*100:=Zy _ c1;have h4:(Ie raw free).funcs.length*fuB≤3*fuB:=Zy _ c2;unfold Bz prB;rw[Zk];omega
def Li(a:Ex):Prop:= ∀(b:Ex) (D:Nat→Prop) (sa sb:Value) (w:World),Ai D w a.args sa→Ai D w b.args sb→
 Calls Zc 83 #[exV a sa,exV b sb] w fun e w'=>e=.returned (.bool (Gn a b))∧Below w.heap.size w w'
theorem Rq(la:List Ex)(ih:∀x,x∈la→Li x)(lb:List Ex)(D:Nat→Prop)(va vb:Value)(w:World)(ha:Ai D w la va)(hb:Ai D w lb vb):
  Calls Zc 82 #[va,vb,.func (.func 83) #[] #[]] w fun e w'=>e=.returned (.bool (Bo Gn la lb))∧Below w.heap.size w w':=by
 obtain⟨a1,a2,rfl⟩:=ha.shape;obtain⟨b1,b2,rfl⟩:=hb.shape;have l63:=ha.fits.lt;have m63:=hb.fits.lt
 by_cases hl:lb.length=la.length
 ·rw[hl]at hb ⊢
  have HA:=Za ha;have HB:=Za hb;have IH:=Za ih;have HL:=Za hl;clear ha hb ih hl m63;go_enter func82,ntmps82
  go_wp2_with fail
  go_loopw [7,8,9,17] (fun _ _ _ s17 wr=> ∃k:Nat,k≤la.length∧s17=.int .i64 k∧(∀i,i<k→Gn (la.getD i Ex.nil) (lb.getD i Ex.nil)=true)∧Below w.heap.size w wr) (fun _ _ _ s17 _=>la.length-(intOf s17).toNat)
  case atStart=>exact⟨0,Zn _,rfl,fun i hi=>by omega,Ze _ _⟩
  case round=>
   obtain⟨k,hk,rfl,hno,hb⟩:=hrel;have HNO:=Za hno;have HBW:=Za hb;have hsz:=hb.size;clear hno hb
   by_cases hlt:k<la.length
   ·obtain⟨xab,xao,xas,rfl,xaD,a0,a1,a2,a3,a4,ah,an⟩:=Ai.cellAt (Ai.old HBW.o HA.o) k hlt
    obtain⟨xbb,xbo,xbs,rfl,xbD,b0,b1,b2,b3,b4,bh,bn⟩:=Ai.cellAt (Ai.old HBW.o HB.o) k (by rw[HL.o];exact hlt);obtain⟨a5,a6,rfl⟩:=ah.shape;obtain⟨b5,b6,rfl⟩:=bh.shape;have al:=Zx _ _ a0;have bl:=Zx _ _ b0;have HAH:=Za ah;have HBH:=Za bh;clear ah bh an bn xaD xbD;have IHX:=Za (IH.out _ (Cb hlt));have HKL:=Za hlt;generalize hxe:Bh la k=xa at*;generalize hye:Bh lb k=xb at*;have HXE:=Za hxe;have HYE:=Za hye;clear hxe hye;generalize hxa:Gn xa xb=q;have HXA:Hid (Gn (Bh la k) (Bh lb k)=q):=by show _=_;rw[HXE.o,HYE.o];exact hxa
    have HXB:=Za hxa;clear hxa;have hww:Below wr.heap.size wr ((wr.alloc (.cells #[.int .i64 xa.kind,.int .i64 xa.op,.int .i64 xa.n,.string (Aa xa.name),.slice a5 xa.args.length a6] 31)).alloc (.cells #[.int .i64 xb.kind,.int .i64 xb.op,.int .i64 xb.n,.string (Aa xb.name),.slice b5 xb.args.length b6] 31)):=(bA).alloc (by simp) _;have HAH2:=Za (HAH.o.old hww);have HBH2:=Za (HBH.o.old hww);have HWW:=Za (HBW.o.trans (hww.mono hsz));clear hww;go_wp2_with fail
    refine(IHX.out _ D _ _ _ HAH2.o HBH2.o).mono ?_;rw[HXB.o]
    cases q
    ·rintro r w2 ⟨rfl,hb2⟩
     have HB2:=Za (HWW.o.trans (hb2.mono (by simp;omega)));clear hb2 a0 a1 a2 a3 a4 b0 b1 b2 b3 b4;go_wp2_with fail
     go_ret
     exact⟨Ak (Fw Gn Ex.nil la lb k HL.o.symm HKL.o HXA.o).symm,HB2.o⟩
    ·rintro r w2 ⟨rfl,hb2⟩
     have HB2:=Za (HWW.o.trans (hb2.mono (by simp;omega)));clear hb2 a0 a1 a2 a3 a4 b0 b1 b2 b3 b4;go_wp2_with fail
     go_roundw
     case rel=>exact⟨k+1,by omega,by go_num,fun i hi=>by rcases Zt.1 hi with h|rfl;exact HNO.o i h;exact HXA.o,HB2.o⟩
     case measure=>simp [intOf];omega
   ·go_wp2_with fail
    go_ret
    exact⟨Ak (Gu Gn Ex.nil la lb HL.o.symm (fun i hi=>HNO.o i (by omega))).symm,HBW.o⟩
 ·have hne:((la.length:Int) !=(lb.length:Int))=true:=by rw[bne_iff_ne];omega
  have E:Hid (Bo Gn la lb=false):=Hq _ _ _ (by omega);clear ha hb ih hl;go_enter func82,ntmps82
  go_wp2_with fail
  go_ret
  exact⟨Ak E.out.symm,Ze _ _⟩
theorem Sw(a:Ex)(ih:∀x,x∈a.args→Li x):Li a:=by
 intro b D sa sb w ha hb;obtain⟨a1,a2,rfl⟩:=ha.shape;obtain⟨b1,b2,rfl⟩:=hb.shape;have EQ:=Za (Rq a.args ih);obtain⟨k,o,n,nm,us⟩:=a;obtain⟨k',o',n',nm',bs⟩:=b;have HA:=Za ha;have HB:=Za hb;have E:Hid (Gn (.mk k o n nm us) (.mk k' o' n' nm' bs)=(k==k' && o==o' && n==n' && nm==nm' && Bo Gn us bs)):=by show _=_;rw[Gn,Ky]
 clear ha hb ih;show Calls _ _ #[.agg #[.int .i64 k,.int .i64 o,.int .i64 n,.string (Aa nm),.slice a1 us.length a2],.agg #[.int .i64 k',.int .i64 o',.int .i64 n',.string (Aa nm'),.slice b1 bs.length b2]] _ _
 rw[E.out];go_enter func83,ntmps83
 go_wp2_with fail
 ·refine(EQ.out bs D (.slice a1 us.length a2) (.slice b1 bs.length b2) _ ?h1 ?h2).mono ?_
  case h1=>exact Ai.old ((bA).alloc (by simp) _) HA.o
  case h2=>exact Ai.old ((bA).alloc (by simp) _) HB.o
  rintro r w1 ⟨rfl,hb⟩;go_wp2_with fail
  go_ret
  exact⟨Ak (by simp [*,Ex.args,St.args,St.thn,St.els]),((bA).alloc (by simp) _).trans (hb.mono (by simp;omega))⟩
 all_goals
  go_ret
  refine⟨Ak ?_,(bA).alloc (by simp) _⟩;simp [*]
theorem Ny:∀(n:Nat) (e:Ex),SizeOf.sizeOf e≤n→Li e
 |0,e,h=>by cases e;simp at h
 |n+1,e,h=>Sw e fun x hx=>Ny n x (by have:=Ex.size_lt hx;omega)
theorem Vk(e:Ex):Li e:=Ny _ e (Zm _)
theorem dG(la lb:List Ex)(D:Nat→Prop)(va vb:Value)(w:World)(ha:Ai D w la va)(hb:Ai D w lb vb):
  Calls Zc 82 #[va,vb,.func (.func 83) #[] #[]] w fun e w'=>e=.returned (.bool (Fd la lb))∧Below w.heap.size w w':=by
 rw[Ky];exact Rq la (fun x _=>Vk x) lb D va vb w ha hb
def Lg(x:St):Prop:= ∀(y:St) (D:Nat→Prop) (a t e a' t' e':Value) (w:World),Ai D w x.args a→Al D w x.thn t→Al D w x.els e→Ai D w y.args a'→Al D w y.thn t'→Al D w y.els e'→
 Calls Zc 49 #[stV x a t e,stV y a' t' e'] w fun e w'=>e=.returned (.bool (Eh x y))∧Below w.heap.size w w'
theorem Mk(la:List St)(ih:∀x,x∈la→Lg x)(lb:List St)(D:Nat→Prop)(va vb:Value)(w:World)(ha:Al D w la va)(hb:Al D w lb vb):
  Calls Zc 48 #[va,vb,.func (.func 49) #[] #[]] w fun e w'=>e=.returned (.bool (Bo Eh la lb))∧Below w.heap.size w w':=by
 obtain⟨a1,a2,rfl⟩:=ha.shape;obtain⟨b1,b2,rfl⟩:=hb.shape;have l63:=ha.fits.lt;have m63:=hb.fits.lt
 by_cases hl:lb.length=la.length
 ·rw[hl]at hb ⊢
  have HA:=Za ha;have HB:=Za hb;have IH:=Za ih;have HL:=Za hl;clear ha hb ih hl m63;go_enter func48,ntmps48
  go_wp2_with fail
  go_loopw [7,8,9,17] (fun _ _ _ s17 wr=> ∃k:Nat,k≤la.length∧s17=.int .i64 k∧(∀i,i<k→Eh (la.getD i St.nil) (lb.getD i St.nil)=true)∧Below w.heap.size w wr) (fun _ _ _ s17 _=>la.length-(intOf s17).toNat)
  case atStart=>exact⟨0,Zn _,rfl,fun i hi=>by omega,Ze _ _⟩
  case round=>
   obtain⟨k,hk,rfl,hno,hb⟩:=hrel;have HNO:=Za hno;have HBW:=Za hb;have hsz:=hb.size;clear hno hb
   by_cases hlt:k<la.length
   ·obtain⟨xab,xao,a7,a8,a9,rfl,xaD,al,a0,a1,a2,a3,a4,ah,at',ae⟩:=Al.cellAt (Al.old HBW.o HA.o) k hlt
    obtain⟨xbb,xbo,b7,b8,b9,rfl,xbD,bl,b0,b1,b2,b3,b4,bh,bt,be⟩:=Al.cellAt (Al.old HBW.o HB.o) k (by rw[HL.o];exact hlt);obtain⟨a51,a52,rfl⟩:=ah.shape;obtain⟨b51,b52,rfl⟩:=bh.shape;obtain⟨a61,a62,rfl⟩:=Al.shape at';obtain⟨b61,b62,rfl⟩:=Al.shape bt;obtain⟨a71,a72,rfl⟩:=Al.shape ae;obtain⟨b71,b72,rfl⟩:=Al.shape be;have HAH:=Za ah;have HBH:=Za bh;have HAT:=Za at';have HBT:=Za bt;have HAE:=Za ae;have HBE:=Za be;clear ah bh at' bt ae be xaD xbD;have IHX:=Za (IH.out _ (Iv hlt));have HKL:=Za hlt;generalize hxe:Ff la k=xa at*;generalize hye:Ff lb k=xb at*;have HXE:=Za hxe;have HYE:=Za hye;clear hxe hye;generalize hxa:Eh xa xb=q;have HXA:Hid (Eh (Ff la k) (Ff lb k)=q):=by show _=_;rw[HXE.o,HYE.o];exact hxa
    have HXB:=Za hxa;clear hxa;have hww:Below wr.heap.size wr ((wr.alloc (.cells #[.int .i64 xa.kind,.string (Aa xa.name),.slice a51 xa.args.length a52,.slice a61 xa.thn.length a62,.slice a71 xa.els.length a72] 56)).alloc (.cells #[.int .i64 xb.kind,.string (Aa xb.name),.slice b51 xb.args.length b52,.slice b61 xb.thn.length b62,.slice b71 xb.els.length b72] 56)):=(bA).alloc (by simp) _;have HAH2:=Za (HAH.o.old hww);have HBH2:=Za (HBH.o.old hww);have HAT2:=Za (HAT.o.old hww);have HBT2:=Za (HBT.o.old hww);have HAE2:=Za (HAE.o.old hww);have HBE2:=Za (HBE.o.old hww);have HWW:=Za (HBW.o.trans (hww.mono hsz));clear hww;go_wp2_with fail
    refine(IHX.out _ D _ _ _ _ _ _ _ HAH2.o HAT2.o HAE2.o HBH2.o HBT2.o HBE2.o).mono ?_;rw[HXB.o]
    cases q
    ·rintro r w2 ⟨rfl,hb2⟩
     have HB2:=Za (HWW.o.trans (hb2.mono (by simp;omega)));clear hb2 a0 a1 a2 a3 a4 b0 b1 b2 b3 b4;go_wp2_with fail
     go_ret
     exact⟨Ak (Fw Eh St.nil la lb k HL.o.symm HKL.o HXA.o).symm,HB2.o⟩
    ·rintro r w2 ⟨rfl,hb2⟩
     have HB2:=Za (HWW.o.trans (hb2.mono (by simp;omega)));clear hb2 a0 a1 a2 a3 a4 b0 b1 b2 b3 b4;go_wp2_with fail
     go_roundw
     case rel=>exact⟨k+1,by omega,by go_num,fun i hi=>by rcases Zt.1 hi with h|rfl;exact HNO.o i h;exact HXA.o,HB2.o⟩
     case measure=>simp [intOf];omega
   ·go_wp2_with fail
    go_ret
    exact⟨Ak (Gu Eh St.nil la lb HL.o.symm (fun i hi=>HNO.o i (by omega))).symm,HBW.o⟩
 ·have hne:((la.length:Int) !=(lb.length:Int))=true:=by rw[bne_iff_ne];omega
  have E:Hid (Bo Eh la lb=false):=Hq _ _ _ (by omega);clear ha hb ih hl;go_enter func48,ntmps48
  go_wp2_with fail
  go_ret
  exact⟨Ak E.out.symm,Ze _ _⟩
theorem Sv(x:St)(iht:∀y,y∈x.thn→Lg y)(ihe:∀y,y∈x.els→Lg y):Lg x:=by
 intro y D sa st se sb ut ue w ha ht he hb ht' he';obtain⟨a1,a2,rfl⟩:=ha.shape;obtain⟨t1,t2,rfl⟩:=ht.shape;obtain⟨e1,e2,rfl⟩:=he.shape;obtain⟨b1,b2,rfl⟩:=hb.shape;obtain⟨u1,u2,rfl⟩:=ht'.shape;obtain⟨v1,v2,rfl⟩:=he'.shape;have EQT:=Za (Mk x.thn iht);have EQE:=Za (Mk x.els ihe);obtain⟨k,nm,us,tt,ee⟩:=x;obtain⟨k',nm',vs,tt',ee'⟩:=y;have HA:=Za ha;have HT:=Za ht;have HE:=Za he;have HA':=Za hb;have HT':=Za ht';have HE':=Za he';have E:Hid (Eh (.mk k nm us tt ee) (.mk k' nm' vs tt' ee')=(k==k' && nm==nm' && Fd us vs && Bo Eh tt tt' && Bo Eh ee ee')):=by show _=_;rw[Eh,Jb,Jb]
 clear ha ht he hb ht' he' iht ihe;show Calls _ _ #[.agg #[.int .i64 k,.string (Aa nm),.slice a1 us.length a2,.slice t1 tt.length t2,.slice e1 ee.length e2],.agg #[.int .i64 k',.string (Aa nm'),.slice b1 vs.length b2,.slice u1 tt'.length u2,.slice v1 ee'.length v2]] _ _
 rw[E.out];go_enter func49,ntmps49
 go_wp2_with fail
 ·have HBW:=Za (((Ze w.heap.size w).alloc (Zm _) (.cells #[.int .i64 k',.string (Aa nm'),.slice a1 us.length a2,.slice t1 tt.length t2,.slice e1 ee.length e2] 56)).alloc (by simp) (.cells #[.int .i64 k',.string (Aa nm'),.slice b1 vs.length b2,.slice u1 tt'.length u2,.slice v1 ee'.length v2] 56))
  refine(dG us vs D (.slice a1 us.length a2) (.slice b1 vs.length b2) _ ?h1 ?h2).mono ?_
  case h1=>exact Ai.old ((bA).alloc (by simp) _) HA.o
  case h2=>exact Ai.old ((bA).alloc (by simp) _) HA'.o
  rintro r w1 ⟨rfl,hb1⟩;have hz:w.heap.size+1<w1.heap.size:=by have:=hb1.size;simp at this;omega
  have g3:w1.cell? ⟨w.heap.size,3,none⟩=some (.slice t1 tt.length t2):=Ac hb1 (by simp [Zh]);have g4:w1.cell? ⟨w.heap.size,4,none⟩=some (.slice e1 ee.length e2):=Ac hb1 (by simp [Zh]);have k3:w1.cell? ⟨w.heap.size+1,3,none⟩=some (.slice u1 tt'.length u2):=Ac hb1 (by simp [Zh]);have k4:w1.cell? ⟨w.heap.size+1,4,none⟩=some (.slice v1 ee'.length v2):=Ac hb1 (by simp [Zh]);have hbw:Below w.heap.size w w1:=((bA).alloc (by simp) _).trans (hb1.mono (by simp;omega));have HBW1:=Za hbw;clear hb1 hbw HBW
  cases qa:Fd us vs
  ·have QA:=Za qa;clear qa
   go_wp2_with fail
   go_ret
   exact⟨Ak (by simp [*,QA.out]),HBW1.o⟩
  have QA:=Za qa;clear qa;go_wp2_with fail
  refine(EQT.out tt' D (.slice t1 tt.length t2) (.slice u1 tt'.length u2) _ (HT.o.old HBW1.o) (HT'.o.old HBW1.o)).mono ?_;rintro r w2 ⟨rfl,hb2⟩;have l4:=Ac hb2 g4;have m4:=Ac hb2 k4;have HBW2:=Za (HBW1.o.trans (hb2.mono (by omega)));have hs2:=hb2.size;clear hb2 g3 g4 k3 k4;have ET:Bo Eh (St.mk k' nm' us tt ee).thn tt'=Bo Eh tt tt':=rfl
  first
   |rw[ET]
   |rw[show Bo Eh (St.mk k nm us tt ee).thn tt'=Bo Eh tt tt' from rfl]
  clear ET
  cases qt:Bo Eh tt tt'
  ·have QT:=Za qt;clear qt
   go_wp2_with fail
   go_ret
   exact⟨Ak (by simp [*,QA.out,QT.out]),HBW2.o⟩
  have QT:=Za qt;clear qt;go_wp2_with fail
  refine(EQE.out ee' D (.slice e1 ee.length e2) (.slice v1 ee'.length v2) _ (HE.o.old HBW2.o) (HE'.o.old HBW2.o)).mono ?_;rintro r w3 ⟨rfl,hb3⟩;have HBW3:=Za (HBW2.o.trans (hb3.mono (by omega)));clear hb3 l4 m4;go_wp2_with fail
  go_ret
  exact⟨Ak (by simp [*,QA.out,QT.out,St.els]),HBW3.o⟩
 all_goals
  go_ret
  refine⟨Ak ?_,(bA).alloc (by simp) _⟩;simp [*]
theorem St.thn_lt {x y:St}(h:y∈x.thn):SizeOf.sizeOf y<SizeOf.sizeOf x:=by
 cases x with
 |mk k nm us t e=>have:=Zu (show y∈t from h);simp only[St.mk.sizeOf_spec];omega
theorem St.els_lt {x y:St}(h:y∈x.els):SizeOf.sizeOf y<SizeOf.sizeOf x:=by
 cases x with
 |mk k nm us t e=>have:=Zu (show y∈e from h);simp only[St.mk.sizeOf_spec];omega
theorem Jz:∀(n:Nat) (x:St),SizeOf.sizeOf x≤n→Lg x
 |0,x,h=>by cases x;simp at h
 |n+1,x,h=>Sv x (fun y hy=>Jz n y (by have:=St.thn_lt hy;omega)) (fun y hy=>Jz n y (by have:=St.els_lt hy;omega))
theorem eI(la lb:List St)(D:Nat→Prop)(va vb:Value)(w:World)(ha:Al D w la va)(hb:Al D w lb vb):
  Calls Zc 48 #[va,vb,.func (.func 49) #[] #[]] w fun e w'=>e=.returned (.bool (Ey la lb))∧Below w.heap.size w w':=by
 rw[Jb];exact Mk la (fun x _=>Jz _ x (Zm _)) lb D va vb w ha hb
theorem Below.drewN' {n k:Nat}{w w1:World}(h:Below n w w1):Below n w (w1.drewN k):=⟨h.os,h.tape,h.output,h.size,h.block⟩
theorem Sb(la lb:List Bs)(D:Nat→Prop)(va vb:Value)(w:World)(ha:Aq D w la va)(hb:Aq D w lb vb):
  Calls Zc 47 #[va,vb] w fun e w'=>e=.returned (.bool (Fq la lb))∧Below w.heap.size w w':=by
 rw[Rv];obtain⟨a1,a2,rfl⟩:=ha.shape;obtain⟨b1,b2,rfl⟩:=hb.shape;have l63:=ha.fits.lt;have m63:=hb.fits.lt
 by_cases hl:lb.length=la.length
 ·rw[hl]at hb ⊢
  have HA:=Za ha;have HB:=Za hb;have HL:=Za hl;clear ha hb hl m63;go_enter func47,ntmps47
  go_wp2_with fail
  go_loopw [5,13] (fun _ s13 wr=> ∃k:Nat,k≤la.length∧s13=.int .i64 k∧(∀i,i<k→(la.getD i []==lb.getD i [])=true)∧Below w.heap.size w wr) (fun _ s13 _=>la.length-(intOf s13).toNat)
  case atStart=>exact⟨0,Zn _,rfl,fun i hi=>by omega,Ze _ _⟩
  case round=>
   obtain⟨k,hk,rfl,hno,hb⟩:=hrel;have HNO:=Za hno;have HBW:=Za hb;have hsz:=hb.size;clear hno hb
   by_cases hlt:k<la.length
   ·obtain⟨ab,ao,rfl,aD,al,ac⟩:=Jq (Zj HBW.o HA.o) k hlt
    obtain⟨bb,bo,rfl,bD,bl,bc⟩:=Jq (Zj HBW.o HB.o) k (by rw[HL.o];exact hlt);have HKL:=Za hlt;clear aD bD;generalize hxe:la.getD k []=xa at*;generalize hye:lb.getD k []=xb at*;have HXE:=Za hxe;have HYE:=Za hye;clear hxe hye
    cases q:(xa==xb)
    ·have HQ:=Za q
     go_wp2_with fail
     go_quiet (fail)
     go_wp2_with fail
     all_goals
      go_ret
      exact⟨Ak (Fw (fun x y=>x==y) [] la lb k HL.o.symm HKL.o (by rw[HXE.o,HYE.o];exact HQ.o)).symm,Below.drewN' HBW.o⟩
    ·have hq:xa=xb:=by simpa using q
     subst hq;clear q;go_wp2_with fail
     go_quiet (fail)
     go_wp2_with fail
     go_roundw
     case rel=>exact⟨k+1,by omega,by go_num,fun i hi=>by rcases Zt.1 hi with h|rfl;exact HNO.o i h;rw[HXE.o,HYE.o];simp,Below.drewN' HBW.o⟩
     case measure=>simp [intOf];omega
   ·go_wp2_with fail
    go_ret
    exact⟨Ak (Gu (fun x y=>x==y) [] la lb HL.o.symm (fun i hi=>HNO.o i (by omega))).symm,HBW.o⟩
 ·have hne:((la.length:Int) !=(lb.length:Int))=true:=by rw[bne_iff_ne];omega
  have E:Hid (Bo (fun x y=>x==y) la lb=false):=Hq _ _ _ (by omega);clear ha hb hl;go_enter func47,ntmps47
  go_wp2_with fail
  go_ret
  exact⟨Ak E.out.symm,Ze _ _⟩
theorem fT(la lb:List Ar)(D:Nat→Prop)(va vb:Value)(w:World)(ha:Br D w la va)(hb:Br D w lb vb):
  Calls Zc 44 #[va,vb] w fun e w'=>e=.returned (.bool (Fi la lb))∧Below w.heap.size w w':=by
 rw[Pk];obtain⟨a1,a2,rfl⟩:=ha.shape;obtain⟨b1,b2,rfl⟩:=hb.shape;have l63:=ha.fits.lt;have m63:=hb.fits.lt
 by_cases hl:lb.length=la.length
 ·rw[hl]at hb ⊢
  have HA:=Za ha;have HB:=Za hb;have HL:=Za hl;clear ha hb hl m63;go_enter func44,ntmps44
  go_wp2_with fail
  go_loopw [5,13] (fun _ s13 wr=> ∃k:Nat,k≤la.length∧s13=.int .i64 k∧(∀i,i<k→Ic (la.getD i Ar.nil) (lb.getD i Ar.nil)=true)∧Below w.heap.size w wr) (fun _ s13 _=>la.length-(intOf s13).toNat)
  case atStart=>exact⟨0,Zn _,rfl,fun i hi=>by omega,Ze _ _⟩
  case round=>
   obtain⟨k,hk,rfl,hno,hb⟩:=hrel;have HNO:=Za hno;have HBW:=Za hb;have hsz:=hb.size;clear hno hb
   by_cases hlt:k<la.length
   ·obtain⟨ab,ao,rfl,aD,al,a0,a1⟩:=Br.cellAt (Br.old HBW.o HA.o) k hlt
    obtain⟨bb,bo,rfl,bD,bl,b0,b1⟩:=Br.cellAt (Br.old HBW.o HB.o) k (by rw[HL.o];exact hlt);have HKL:=Za hlt;clear aD bD;generalize hxe:Iu la k=xa at*;generalize hye:Iu lb k=xb at*;have HXE:=Za hxe;have HYE:=Za hye;clear hxe hye;obtain⟨n1,s1⟩:=xa;obtain⟨n2,s2⟩:=xb;dsimp only at a0 a1 b0 b1
    cases q:(n1==n2)<;>cases q2:(s1==s2)
    case true.true=>
     have hq:n1=n2:=by simpa using q
     have hq2:s1=s2:=by simpa using q2
     subst hq hq2;clear q q2;go_wp2_with fail
     go_quiet (fail)
     go_wp2_with fail
     go_roundw
     case rel=>exact⟨k+1,by omega,by go_num,fun i hi=>by rcases Zt.1 hi with h|rfl;exact HNO.o i h;(show Ic (Iu la _) (Iu lb _)=true;rw[HXE.o,HYE.o];simp [Ic]),Below.drewN' HBW.o⟩
     case measure=>simp [intOf];omega
    all_goals
     have HQ:Hid (Ic (Iu la k) (Iu lb k)=false):=by show _=_;rw[HXE.o,HYE.o];simp [Ic,q,q2]
     go_wp2_with fail
     go_quiet (fail)
     go_wp2_with fail
     all_goals
      go_ret
      exact⟨Ak (Fw Ic Ar.nil la lb k HL.o.symm HKL.o HQ.o).symm,Below.drewN' HBW.o⟩
   ·go_wp2_with fail
    go_ret
    exact⟨Ak (Gu Ic Ar.nil la lb HL.o.symm (fun i hi=>HNO.o i (by omega))).symm,HBW.o⟩
 ·have hne:((la.length:Int) !=(lb.length:Int))=true:=by rw[bne_iff_ne];omega
  have E:Hid (Bo Ic la lb=false):=Hq _ _ _ (by omega);clear ha hb hl;go_enter func44,ntmps44
  go_wp2_with fail
  go_ret
  exact⟨Ak E.out.symm,Ze _ _⟩
def Wo(x:Fu):Prop:= ∀(y:Fu) (D:Nat→Prop) (a t e a' t' e':Value) (w:World),Aq D w x.params a→Aq D w x.locals t→Al D w x.body e→Aq D w y.params a'→Aq D w y.locals t'→Al D w y.body e'→
 Calls Zc 46 #[fuV x a t e,fuV y a' t' e'] w fun e w'=>e=.returned (.bool (Gp x y))∧Below w.heap.size w w'
theorem Yd(x:Fu):Wo x:=by
 intro y D sa st se sb ut ue w ha ht he hb ht' he';obtain⟨a1,a2,rfl⟩:=ha.shape;obtain⟨t1,t2,rfl⟩:=ht.shape;obtain⟨e1,e2,rfl⟩:=he.shape;obtain⟨b1,b2,rfl⟩:=hb.shape;obtain⟨u1,u2,rfl⟩:=ht'.shape;obtain⟨v1,v2,rfl⟩:=he'.shape;obtain⟨nm,us,tt,ee⟩:=x;obtain⟨nm',vs,tt',ee'⟩:=y;have HA:=Za ha;have HT:=Za ht;have HE:=Za he;have HA':=Za hb;have HT':=Za ht';have HE':=Za he';have E:Hid (Gp ⟨nm,us,tt,ee⟩ ⟨nm',vs,tt',ee'⟩=(nm==nm' && Fq us vs && Fq tt tt' && Ey ee ee')):=by show _=_;unfold Gp;rfl
 clear ha ht he hb ht' he';show Calls _ _ #[.agg #[.string (Aa nm),.slice a1 us.length a2,.slice t1 tt.length t2,.slice e1 ee.length e2],.agg #[.string (Aa nm'),.slice b1 vs.length b2,.slice u1 tt'.length u2,.slice v1 ee'.length v2]] _ _
 rw[E.out];go_enter func46,ntmps46
 go_wp2_with fail
 ·refine(Sb us vs D (.slice a1 us.length a2) (.slice b1 vs.length b2) _ ?h1 ?h2).mono ?_
  case h1=>exact Zj ((bA).alloc (by simp) _) HA.o
  case h2=>exact Zj ((bA).alloc (by simp) _) HA'.o
  rintro r w1 ⟨rfl,hb1⟩;have hz:w.heap.size+1<w1.heap.size:=by have:=hb1.size;simp at this;omega
  have g3:w1.cell? ⟨w.heap.size,2,none⟩=some (.slice t1 tt.length t2):=Ac hb1 (by simp [Zh]);have g4:w1.cell? ⟨w.heap.size,3,none⟩=some (.slice e1 ee.length e2):=Ac hb1 (by simp [Zh]);have k3:w1.cell? ⟨w.heap.size+1,2,none⟩=some (.slice u1 tt'.length u2):=Ac hb1 (by simp [Zh]);have k4:w1.cell? ⟨w.heap.size+1,3,none⟩=some (.slice v1 ee'.length v2):=Ac hb1 (by simp [Zh]);have hbw:Below w.heap.size w w1:=((bA).alloc (by simp) _).trans (hb1.mono (by simp;omega));have HBW1:=Za hbw;clear hb1 hbw
  cases qa:Fq us vs
  ·have QA:=Za qa;clear qa
   go_wp2_with fail
   go_ret
   exact⟨Ak (by simp [*,QA.out]),HBW1.o⟩
  have QA:=Za qa;clear qa;go_wp2_with fail
  refine(Sb tt tt' D (.slice t1 tt.length t2) (.slice u1 tt'.length u2) _ (Zj HBW1.o HT.o) (Zj HBW1.o HT'.o)).mono ?_;rintro r w2 ⟨rfl,hb2⟩;have l4:=Ac hb2 g4;have m4:=Ac hb2 k4;have HBW2:=Za (HBW1.o.trans (hb2.mono (by omega)));have hs2:=hb2.size;clear hb2 g3 g4 k3 k4
  cases qt:Fq tt tt'
  ·have QT:=Za qt;clear qt
   go_wp2_with fail
   go_ret
   exact⟨Ak (by simp [*,QA.out,QT.out]),HBW2.o⟩
  have QT:=Za qt;clear qt;go_wp2_with fail
  refine(eI ee ee' D (.slice e1 ee.length e2) (.slice v1 ee'.length v2) _ (HE.o.old HBW2.o) (HE'.o.old HBW2.o)).mono ?_;rintro r w3 ⟨rfl,hb3⟩;have HBW3:=Za (HBW2.o.trans (hb3.mono (by omega)));clear hb3 l4 m4;go_wp2_with fail
  go_ret
  exact⟨Ak (by simp [*,QA.out,QT.out]),HBW3.o⟩
 all_goals
  go_ret
  refine⟨Ak ?_,(bA).alloc (by simp) _⟩;simp [*]
theorem aJ(la:List Fu)(ih:∀x,x∈la→Wo x)(lb:List Fu)(D:Nat→Prop)(va vb:Value)(w:World)(ha:Bj D w la va)(hb:Bj D w lb vb):
  Calls Zc 45 #[va,vb,.func (.func 46) #[] #[]] w fun e w'=>e=.returned (.bool (Bo Gp la lb))∧Below w.heap.size w w':=by
 obtain⟨a1,a2,rfl⟩:=ha.shape;obtain⟨b1,b2,rfl⟩:=hb.shape;have l63:=ha.fits.lt;have m63:=hb.fits.lt
 by_cases hl:lb.length=la.length
 ·rw[hl]at hb ⊢
  have HA:=Za ha;have HB:=Za hb;have IH:=Za ih;have HL:=Za hl;clear ha hb ih hl m63;go_enter func45,ntmps45
  go_wp2_with fail
  go_loopw [7,8,9,17] (fun _ _ _ s17 wr=> ∃k:Nat,k≤la.length∧s17=.int .i64 k∧(∀i,i<k→Gp (la.getD i Fu.nil) (lb.getD i Fu.nil)=true)∧Below w.heap.size w wr) (fun _ _ _ s17 _=>la.length-(intOf s17).toNat)
  case atStart=>exact⟨0,Zn _,rfl,fun i hi=>by omega,Ze _ _⟩
  case round=>
   obtain⟨k,hk,rfl,hno,hb⟩:=hrel;have HNO:=Za hno;have HBW:=Za hb;have hsz:=hb.size;clear hno hb
   by_cases hlt:k<la.length
   ·obtain⟨xab,xao,a7,a8,a9,rfl,xaD,al,a0,a1,a2,a3,ap,av,ah⟩:=Bj.cellAt (Zi HBW.o HA.o) k hlt
    obtain⟨xbb,xbo,b7,b8,b9,rfl,xbD,bl,b0,b1,b2,b3,bp,bv,bh⟩:=Bj.cellAt (Zi HBW.o HB.o) k (by rw[HL.o];exact hlt);obtain⟨a51,a52,rfl⟩:=ap.shape;obtain⟨b51,b52,rfl⟩:=bp.shape;obtain⟨a61,a62,rfl⟩:=av.shape;obtain⟨b61,b62,rfl⟩:=bv.shape;obtain⟨a71,a72,rfl⟩:=ah.shape;obtain⟨b71,b72,rfl⟩:=bh.shape;have HAH:=Za ap;have HBH:=Za bp;have HAT:=Za av;have HBT:=Za bv;have HAE:=Za ah;have HBE:=Za bh;clear ap bp av bv ah bh xaD xbD;have IHX:=Za (IH.out _ (Mv hlt));have HKL:=Za hlt;generalize hxe:Cm la k=xa at*;generalize hye:Cm lb k=xb at*;have HXE:=Za hxe;have HYE:=Za hye;clear hxe hye;generalize hxa:Gp xa xb=q;have HXA:Hid (Gp (Cm la k) (Cm lb k)=q):=by show _=_;rw[HXE.o,HYE.o];exact hxa
    have HXB:=Za hxa;clear hxa;have hww:Below wr.heap.size wr ((wr.alloc (.cells #[.string (Aa xa.name),.slice a51 xa.params.length a52,.slice a61 xa.locals.length a62,.slice a71 xa.body.length a72] 47)).alloc (.cells #[.string (Aa xb.name),.slice b51 xb.params.length b52,.slice b61 xb.locals.length b62,.slice b71 xb.body.length b72] 47)):=(bA).alloc (by simp) _;have HAH2:=Za (Zj hww HAH.o);have HBH2:=Za (Zj hww HBH.o);have HAT2:=Za (Zj hww HAT.o);have HBT2:=Za (Zj hww HBT.o);have HAE2:=Za (HAE.o.old hww);have HBE2:=Za (HBE.o.old hww);have HWW:=Za (HBW.o.trans (hww.mono hsz));clear hww;go_wp2_with fail
    refine(IHX.out _ D _ _ _ _ _ _ _ HAH2.o HAT2.o HAE2.o HBH2.o HBT2.o HBE2.o).mono ?_;rw[HXB.o]
    cases q
    ·rintro r w2 ⟨rfl,hb2⟩
     have HB2:=Za (HWW.o.trans (hb2.mono (by simp;omega)));clear hb2 a0 a1 a2 a3 b0 b1 b2 b3;go_wp2_with fail
     go_ret
     exact⟨Ak (Fw Gp Fu.nil la lb k HL.o.symm HKL.o HXA.o).symm,HB2.o⟩
    ·rintro r w2 ⟨rfl,hb2⟩
     have HB2:=Za (HWW.o.trans (hb2.mono (by simp;omega)));clear hb2 a0 a1 a2 a3 b0 b1 b2 b3;go_wp2_with fail
     go_roundw
     case rel=>exact⟨k+1,by omega,by go_num,fun i hi=>by rcases Zt.1 hi with h|rfl;exact HNO.o i h;exact HXA.o,HB2.o⟩
     case measure=>simp [intOf];omega
   ·go_wp2_with fail
    go_ret
    exact⟨Ak (Gu Gp Fu.nil la lb HL.o.symm (fun i hi=>HNO.o i (by omega))).symm,HBW.o⟩
 ·have hne:((la.length:Int) !=(lb.length:Int))=true:=by rw[bne_iff_ne];omega
  have E:Hid (Bo Gp la lb=false):=Hq _ _ _ (by omega);clear ha hb ih hl;go_enter func45,ntmps45
  go_wp2_with fail
  go_ret
  exact⟨Ak E.out.symm,Ze _ _⟩
theorem Xh(p q:Pr)(D:Nat→Prop)(sa sf ta tf:Value)(w:World)(ha:Br D w p.arrays sa)(hf:Bj D w p.funcs sf)(ha':Br D w q.arrays ta)(hf':Bj D w q.funcs tf):
  Calls Zc 15 #[.agg #[sa,sf],.agg #[ta,tf]] w fun r w'=>r=.returned (.bool (Kv p q))∧Below w.heap.size w w':=by
 obtain⟨a1,a2,rfl⟩:=ha.shape;obtain⟨f1,f2,rfl⟩:=hf.shape;obtain⟨b1,b2,rfl⟩:=ha'.shape;obtain⟨g1,g2,rfl⟩:=hf'.shape;have HA:=Za ha;have HF:=Za hf;have HA':=Za ha';have HF':=Za hf';have E:Hid (Kv p q=(Fi p.arrays q.arrays && Bo Gp p.funcs q.funcs)):=by show _=_;unfold Kv;rw[Pf]
 clear ha hf ha' hf';rw[E.out];go_enter func15,ntmps15
 go_wp2_with fail
 refine(fT p.arrays q.arrays D (.slice a1 p.arrays.length a2) (.slice b1 q.arrays.length b2) _ ?h1 ?h2).mono ?_
 case h1=>exact Br.old ((bA).alloc (by simp) _) HA.o
 case h2=>exact Br.old ((bA).alloc (by simp) _) HA'.o
 rintro r w1 ⟨rfl,hb1⟩;have hz:w.heap.size+1<w1.heap.size:=by have:=hb1.size;simp at this;omega
 have g3:w1.cell? ⟨w.heap.size,1,none⟩=some (.slice f1 p.funcs.length f2):=Ac hb1 (by simp [Zh]);have k3:w1.cell? ⟨w.heap.size+1,1,none⟩=some (.slice g1 q.funcs.length g2):=Ac hb1 (by simp [Zh]);have hbw:Below w.heap.size w w1:=((bA).alloc (by simp) _).trans (hb1.mono (by simp;omega));have HBW1:=Za hbw;clear hb1 hbw
 cases qa:Fi p.arrays q.arrays
 ·have QA:=Za qa;clear qa
  go_wp2_with fail
  go_ret
  exact⟨Ak (by simp [QA.out]),HBW1.o⟩
 have QA:=Za qa;clear qa;go_wp2_with fail
 refine(aJ p.funcs (fun x _=>Yd x) q.funcs D (.slice f1 p.funcs.length f2) (.slice g1 q.funcs.length g2) _ (Zi HBW1.o HF.o) (Zi HBW1.o HF'.o)).mono ?_;rintro r w2 ⟨rfl,hb2⟩;have HBW2:=Za (HBW1.o.trans (hb2.mono (by omega)));clear hb2 g3 k3;go_wp2_with fail
 go_ret
 exact⟨Ak (by simp [QA.out]),HBW2.o⟩
def Ku(n:Nat):Prop:=n≤1152921504606846976
theorem Ku.out {n:Nat}(h:Ku n):n≤1152921504606846976:=h
def Ql(l:List Ex):Prop:= ∀(D:Nat→Prop) (v:Value) (w:World),Ai D w l v→Ku (Bb l)→
 Calls Zc 80 #[v] w fun e w'=>e=.returned (.int .i64 (Bb l))∧Below w.heap.size w w'
theorem Yx(l:List Ex)(ih:∀x,x∈l→Ql x.args):Ql l:=by
 intro D v w h hs;obtain⟨a,c,rfl⟩:=h.shape;have l63:=h.fits.lt;have H:=Za h;have IH:=Za ih;have HS:=Za hs;clear h ih hs;go_enter func80,ntmps80
 go_wp2_with fail
 go_loopw [2,4,7] (fun s2 _ s7 wr=> ∃k:Nat,k≤l.length∧s7=.int .i64 k∧s2=.int .i64 (Bb (l.take k))∧Below w.heap.size w wr) (fun _ _ s7 _=>l.length-(intOf s7).toNat)
 case atStart=>exact⟨0,Zn _,rfl,rfl,Ze _ _⟩
 case round=>
  obtain⟨k,hk,rfl,rfl,hb⟩:=hrel;have HB:=Za hb;have hsz:=hb.size;clear hb
  by_cases hlt:k<l.length
  ·obtain⟨eb,off,es,rfl,hD,c0,c1,c2,c3,c4,hes,hn⟩:=(H.out.old HB.o).cellAt k hlt
   obtain⟨ea,ec,rfl⟩:=hes.shape;have HES:=Za hes;have IHX:=Za (IH.out _ (Cb hlt));have hnext:Bb (l.take (k+1))=Bb (l.take k)+Lu (Bh l k):=Sm l Ex.nil k hlt;rw[bB]at hnext;have HN:=Za hnext;have hle:=Ol l (k+1);have hsm:=HS.o.out;rw[hnext]at hle;have hebl:eb<wr.heap.size:=Zx _ _ c0;clear hes hn hD hnext;generalize Bb (l.take k)=A at*;generalize Bb l=T at*;generalize Bh l k=e at*;have HSX:Hid (Ku (Bb e.args)):=by show _≤_;omega
   have hA0:(0:Int)≤(A:Int):=by omega
   have hA1:(A:Int)≤1152921504606846976:=by omega
   have hE0:(0:Int)≤(Bb e.args:Int):=by omega
   have hE1:(Bb e.args:Int)≤1152921504606846976:=by omega
   have hww:Below wr.heap.size wr (wr.alloc (.cells #[.int .i64 e.kind,.int .i64 e.op,.int .i64 e.n,.string (Aa e.name),.slice ea e.args.length ec] 31)):=bA;have HW:=Za (HB.o.trans (hww.mono hsz));have HE2:=Za (HES.o.old hww);clear hww hle hsm;go_wp2_with fail
   refine(IHX.out D _ _ HE2.o HSX.o).mono ?_;rintro r w2 ⟨rfl,hb2⟩;have HB2:=Za (HW.o.trans (hb2.mono (by simp;omega)));clear hb2 c0 c1 c2 c3 c4;go_wp2_with fail
   go_roundw
   case rel=>exact⟨k+1,by omega,by go_num,by rw[HN.o];go_num,HB2.o⟩
   case measure=>simp [intOf];omega
  ·have e:l.take k=l:=List.take_of_length_le (by omega)
   rw[e];clear e;go_wp2_with fail
   go_ret
   exact⟨rfl,HB.o⟩
theorem Tm:∀(n:Nat) (l:List Ex),SizeOf.sizeOf l≤n→Ql l
 |0,l,h=>by cases l<;>simp at h
 |n+1,l,h=>Yx l fun x hx=>Tm n x.args (by
   have h1:=Zu hx;have h2:SizeOf.sizeOf x.args<SizeOf.sizeOf x:=by cases x;simp only[Ex.args,Ex.mk.sizeOf_spec];omega
   omega)
theorem dB(l:List Ex):Ql l:=Tm _ l (Zm _)
def Nr(l:List St):Prop:= ∀(D:Nat→Prop) (v:Value) (w:World),Al D w l v→Ku (Ap l)→
 Calls Zc 42 #[v] w fun e w'=>e=.returned (.int .i64 (Ap l))∧Below w.heap.size w w'
theorem eY(l:List St)(iht:∀x,x∈l→Nr x.thn)(ihe:∀x,x∈l→Nr x.els):Nr l:=by
 intro D v w h hs;obtain⟨a,c,rfl⟩:=h.shape;have l63:=h.fits.lt;have H:=Za h;have IHT:=Za iht;have IHE:=Za ihe;have HS:=Za hs;clear h iht ihe hs;go_enter func42,ntmps42
 go_wp2_with fail
 go_loopw [2,4,7] (fun s2 _ s7 wr=> ∃k:Nat,k≤l.length∧s7=.int .i64 k∧s2=.int .i64 (Ap (l.take k))∧Below w.heap.size w wr) (fun _ _ s7 _=>l.length-(intOf s7).toNat)
 case atStart=>exact⟨0,Zn _,rfl,rfl,Ze _ _⟩
 case round=>
  obtain⟨k,hk,rfl,rfl,hb⟩:=hrel;have HB:=Za hb;have hsz:=hb.size;clear hb
  by_cases hlt:k<l.length
  ·obtain⟨eb,off,es,et,ee,rfl,hD,hebl,c0,c1,c2,c3,c4,hes,het,hee⟩:=(H.out.old HB.o).cellAt k hlt
   obtain⟨a1,a2,rfl⟩:=hes.shape;obtain⟨t1,t2,rfl⟩:=het.shape;obtain⟨u1,u2,rfl⟩:=hee.shape;have IHTX:=Za (IHT.out _ (Iv hlt));have IHEX:=Za (IHE.out _ (Iv hlt));have hnext:Ap (l.take (k+1))=Ap (l.take k)+Lx (Ff l k):=Tb l St.nil k hlt;rw[Yt]at hnext;have HN:=Za hnext;have hle:=Oe l (k+1);have hsm:=HS.o.out;rw[hnext]at hle;have HES:=Za hes;have HET:=Za het;have HEE:=Za hee;clear hes het hee hD hnext;generalize Ap (l.take k)=A at*;generalize Ap l=T at*;generalize Ff l k=x at*;have HSX:Hid (Ku (Bb x.args)):=by show _≤_;omega
   have HST:Hid (Ku (Ap x.thn)):=by show _≤_;omega
   have HSE:Hid (Ku (Ap x.els)):=by show _≤_;omega
   have hA0:(0:Int)≤(A:Int):=by omega
   have hA1:(A:Int)≤1152921504606846976:=by omega
   have hE0:(0:Int)≤(Bb x.args:Int):=by omega
   have hE1:(Bb x.args:Int)≤1152921504606846976:=by omega
   have hF0:(0:Int)≤(Ap x.thn:Int):=by omega
   have hF1:(Ap x.thn:Int)≤1152921504606846976:=by omega
   have hG0:(0:Int)≤(Ap x.els:Int):=by omega
   have hG1:(Ap x.els:Int)≤1152921504606846976:=by omega
   have hww:Below wr.heap.size wr (wr.alloc (.cells #[.int .i64 x.kind,.string (Aa x.name),.slice a1 x.args.length a2,.slice t1 x.thn.length t2,.slice u1 x.els.length u2] 56)):=bA;have g2:(wr.alloc (.cells #[.int .i64 x.kind,.string (Aa x.name),.slice a1 x.args.length a2,.slice t1 x.thn.length t2,.slice u1 x.els.length u2] 56)).cell? ⟨wr.heap.size,2,none⟩=some (.slice a1 x.args.length a2):=by simp
   have g3:(wr.alloc (.cells #[.int .i64 x.kind,.string (Aa x.name),.slice a1 x.args.length a2,.slice t1 x.thn.length t2,.slice u1 x.els.length u2] 56)).cell? ⟨wr.heap.size,3,none⟩=some (.slice t1 x.thn.length t2):=by simp
   have g4:(wr.alloc (.cells #[.int .i64 x.kind,.string (Aa x.name),.slice a1 x.args.length a2,.slice t1 x.thn.length t2,.slice u1 x.els.length u2] 56)).cell? ⟨wr.heap.size,4,none⟩=some (.slice u1 x.els.length u2):=by simp
   have HW:=Za hww;have HE2:=Za (HES.o.old hww);have HETF:Hid (∀w',Below wr.heap.size wr w'→Al D w' x.thn (.slice t1 x.thn.length t2)):=fun w' h=>HET.o.old h
   have HEEF:Hid (∀w',Below wr.heap.size wr w'→Al D w' x.els (.slice u1 x.els.length u2)):=fun w' h=>HEE.o.old h
   have CT:Hid (∀w',Below wr.heap.size wr w'→Calls Zc 42 #[.slice t1 x.thn.length t2] w' fun e w''=>e=.returned (.int .i64 (Ap x.thn))∧Below w'.heap.size w' w''):=fun w' h=>IHTX.out D _ _ (HETF.o w' h) HST.o
   have CE:Hid (∀w',Below wr.heap.size wr w'→Calls Zc 42 #[.slice u1 x.els.length u2] w' fun e w''=>e=.returned (.int .i64 (Ap x.els))∧Below w'.heap.size w' w''):=fun w' h=>IHEX.out D _ _ (HEEF.o w' h) HSE.o
   clear HET HEE HETF HEEF IHTX IHEX;have hXl:wr.heap.size<(wr.alloc (.cells #[.int .i64 x.kind,.string (Aa x.name),.slice a1 x.args.length a2,.slice t1 x.thn.length t2,.slice u1 x.els.length u2] 56)).heap.size:=by simp
   have S1:IntKind.i64.wrap (1+(Bb x.args:Int))=1+(Bb x.args:Int):=IntWalk.i64_in _ (by omega);have S2:IntKind.i64.wrap (1+(Bb x.args:Int)+(Ap x.thn:Int))=1+(Bb x.args:Int)+(Ap x.thn:Int):=IntWalk.i64_in _ (by omega);have S3:IntKind.i64.wrap (1+(Bb x.args:Int)+(Ap x.thn:Int)+(Ap x.els:Int))=1+(Bb x.args:Int)+(Ap x.thn:Int)+(Ap x.els:Int):=IntWalk.i64_in _ (by omega);have S4:IntKind.i64.wrap ((A:Int)+(1+(Bb x.args:Int)+(Ap x.thn:Int)+(Ap x.els:Int)))=(A:Int)+(1+(Bb x.args:Int)+(Ap x.thn:Int)+(Ap x.els:Int)):=IntWalk.i64_in _ (by omega);clear hww hle hsm;go_wp2_with fail
   generalize wr.alloc (.cells #[.int .i64 x.kind,.string (Aa x.name),.slice a1 x.args.length a2,.slice t1 x.thn.length t2,.slice u1 x.els.length u2] 56)=W' at*;clear c0 c1 c2 c3 c4 hebl;generalize wr.heap.size=X at*;have hdr:Below W'.heap.size W' W'.drew:=(Ze _ _).drew;have HE3:=Za (HE2.o.old hdr);have HWd:=Za (HW.o.trans (hdr.mono (Nat.le_of_lt hXl)));clear hdr HE2
   go_region_held3 (fun w'=>w'.cell? ⟨X,2,none⟩=some (.slice a1 x.args.length a2)∧w'.cell? ⟨X,3,none⟩=some (.slice t1 x.thn.length t2)∧w'.cell? ⟨X,4,none⟩=some (.slice u1 x.els.length u2)) (first|(simp [*,Zh];done)|go_keep) (first
    |(go_at_call 80;refine(dB x.args D _ _ HE3.o HSX.o).mono ?_;rintro r w2 ⟨he,hb2⟩;subst he;have h2l:X<w2.heap.size:=(Zv hXl hb2.size);have p2:w2.cell? ⟨X,2,none⟩=some (.slice a1 x.args.length a2):=Ac hb2 g2;have p3:w2.cell? ⟨X,3,none⟩=some (.slice t1 x.thn.length t2):=Ac hb2 g3;have p4:w2.cell? ⟨X,4,none⟩=some (.slice u1 x.els.length u2):=Ac hb2 g4;have HB2:=Za (HWd.o.trans (hb2.mono (Nat.le_of_lt hXl)));clear hb2)
    |(go_at_call 42;(with_reducible refine(CT.out _ HB2.o).mono ?_);rintro r w3 ⟨he,hb3⟩;subst he;have p2':w3.cell? ⟨X,2,none⟩=some (.slice a1 x.args.length a2):=Ac hb3 p2;have p3':w3.cell? ⟨X,3,none⟩=some (.slice t1 x.thn.length t2):=Ac hb3 p3;have p4':w3.cell? ⟨X,4,none⟩=some (.slice u1 x.els.length u2):=Ac hb3 p4;have h3l:X<w3.heap.size:=(Zv h2l hb3.size);have HB3:=Za (HB2.o.trans (hb3.mono (Nat.le_of_lt h2l)));clear hb3)
    |(go_at_call 42;(with_reducible refine(CE.out _ HB3.o).mono ?_);rintro r w4 ⟨he,hb4⟩;subst he;have p2'':w4.cell? ⟨X,2,none⟩=some (.slice a1 x.args.length a2):=Ac hb4 p2';have p3'':w4.cell? ⟨X,3,none⟩=some (.slice t1 x.thn.length t2):=Ac hb4 p3';have p4'':w4.cell? ⟨X,4,none⟩=some (.slice u1 x.els.length u2):=Ac hb4 p4';have HB4:=Za (HB3.o.trans (hb4.mono (Nat.le_of_lt h3l)));clear hb4))
   go_wp2_with fail
   go_roundw
   case rel=>exact⟨k+1,by omega,by go_num,by rw[HN.o];go_num,HB.o.trans (HB4.o.mono hsz)⟩
   case measure=>simp [intOf];omega
  ·have e:l.take k=l:=List.take_of_length_le (by omega)
   rw[e];clear e;go_wp2_with fail
   go_ret
   exact⟨rfl,HB.o⟩
theorem Rw:∀(n:Nat) (l:List St),SizeOf.sizeOf l≤n→Nr l
 |0,l,h=>by cases l<;>simp at h
 |n+1,l,h=>eY l
  (fun x hx=>Rw n x.thn (by
   have h1:=Zu hx;have h2:SizeOf.sizeOf x.thn<SizeOf.sizeOf x:=by cases x;simp only[St.thn,St.mk.sizeOf_spec];omega
   omega))
  (fun x hx=>Rw n x.els (by
   have h1:=Zu hx;have h2:SizeOf.sizeOf x.els<SizeOf.sizeOf x:=by cases x;simp only[St.els,St.mk.sizeOf_spec];omega
   omega))
theorem jY(l:List St):Nr l:=Rw _ l (Zm _)
theorem Xu(p:Pr)(D:Nat→Prop)(sa sf:Value)(w:World)(ha:Br D w p.arrays sa)(hf:Bj D w p.funcs sf)(hs:Ku (Mp p)):
  Calls Zc 13 #[.agg #[sa,sf]] w fun r w'=>r=.returned (.int .i64 (Mp p))∧Below w.heap.size w w':=by
 obtain⟨a1,a2,rfl⟩:=ha.shape;obtain⟨f1,f2,rfl⟩:=hf.shape;have lf:=hf.fits.lt;have HF:=Za hf;have HS:=Za hs;have HB0:Hid (Below w.heap.size w (w.alloc (.cells #[.slice a1 p.arrays.length a2,.slice f1 p.funcs.length f2] 27))):=bA;clear ha hf hs;unfold Mp at*;go_enter func13,ntmps13
 go_wp2_with fail
 go_loopw [2,4,8] (fun s2 _ s8 wr=> ∃k:Nat,k≤p.funcs.length∧s8=.int .i64 k∧s2=.int .i64 (Cn (p.funcs.take k))∧Below w.heap.size w wr) (fun _ _ s8 _=>p.funcs.length-(intOf s8).toNat)
 case atStart=>exact⟨0,Zn _,rfl,rfl,HB0.o⟩
 case round=>
  obtain⟨k,hk,rfl,rfl,hb⟩:=hrel;have HB:=Za hb;have hsz:=hb.size;clear hb
  by_cases hlt:k<p.funcs.length
  ·obtain⟨eb,off,es,et,ee,rfl,hD,hebl,c0,c1,c2,c3,hes,het,hee⟩:=Bj.cellAt (Zi HB.o HF.o) k hlt
   obtain⟨p1,p2,rfl⟩:=hes.shape;obtain⟨v1,v2,rfl⟩:=het.shape;obtain⟨s1,s2,rfl⟩:=hee.shape;have HES:=Za hee;have hnext:Cn (p.funcs.take (k+1))=Cn (p.funcs.take k)+Ap (Cm p.funcs k).body:=Ss p.funcs Fu.nil k hlt;have HN:=Za hnext;have hle:=Ov p.funcs (k+1);have hsm:=HS.o.out;rw[hnext]at hle;clear hes het hee hD hnext;generalize Cn (p.funcs.take k)=A at*;generalize Cn p.funcs=T at*;generalize Cm p.funcs k=x at*;have HSX:Hid (Ku (Ap x.body)):=by show _≤_;omega
   have hA0:(0:Int)≤(A:Int):=by omega
   have hA1:(A:Int)≤1152921504606846976:=by omega
   have hE0:(0:Int)≤(Ap x.body:Int):=by omega
   have hE1:(Ap x.body:Int)≤1152921504606846976:=by omega
   have hww:Below wr.heap.size wr (wr.alloc (.cells #[.string (Aa x.name),.slice p1 x.params.length p2,.slice v1 x.locals.length v2,.slice s1 x.body.length s2] 47)):=bA;have HW:=Za (HB.o.trans (hww.mono hsz));have HE2:=Za (HES.o.old hww);clear hww hle hsm;go_wp2_with fail
   refine(jY x.body D _ _ HE2.o HSX.o).mono ?_;rintro r w2 ⟨rfl,hb2⟩;have HB2:=Za (HW.o.trans (hb2.mono (by simp;omega)));clear hb2 c0 c1 c2 c3;go_wp2_with fail
   go_roundw
   case rel=>exact⟨k+1,by omega,by go_num,by rw[HN.o];go_num,HB2.o⟩
   case measure=>simp [intOf];omega
  ·have e:p.funcs.take k=p.funcs:=List.take_of_length_le (by omega)
   rw[e];clear e;go_wp2_with fail
   go_ret
   exact⟨rfl,HB.o⟩
def exE:Ex:=.mk 4 3 0 [] [.mk 4 1 0 [] [.mk 1 0 1 [] [],.mk 2 0 0 [120] []],.mk 3 17 0 [] [.mk 1 0 2 [] []]]
def exP:Pr:=⟨[],[⟨[109,97,105,110],[],[],[.mk 8 [] [exE] [] []]⟩]⟩
theorem Ri:Ae exE=[40,49,32,43,32,120,41,32,42,32,45,50]:=by
 simp [exE,Ae,Nn,Dq,Cz,Bh,Ex.kind,Ex.op,Bi,Cj,Lib.itoa,Lib.decDigits]
theorem Sk:Bz exP=[105,110,116,32,109,97,105,110,40,41,32,123,10,9,112,114,105,110,116,40,40,49,32,43,32,120,41,32,42,32,45,50,41,59,10,125,10]:=by
 simp [Bz,exP,Cq,Df,Fg,Ax,De,Bf,Bt,Bu,ln,Hh,Ri]
theorem Ul:Ce exE=true:=by
 simp [Ce,exE,Gf,Bm,Lo,Bn,Ec,Fo,Hv,Db,Bv,Ex.kind,Ex.op,Ex.n,Ex.name,Ex.args,Bi,Ah,Ge,Nw,Dj,Bg]
theorem bQ:Dp exP=true:=by
 simp [Dp,exP,Dd,Cu,Gd,Ki,St.kind,St.args,St.thn,St.els,St.name,fOk,Cv,Cp,Fz,Fy,Ul,Ah,Ge,Nw,Dj,Bg]
theorem bV:Mp exP=7:=by
 simp [Mp,exP,Cn,Ap,Lx,Bb,Lu,exE]
theorem same_P0:Kv exP ⟨[],[]⟩=false:=by
 cases h:Kv exP ⟨[],[]⟩
 ·rfl
 ·rw[Se]at h;simp [exP]at h
theorem same_PP:Kv exP exP=true:=(Se _ _).2 rfl
theorem eJ:Ce (.mk 0 0 0 [] [])=false:=by
 simp [Ce,Gf,Bm,Lo,Bn,Ec,Ex.kind]
theorem awake_E(w:World)(X:Nat)(hX:X=w.heap.size):Ai (· <X+1+1+1+1+1) (((((w.alloc (.cells #[.int .i64 1,.int .i64 0,.int .i64 1,.string ⟨#[]⟩,.slice none 0 0,.int .i64 2,.int .i64 0,.int .i64 0,.string ⟨#[120]⟩,.slice none 0 0] 31)).alloc (.cells #[.int .i64 4,.int .i64 1,.int .i64 0,.string ⟨#[]⟩,.slice (some ⟨X,0,none⟩) 2 2] 31)).alloc (.cells #[.int .i64 1,.int .i64 0,.int .i64 2,.string ⟨#[]⟩,.slice none 0 0] 31)).alloc (.cells #[.int .i64 4,.int .i64 1,.int .i64 0,.string ⟨#[]⟩,.slice (some ⟨X,0,none⟩) 2 2,.int .i64 3,.int .i64 17,.int .i64 0,.string ⟨#[]⟩,.slice (some ⟨X+1+1,0,none⟩) 1 1] 31)).alloc (.cells #[.int .i64 4,.int .i64 3,.int .i64 0,.string ⟨#[]⟩,.slice (some ⟨X+1+1+1,0,none⟩) 2 2] 31)) exE.args (.slice (some ⟨X+1+1+1,0,none⟩) 2 2)∧
  (((((w.alloc (.cells #[.int .i64 1,.int .i64 0,.int .i64 1,.string ⟨#[]⟩,.slice none 0 0,.int .i64 2,.int .i64 0,.int .i64 0,.string ⟨#[120]⟩,.slice none 0 0] 31)).alloc (.cells #[.int .i64 4,.int .i64 1,.int .i64 0,.string ⟨#[]⟩,.slice (some ⟨X,0,none⟩) 2 2] 31)).alloc (.cells #[.int .i64 1,.int .i64 0,.int .i64 2,.string ⟨#[]⟩,.slice none 0 0] 31)).alloc (.cells #[.int .i64 4,.int .i64 1,.int .i64 0,.string ⟨#[]⟩,.slice (some ⟨X,0,none⟩) 2 2,.int .i64 3,.int .i64 17,.int .i64 0,.string ⟨#[]⟩,.slice (some ⟨X+1+1,0,none⟩) 1 1] 31)).alloc (.cells #[.int .i64 4,.int .i64 3,.int .i64 0,.string ⟨#[]⟩,.slice (some ⟨X+1+1+1,0,none⟩) 2 2] 31)).heap.size=X+1+1+1+1+1∧Ca (((((w.alloc (.cells #[.int .i64 1,.int .i64 0,.int .i64 1,.string ⟨#[]⟩,.slice none 0 0,.int .i64 2,.int .i64 0,.int .i64 0,.string ⟨#[120]⟩,.slice none 0 0] 31)).alloc (.cells #[.int .i64 4,.int .i64 1,.int .i64 0,.string ⟨#[]⟩,.slice (some ⟨X,0,none⟩) 2 2] 31)).alloc (.cells #[.int .i64 1,.int .i64 0,.int .i64 2,.string ⟨#[]⟩,.slice none 0 0] 31)).alloc (.cells #[.int .i64 4,.int .i64 1,.int .i64 0,.string ⟨#[]⟩,.slice (some ⟨X,0,none⟩) 2 2,.int .i64 3,.int .i64 17,.int .i64 0,.string ⟨#[]⟩,.slice (some ⟨X+1+1,0,none⟩) 1 1] 31)).alloc (.cells #[.int .i64 4,.int .i64 3,.int .i64 0,.string ⟨#[]⟩,.slice (some ⟨X+1+1+1,0,none⟩) 2 2] 31)) (X+1+1+1+1) 0 (Au exE (.slice (some ⟨X+1+1+1,0,none⟩) 2 2))∧Below X w (((((w.alloc (.cells #[.int .i64 1,.int .i64 0,.int .i64 1,.string ⟨#[]⟩,.slice none 0 0,.int .i64 2,.int .i64 0,.int .i64 0,.string ⟨#[120]⟩,.slice none 0 0] 31)).alloc (.cells #[.int .i64 4,.int .i64 1,.int .i64 0,.string ⟨#[]⟩,.slice (some ⟨X,0,none⟩) 2 2] 31)).alloc (.cells #[.int .i64 1,.int .i64 0,.int .i64 2,.string ⟨#[]⟩,.slice none 0 0] 31)).alloc (.cells #[.int .i64 4,.int .i64 1,.int .i64 0,.string ⟨#[]⟩,.slice (some ⟨X,0,none⟩) 2 2,.int .i64 3,.int .i64 17,.int .i64 0,.string ⟨#[]⟩,.slice (some ⟨X+1+1,0,none⟩) 1 1] 31)).alloc (.cells #[.int .i64 4,.int .i64 3,.int .i64 0,.string ⟨#[]⟩,.slice (some ⟨X+1+1+1,0,none⟩) 2 2] 31)):=by
 have r0:Ca (w.alloc (.cells #[.int .i64 1,.int .i64 0,.int .i64 1,.string ⟨#[]⟩,.slice none 0 0,.int .i64 2,.int .i64 0,.int .i64 0,.string ⟨#[120]⟩,.slice none 0 0] 31)) X 0 (Au (.mk 1 0 1 [] []) (.slice none 0 0)++Au (.mk 2 0 0 [120] []) (.slice none 0 0)):=by rw[hX];exact Zo w _ _
 have s1:(w.alloc (.cells #[.int .i64 1,.int .i64 0,.int .i64 1,.string ⟨#[]⟩,.slice none 0 0,.int .i64 2,.int .i64 0,.int .i64 0,.string ⟨#[120]⟩,.slice none 0 0] 31)).heap.size=X+1:=by simp [hX]
 have b1:Below X w (w.alloc (.cells #[.int .i64 1,.int .i64 0,.int .i64 1,.string ⟨#[]⟩,.slice none 0 0,.int .i64 2,.int .i64 0,.int .i64 0,.string ⟨#[120]⟩,.slice none 0 0] 31)):=(Ze _ _).alloc (by omega) _;generalize (w.alloc (.cells #[.int .i64 1,.int .i64 0,.int .i64 1,.string ⟨#[]⟩,.slice none 0 0,.int .i64 2,.int .i64 0,.int .i64 0,.string ⟨#[120]⟩,.slice none 0 0] 31))=W1 at*;have r0:=r0.alloc (.cells #[.int .i64 4,.int .i64 1,.int .i64 0,.string ⟨#[]⟩,.slice (some ⟨X,0,none⟩) 2 2] 31);have b1:=b1.alloc (o:=(.cells #[.int .i64 4,.int .i64 1,.int .i64 0,.string ⟨#[]⟩,.slice (some ⟨X,0,none⟩) 2 2] 31)) (by omega);have s2:(W1.alloc (.cells #[.int .i64 4,.int .i64 1,.int .i64 0,.string ⟨#[]⟩,.slice (some ⟨X,0,none⟩) 2 2] 31)).heap.size=X+1+1:=by simp [s1]
 generalize (W1.alloc (.cells #[.int .i64 4,.int .i64 1,.int .i64 0,.string ⟨#[]⟩,.slice (some ⟨X,0,none⟩) 2 2] 31))=W2 at*;have r0:=r0.alloc (.cells #[.int .i64 1,.int .i64 0,.int .i64 2,.string ⟨#[]⟩,.slice none 0 0] 31);have r2:=Zo W2 (Au (.mk 1 0 2 [] []) (.slice none 0 0)) 31;rw[s2]at r2;have r2:Ca (W2.alloc (.cells #[.int .i64 1,.int .i64 0,.int .i64 2,.string ⟨#[]⟩,.slice none 0 0] 31)) (X+1+1) 0 (Au (.mk 1 0 2 [] []) (.slice none 0 0)):=r2;have b1:=b1.alloc (o:=(.cells #[.int .i64 1,.int .i64 0,.int .i64 2,.string ⟨#[]⟩,.slice none 0 0] 31)) (by omega);have s3:(W2.alloc (.cells #[.int .i64 1,.int .i64 0,.int .i64 2,.string ⟨#[]⟩,.slice none 0 0] 31)).heap.size=X+1+1+1:=by simp [s2]
 generalize (W2.alloc (.cells #[.int .i64 1,.int .i64 0,.int .i64 2,.string ⟨#[]⟩,.slice none 0 0] 31))=W3 at*;have r0:=r0.alloc (.cells #[.int .i64 4,.int .i64 1,.int .i64 0,.string ⟨#[]⟩,.slice (some ⟨X,0,none⟩) 2 2,.int .i64 3,.int .i64 17,.int .i64 0,.string ⟨#[]⟩,.slice (some ⟨X+1+1,0,none⟩) 1 1] 31);have r2:=r2.alloc (.cells #[.int .i64 4,.int .i64 1,.int .i64 0,.string ⟨#[]⟩,.slice (some ⟨X,0,none⟩) 2 2,.int .i64 3,.int .i64 17,.int .i64 0,.string ⟨#[]⟩,.slice (some ⟨X+1+1,0,none⟩) 1 1] 31);have r3:=Zo W3 (Au (.mk 4 1 0 [] [.mk 1 0 1 [] [],.mk 2 0 0 [120] []]) (.slice (some ⟨X,0,none⟩) 2 2)++Au (.mk 3 17 0 [] [.mk 1 0 2 [] []]) (.slice (some ⟨X+1+1,0,none⟩) 1 1)) 31;rw[s3]at r3;have r3:Ca (W3.alloc (.cells #[.int .i64 4,.int .i64 1,.int .i64 0,.string ⟨#[]⟩,.slice (some ⟨X,0,none⟩) 2 2,.int .i64 3,.int .i64 17,.int .i64 0,.string ⟨#[]⟩,.slice (some ⟨X+1+1,0,none⟩) 1 1] 31)) (X+1+1+1) 0 (Au (.mk 4 1 0 [] [.mk 1 0 1 [] [],.mk 2 0 0 [120] []]) (.slice (some ⟨X,0,none⟩) 2 2)++Au (.mk 3 17 0 [] [.mk 1 0 2 [] []]) (.slice (some ⟨X+1+1,0,none⟩) 1 1)):=r3;have b1:=b1.alloc (o:=(.cells #[.int .i64 4,.int .i64 1,.int .i64 0,.string ⟨#[]⟩,.slice (some ⟨X,0,none⟩) 2 2,.int .i64 3,.int .i64 17,.int .i64 0,.string ⟨#[]⟩,.slice (some ⟨X+1+1,0,none⟩) 1 1] 31)) (by omega);have s4:(W3.alloc (.cells #[.int .i64 4,.int .i64 1,.int .i64 0,.string ⟨#[]⟩,.slice (some ⟨X,0,none⟩) 2 2,.int .i64 3,.int .i64 17,.int .i64 0,.string ⟨#[]⟩,.slice (some ⟨X+1+1,0,none⟩) 1 1] 31)).heap.size=X+1+1+1+1:=by simp [s3]
 generalize (W3.alloc (.cells #[.int .i64 4,.int .i64 1,.int .i64 0,.string ⟨#[]⟩,.slice (some ⟨X,0,none⟩) 2 2,.int .i64 3,.int .i64 17,.int .i64 0,.string ⟨#[]⟩,.slice (some ⟨X+1+1,0,none⟩) 1 1] 31))=W4 at*;have r0:=r0.alloc (.cells #[.int .i64 4,.int .i64 3,.int .i64 0,.string ⟨#[]⟩,.slice (some ⟨X+1+1+1,0,none⟩) 2 2] 31);have r2:=r2.alloc (.cells #[.int .i64 4,.int .i64 3,.int .i64 0,.string ⟨#[]⟩,.slice (some ⟨X+1+1+1,0,none⟩) 2 2] 31);have r3:=r3.alloc (.cells #[.int .i64 4,.int .i64 3,.int .i64 0,.string ⟨#[]⟩,.slice (some ⟨X+1+1+1,0,none⟩) 2 2] 31);have r4:=Zo W4 (Au exE (.slice (some ⟨X+1+1+1,0,none⟩) 2 2)) 31;rw[s4]at r4;have r4:Ca (W4.alloc (.cells #[.int .i64 4,.int .i64 3,.int .i64 0,.string ⟨#[]⟩,.slice (some ⟨X+1+1+1,0,none⟩) 2 2] 31)) (X+1+1+1+1) 0 (Au exE (.slice (some ⟨X+1+1+1,0,none⟩) 2 2)):=r4;have b1:=b1.alloc (o:=(.cells #[.int .i64 4,.int .i64 3,.int .i64 0,.string ⟨#[]⟩,.slice (some ⟨X+1+1+1,0,none⟩) 2 2] 31)) (by omega);have s5:(W4.alloc (.cells #[.int .i64 4,.int .i64 3,.int .i64 0,.string ⟨#[]⟩,.slice (some ⟨X+1+1+1,0,none⟩) 2 2] 31)).heap.size=X+1+1+1+1+1:=by simp [s4]
 generalize (W4.alloc (.cells #[.int .i64 4,.int .i64 3,.int .i64 0,.string ⟨#[]⟩,.slice (some ⟨X+1+1+1,0,none⟩) 2 2] 31))=W5 at*;refine⟨?_,s5,r4,b1⟩;have e0:Ai (· <X+1+1+1+1+1) W5 [.mk 1 0 1 [] [],.mk 2 0 0 [120] []] (.slice (some ⟨X,0,none⟩) 2 2):=.two _ _ _ _ (by omega) r0 .zero (Cx ⟨by decide,by decide⟩) .zero (Cx ⟨by decide,by decide⟩);have e2:Ai (· <X+1+1+1+1+1) W5 [.mk 1 0 2 [] []] (.slice (some ⟨X+1+1,0,none⟩) 1 1):=.one _ _ (by omega) r2 .zero (Cx ⟨by decide,by decide⟩);exact .two _ _ _ _ (by omega) r3 e0 (Cx ⟨by decide,by decide⟩) e2 (Cx ⟨by decide,by decide⟩)
theorem awake_P(w:World)(Y:Nat)(hY:Y=w.heap.size)(s:Value)(he:Ai (· <Y) w exE.args s):Bj (· <Y+1+1+1+1) ((((w.alloc (.cells #[.int .i64 4,.int .i64 3,.int .i64 0,.string ⟨#[]⟩,s] 31)).alloc (.cells #[.int .i64 8,.string ⟨#[]⟩,.slice (some ⟨Y,0,none⟩) 1 1,.slice none 0 0,.slice none 0 0] 56)).alloc (.cells #[.string ⟨#[109,97,105,110]⟩,.slice none 0 0,.slice none 0 0,.slice (some ⟨Y+1,0,none⟩) 1 1] 47)).alloc (.cells #[.slice none 0 0,.slice (some ⟨Y+1+1,0,none⟩) 1 1] 27)) exP.funcs (.slice (some ⟨Y+1+1,0,none⟩) 1 1)∧
  ((((w.alloc (.cells #[.int .i64 4,.int .i64 3,.int .i64 0,.string ⟨#[]⟩,s] 31)).alloc (.cells #[.int .i64 8,.string ⟨#[]⟩,.slice (some ⟨Y,0,none⟩) 1 1,.slice none 0 0,.slice none 0 0] 56)).alloc (.cells #[.string ⟨#[109,97,105,110]⟩,.slice none 0 0,.slice none 0 0,.slice (some ⟨Y+1,0,none⟩) 1 1] 47)).alloc (.cells #[.slice none 0 0,.slice (some ⟨Y+1+1,0,none⟩) 1 1] 27)).heap.size=Y+1+1+1+1∧Ca ((((w.alloc (.cells #[.int .i64 4,.int .i64 3,.int .i64 0,.string ⟨#[]⟩,s] 31)).alloc (.cells #[.int .i64 8,.string ⟨#[]⟩,.slice (some ⟨Y,0,none⟩) 1 1,.slice none 0 0,.slice none 0 0] 56)).alloc (.cells #[.string ⟨#[109,97,105,110]⟩,.slice none 0 0,.slice none 0 0,.slice (some ⟨Y+1,0,none⟩) 1 1] 47)).alloc (.cells #[.slice none 0 0,.slice (some ⟨Y+1+1,0,none⟩) 1 1] 27)) (Y+1+1+1) 0 [.slice none 0 0,.slice (some ⟨Y+1+1,0,none⟩) 1 1]∧Below Y w ((((w.alloc (.cells #[.int .i64 4,.int .i64 3,.int .i64 0,.string ⟨#[]⟩,s] 31)).alloc (.cells #[.int .i64 8,.string ⟨#[]⟩,.slice (some ⟨Y,0,none⟩) 1 1,.slice none 0 0,.slice none 0 0] 56)).alloc (.cells #[.string ⟨#[109,97,105,110]⟩,.slice none 0 0,.slice none 0 0,.slice (some ⟨Y+1,0,none⟩) 1 1] 47)).alloc (.cells #[.slice none 0 0,.slice (some ⟨Y+1+1,0,none⟩) 1 1] 27)):=by
 have r0:Ca (w.alloc (.cells #[.int .i64 4,.int .i64 3,.int .i64 0,.string ⟨#[]⟩,s] 31)) Y 0 (Au exE s):=by rw[hY];exact Zo w _ _
 have s1:(w.alloc (.cells #[.int .i64 4,.int .i64 3,.int .i64 0,.string ⟨#[]⟩,s] 31)).heap.size=Y+1:=by simp [hY]
 have b1:Below Y w (w.alloc (.cells #[.int .i64 4,.int .i64 3,.int .i64 0,.string ⟨#[]⟩,s] 31)):=(Ze _ _).alloc (by omega) _;generalize (w.alloc (.cells #[.int .i64 4,.int .i64 3,.int .i64 0,.string ⟨#[]⟩,s] 31))=W1 at*;have r0:=r0.alloc (.cells #[.int .i64 8,.string ⟨#[]⟩,.slice (some ⟨Y,0,none⟩) 1 1,.slice none 0 0,.slice none 0 0] 56);have b1:=b1.alloc (o:=(.cells #[.int .i64 8,.string ⟨#[]⟩,.slice (some ⟨Y,0,none⟩) 1 1,.slice none 0 0,.slice none 0 0] 56)) (by omega);have r1:=Zo W1 (En (.mk 8 [] [exE] [] []) (.slice (some ⟨Y,0,none⟩) 1 1) (.slice none 0 0) (.slice none 0 0)) 56;rw[s1]at r1;have r1:Ca (W1.alloc (.cells #[.int .i64 8,.string ⟨#[]⟩,.slice (some ⟨Y,0,none⟩) 1 1,.slice none 0 0,.slice none 0 0] 56)) (Y+1) 0 (En (.mk 8 [] [exE] [] []) (.slice (some ⟨Y,0,none⟩) 1 1) (.slice none 0 0) (.slice none 0 0)):=r1;have s2:(W1.alloc (.cells #[.int .i64 8,.string ⟨#[]⟩,.slice (some ⟨Y,0,none⟩) 1 1,.slice none 0 0,.slice none 0 0] 56)).heap.size=Y+1+1:=by simp [s1]
 generalize (W1.alloc (.cells #[.int .i64 8,.string ⟨#[]⟩,.slice (some ⟨Y,0,none⟩) 1 1,.slice none 0 0,.slice none 0 0] 56))=W2 at*;have r0:=r0.alloc (.cells #[.string ⟨#[109,97,105,110]⟩,.slice none 0 0,.slice none 0 0,.slice (some ⟨Y+1,0,none⟩) 1 1] 47);have r1:=r1.alloc (.cells #[.string ⟨#[109,97,105,110]⟩,.slice none 0 0,.slice none 0 0,.slice (some ⟨Y+1,0,none⟩) 1 1] 47);have b1:=b1.alloc (o:=(.cells #[.string ⟨#[109,97,105,110]⟩,.slice none 0 0,.slice none 0 0,.slice (some ⟨Y+1,0,none⟩) 1 1] 47)) (by omega);have r2:=Zo W2 (Vl ⟨[109,97,105,110],[],[],[.mk 8 [] [exE] [] []]⟩ (.slice none 0 0) (.slice none 0 0) (.slice (some ⟨Y+1,0,none⟩) 1 1)) 47;rw[s2]at r2;have r2:Ca (W2.alloc (.cells #[.string ⟨#[109,97,105,110]⟩,.slice none 0 0,.slice none 0 0,.slice (some ⟨Y+1,0,none⟩) 1 1] 47)) (Y+1+1) 0 (Vl ⟨[109,97,105,110],[],[],[.mk 8 [] [exE] [] []]⟩ (.slice none 0 0) (.slice none 0 0) (.slice (some ⟨Y+1,0,none⟩) 1 1)):=r2;have s3:(W2.alloc (.cells #[.string ⟨#[109,97,105,110]⟩,.slice none 0 0,.slice none 0 0,.slice (some ⟨Y+1,0,none⟩) 1 1] 47)).heap.size=Y+1+1+1:=by simp [s2]
 generalize (W2.alloc (.cells #[.string ⟨#[109,97,105,110]⟩,.slice none 0 0,.slice none 0 0,.slice (some ⟨Y+1,0,none⟩) 1 1] 47))=W3 at*;have r0:=r0.alloc (.cells #[.slice none 0 0,.slice (some ⟨Y+1+1,0,none⟩) 1 1] 27);have r1:=r1.alloc (.cells #[.slice none 0 0,.slice (some ⟨Y+1+1,0,none⟩) 1 1] 27);have r2:=r2.alloc (.cells #[.slice none 0 0,.slice (some ⟨Y+1+1,0,none⟩) 1 1] 27);have b1:=b1.alloc (o:=(.cells #[.slice none 0 0,.slice (some ⟨Y+1+1,0,none⟩) 1 1] 27)) (by omega);have r3:=Zo W3 [.slice none 0 0,.slice (some ⟨Y+1+1,0,none⟩) 1 1] 27;rw[s3]at r3;have r3:Ca (W3.alloc (.cells #[.slice none 0 0,.slice (some ⟨Y+1+1,0,none⟩) 1 1] 27)) (Y+1+1+1) 0 [.slice none 0 0,.slice (some ⟨Y+1+1,0,none⟩) 1 1]:=r3;have s4:(W3.alloc (.cells #[.slice none 0 0,.slice (some ⟨Y+1+1,0,none⟩) 1 1] 27)).heap.size=Y+1+1+1+1:=by simp [s3]
 generalize (W3.alloc (.cells #[.slice none 0 0,.slice (some ⟨Y+1+1,0,none⟩) 1 1] 27))=W4 at*;refine⟨?_,s4,r3,b1⟩;have e0:Ai (· <Y+1+1+1+1) W4 [exE] (.slice (some ⟨Y,0,none⟩) 1 1):=.one _ _ (by omega) r0 ((he.old (by rw[←hY];exact b1)).mono (fun b h=>by omega)) (Cx ⟨by decide,by decide⟩);have e1:Al (· <Y+1+1+1+1) W4 [.mk 8 [] [exE] [] []] (.slice (some ⟨Y+1,0,none⟩) 1 1):=.one _ _ _ _ (by omega) r1 e0 .zero .zero;exact .one _ _ _ _ (by omega) r2 .zero .zero e1
theorem eC(w:World)(hg:3<w.heap.size)(ht:Ct w):
  Calls Zc 5 #[] w fun e w'=>e=.returned (.bool true)∧Below w.heap.size w w':=by
 have HG:=Za hg;have HT:=Za ht;have HE:=Za (awake_E w _ rfl);clear hg ht;go_enter func5,ntmps5
 go_wp2_with fail
 generalize (((((w.alloc (.cells #[.int .i64 1,.int .i64 0,.int .i64 1,.string ⟨#[]⟩,.slice none 0 0,.int .i64 2,.int .i64 0,.int .i64 0,.string ⟨#[120]⟩,.slice none 0 0] 31)).alloc (.cells #[.int .i64 4,.int .i64 1,.int .i64 0,.string ⟨#[]⟩,.slice (some ⟨w.heap.size,0,none⟩) 2 2] 31)).alloc (.cells #[.int .i64 1,.int .i64 0,.int .i64 2,.string ⟨#[]⟩,.slice none 0 0] 31)).alloc (.cells #[.int .i64 4,.int .i64 1,.int .i64 0,.string ⟨#[]⟩,.slice (some ⟨w.heap.size,0,none⟩) 2 2,.int .i64 3,.int .i64 17,.int .i64 0,.string ⟨#[]⟩,.slice (some ⟨w.heap.size+1+1,0,none⟩) 1 1] 31)).alloc (.cells #[.int .i64 4,.int .i64 3,.int .i64 0,.string ⟨#[]⟩,.slice (some ⟨w.heap.size+1+1+1,0,none⟩) 2 2] 31))=W at*;have HX:Hid (w.heap.size+1+1+1+1+1=W.heap.size):=HE.o.2.1.symm;have HB:=Za HE.o.2.2.2;have HEA:Hid (Ai (· <W.heap.size) W exE.args (.slice (some ⟨w.heap.size+1+1+1,0,none⟩) 2 2)):=by show Ai _ _ _ _;rw[←HX.o];exact HE.o.1
 have HR:=Za HE.o.2.2.1;have HT1:Hid (Ct W):=HT.o.keep (HB.o.block _ HG.o);have HGW:Hid (3<W.heap.size):=Zv HG.o HB.o.size;clear HE HT;refine(Ra exE _ W HGW.o HT1.o HEA.o (Cx ⟨by decide,by decide⟩) Ul (by rw[Ri];show _≤_;decide)).mono ?_;rw[Ri];rintro r w1 ⟨rfl,hb1⟩;have HB1:=Za hb1;have hsz:=hb1.size;have HR1:=Za (HR.o.below (hb1.mono (Zm _)));have c0:=HR1.o.at 0 _ rfl;have c1:=HR1.o.at 1 _ rfl;have c2:=HR1.o.at 2 _ rfl;have c3:=HR1.o.at 3 _ rfl;have c4:=HR1.o.at 4 _ rfl;simp only[exE,Ex.kind,Ex.op,Ex.n]at c0 c1 c2;replace c3:w1.cell? ⟨w.heap.size+1+1+1+1,3,none⟩=some (.string ⟨#[]⟩):=c3;have HE1:Hid (Ai (· <w1.heap.size) w1 exE.args (.slice (some ⟨w.heap.size+1+1+1,0,none⟩) 2 2)):=(HEA.o.old hb1).mono (fun b h=>Zv h hsz);have HP:=Za (awake_P w1 _ rfl _ HE1.o);clear hb1 HR;go_wp2_with fail
 generalize ((((w1.alloc (.cells #[.int .i64 4,.int .i64 3,.int .i64 0,.string ⟨#[]⟩,.slice (some ⟨w.heap.size+1+1+1,0,none⟩) 2 2] 31)).alloc (.cells #[.int .i64 8,.string ⟨#[]⟩,.slice (some ⟨w1.heap.size,0,none⟩) 1 1,.slice none 0 0,.slice none 0 0] 56)).alloc (.cells #[.string ⟨#[109,97,105,110]⟩,.slice none 0 0,.slice none 0 0,.slice (some ⟨w1.heap.size+1,0,none⟩) 1 1] 47)).alloc (.cells #[.slice none 0 0,.slice (some ⟨w1.heap.size+1+1,0,none⟩) 1 1] 27))=V at*;have HX':Hid (w1.heap.size+1+1+1+1=V.heap.size):=HP.o.2.1.symm;have HBV:=Za (HB1.o.trans (HP.o.2.2.2.mono hsz));have HFU:Hid (Bj (· <V.heap.size) V exP.funcs (.slice (some ⟨w1.heap.size+1+1,0,none⟩) 1 1)):=by show Bj _ _ _ _;rw[←HX'.o];exact HP.o.1
 have HRP:=Za HP.o.2.2.1;have HT2:Hid (Ct V):=HT1.o.keep (HBV.o.block _ HGW.o);have HGV:Hid (3<V.heap.size):=Zv HGW.o HBV.o.size;have HEV:Hid (Ai (· <W.heap.size) V exE.args (.slice (some ⟨w.heap.size+1+1+1,0,none⟩) 2 2)):=HEA.o.old HBV.o;have HRV:=Za (HR1.o.below (HP.o.2.2.2.mono (Zm _)));clear HP c0 c1 c2 c3 c4;refine(aE exP _ _ V HGV.o HT2.o Zq HFU.o bQ (by rw[Sk];simp) (by rw[Sk];show _≤_;decide)).mono ?_;rw[Sk];rintro r w2 ⟨rfl,hb2⟩;have HB2:=Za hb2;have HRP2:=Za (HRP.o.below hb2);have HRE2:=Za (HRV.o.below hb2);have HFU2:=Za (Zi hb2 HFU.o);have HEV2:=Za (HEV.o.old hb2);have hs2:=hb2.size;clear hb2;go_wp2_with fail
 refine(Sy (.mk 0 0 0 [] []) (· <V.heap.size) _ _ Ai.zero eJ).mono ?_;rintro r w3 ⟨rfl,hb3⟩;have HB3:=Za hb3;have HRP3:=Za (HRP2.o.below hb3);have HRE3:=Za (HRE2.o.below hb3);have HFU3:=Za (Zi hb3 HFU2.o);have HEV3:=Za (HEV2.o.old hb3);have hs3:=hb3.size;clear hb3;have p0:=HRP3.o.at 0 _ rfl;have p1:=HRP3.o.at 1 _ rfl;go_wp2_with fail
 refine(Xu exP (· <V.heap.size) _ _ _ Zq HFU3.o (by rw[bV];show _≤_;omega)).mono ?_;rw[bV];rintro r w4 ⟨rfl,hb4⟩;have HB4:=Za hb4;have HRP4:=Za (HRP3.o.below hb4);have HRE4:=Za (HRE3.o.below hb4);have HFU4:=Za (Zi hb4 HFU3.o);have HEV4:=Za (HEV3.o.old hb4);have hs4:=hb4.size;clear hb4 p0 p1;have p0:=HRP4.o.at 0 _ rfl;have p1:=HRP4.o.at 1 _ rfl;go_wp2_with fail
 refine(Ts exP (· <V.heap.size) _ _ _ Zq HFU4.o).mono ?_;rw[bQ];rintro r w5 ⟨rfl,hb5⟩;have HB5:=Za hb5;have HRP5:=Za (HRP4.o.below hb5);have HRE5:=Za (HRE4.o.below hb5);have HFU5:=Za (Zi hb5 HFU4.o);have HEV5:=Za (HEV4.o.old hb5);have hs5:=hb5.size;clear hb5 p0 p1;have c0:=HRE5.o.at 0 _ rfl;have c1:=HRE5.o.at 1 _ rfl;have c2:=HRE5.o.at 2 _ rfl;have c3:=HRE5.o.at 3 _ rfl;have c4:=HRE5.o.at 4 _ rfl;simp only[exE,Ex.kind,Ex.op,Ex.n]at c0 c1 c2;replace c3:w5.cell? ⟨w.heap.size+1+1+1+1,3,none⟩=some (.string ⟨#[]⟩):=c3;go_wp2_with fail
 refine(Ht exE (· <W.heap.size) _ _ HEV5.o).mono ?_;rw[Ul];rintro r w6 ⟨rfl,hb6⟩;have HB6:=Za hb6;have HRP6:=Za (HRP5.o.below hb6);have HFU6:=Za (Zi hb6 HFU5.o);have hs6:=hb6.size;clear hb6 c0 c1 c2 c3 c4;have p0:=HRP6.o.at 0 _ rfl;have p1:=HRP6.o.at 1 _ rfl;go_wp2_with fail
 refine(Xh exP ⟨[],[]⟩ (· <V.heap.size) _ _ _ _ _ Zq HFU6.o Zq Bj.zero).mono ?_;rw[same_P0];rintro r w7 ⟨rfl,hb7⟩;have HB7:=Za hb7;have HRP7:=Za (HRP6.o.below hb7);have HFU7:=Za (Zi hb7 HFU6.o);have hs7:=hb7.size;clear hb7 p0 p1;have p0:=HRP7.o.at 0 _ rfl;have p1:=HRP7.o.at 1 _ rfl;go_wp2_with fail
 refine(Xh exP exP (· <V.heap.size) _ _ _ _ _ Zq HFU7.o Zq HFU7.o).mono ?_;rw[same_PP];rintro r w8 ⟨rfl,hb8⟩;have HB8:=Za hb8;clear hb8 p0 p1;go_wp2_with fail
 go_ret
 refine⟨rfl,?_⟩;have l0:=HB.o.size;have l1:=HBV.o.size;exact HB.o.trans (((((((((HBV.o.trans (HB2.o.mono l1)).trans (HB3.o.mono (by omega))).trans (HB4.o.mono (by omega))).trans (HB5.o.mono (by omega))).trans (HB6.o.mono (by omega))).trans (HB7.o.mono (by omega))).trans (HB8.o.mono (by omega))).mono l0))
end Go.Proofs.YtfhbinbjkpfedaaGreatDoor
