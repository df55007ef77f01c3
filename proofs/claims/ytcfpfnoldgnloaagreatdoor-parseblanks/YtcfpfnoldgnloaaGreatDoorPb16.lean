/-
  prog: a program. Conditions: the parser lies in memory.
-/
import Derived.Test.YtcfpfnoldgnloaaGreatDoorPb15
set_option linter.unusedVariables false
set_option linter.unusedSimpArgs false
namespace Go.Proofs.YtcfpfnoldgnloaaGreatDoor
open Go.RowKit Go.Proofs.Tryz
set_option maxHeartbeats 20000000
set_option maxRecDepth 100000
open Go.Lib renaming hid→Za
open Below renaming refl→Zb
open Ae renaming new→Zc
open List renaming length_cons→Zd
open Go.Proofs.Tryz renaming prog→Ze
theorem Qj {D:Nat→Prop}{w:World}{l:List Bs}{v:Value}(h:Ba D w l v):Ba (fun b=>D b∧b<w.heap.size) w l v:=by
 obtain⟨a,cap,b,off,hv,h1,h2,h3,h4⟩:=h;refine⟨a,cap,b,off,hv,h1,h2,?_,h4⟩;rcases h3 with h3|⟨ha,hD⟩
 ·exact .inl h3
 ·rcases Nat.eq_zero_or_pos l.length with hz|hz
  ·exact .inl hz
  ·exact .inr ⟨ha,hD,World.block_lt_of_cell? _ _ (h4 0 hz)⟩
theorem Rg {D:Nat→Prop}{w:World}{l:List Bs}{v:Value}(h:Ba D w l v):∃a cap,v=.slice a l.length cap:=by
 obtain⟨a,cap,b,off,hv,_⟩:=h;exact⟨a,cap,hv⟩
structure YFv where
 x:Fu
 p:Value
 l:Value
 b:Value
def Ik(q:YFv):List Value:=[.string (Aa q.x.name),q.p,q.l,q.b]
def YFp(D:Nat→Prop)(w:World)(q:YFv):Prop:=Ba D w q.x.params q.p∧Ba D w q.x.locals q.l∧Ax D w q.x.body q.b
theorem YFp.keep {D:Nat→Prop}{w w':World}{q:YFv}(h:YFp D w q)(hk:Ed D w w'):YFp D w' q:=⟨h.1.keep hk,h.2.1.keep hk,h.2.2.keep hk⟩
theorem YFp.mono {D D':Nat→Prop}{w:World}{q:YFv}(h:YFp D w q)(hD:∀b,D b→D' b):YFp D' w q:=⟨h.1.mono hD,h.2.1.mono hD,h.2.2.mono hD⟩
theorem YFp.strong {D:Nat→Prop}{w:World}{q:YFv}(h:YFp D w q):YFp (fun b=>D b∧b<w.heap.size) w q:=⟨Qj h.1,Qj h.2.1,h.2.2.strong⟩
def Iq(w:World)(base:Nat)(ps:List YFv)(v:Value):Prop:=w.ownsRow base 58 4 v ps.length (ps.flatMap Ik)∧∀q,q∈ps→YFp (fun b=>base≤b∧v.ownBlock≠some b) w q
theorem Iq.zero(w:World)(base:Nat):Iq w base [] (.slice none 0 0):=⟨World.ownsRow_nil _ _ _ _,fun q hq=>by cases hq⟩
theorem Iq.keep {w w':World}{base:Nat}{ps:List YFv}{v:Value}(h:Iq w base ps v)(hk:∀k,k<w.heap.size→base≤k→w'.heap[k]? =w.heap[k]?):Iq w' base ps v:=by
 refine⟨⟨h.1.1,?_⟩,fun p hp=>(h.2 p hp).keep (fun b off x hb hx=>by rw[World.cell?_of_block (w:=w) (hk b (World.block_lt_of_cell? _ _ hx) hb.1)];exact hx)⟩;rcases h.1.2 with hn|⟨g,cap,cur,rfl,hb,hg,r⟩
 ·exact .inl hn
 ·refine .inr ⟨g,cap,cur,rfl,hb,?_,r⟩
  rw[hk g (by
   rcases Nat.lt_or_ge g w.heap.size with h'|h'
   ·exact h'
   ·simp [Array.getElem?_eq_none h']at hg) hb]
  exact hg
theorem Iq.sfr {p:Nat}{w w':World}{base:Nat}{ps:List YFv}{v:Value}(h:Iq w base ps v)(hf:SFr p w w')(hp:p<base):Iq w' base ps v:=h.keep (fun k h1 h2=>hf.block k h1 (by omega))
theorem Iq.old {w w':World}{base:Nat}{ps:List YFv}{v:Value}(h:Iq w base ps v)(hb:Below w.heap.size w w'):Iq w' base ps v:=h.keep (fun k h1 _=>hb.block k h1)
theorem Iq.low {w:World}{base:Nat}{ps:List YFv}{v:Value}(h:Iq w base ps v){k:Nat}(hk:k<base)(i:Nat)(x:Value):Iq (w.setCell ⟨k,i,none⟩ x) base ps v:=h.keep (fun j _ h2=>Below.heap_setCell _ _ _ _ (show j≠k by omega))
theorem Iq.lt {w:World}{base:Nat}{ps:List YFv}{v:Value}(h:Iq w base ps v):∀k,v.ownBlock=some k→base≤k∧k<w.heap.size:=World.ownsRow.lt h.1
theorem lI {D:Nat→Prop}{w:World}:Bw D w [] (.slice none 0 0):=
 ⟨none,0,0,0,fun _=>undef,fun _=>undef,fun _=>undef,rfl,Nat.le_refl _,by show _≤_;simp,.inl rfl,fun i hi=>absurd hi (Nat.not_lt_zero _)⟩
theorem Iq.fus {w:World}{base:Nat}{ps:List YFv}{v:Value}(h:Iq w base ps v)(hf:ps.length≤1000000):Bw (base≤ ·) w (ps.map (·.x)) v:=by
 have hl:(ps.map (·.x)).length=ps.length:=List.length_map _;rcases h.1.2 with⟨rfl,hz⟩|⟨g,cap,cur,rfl,hb,hg,hc,hm,hs,ht⟩
 ·have:ps=[]:=List.length_eq_zero_iff.1 hz
  subst this;exact lI
 ·let z:YFv:=⟨Fu.nil,undef,undef,undef⟩
  refine⟨some ⟨g,0,none⟩,cap,g,0,(fun i=>(ps.getD i z).p),(fun i=>(ps.getD i z).l),(fun i=>(ps.getD i z).b),by rw[hl],by rw[hl];exact hc,by rw[hl];show _≤_;omega,.inr ⟨rfl,hb⟩,fun i hi=>?_⟩;rw[hl]at hi;obtain⟨p,hp,hx,hm⟩:∃p,ps[i]? =some p∧Dn (ps.map (·.x)) i=p.x∧p∈ps:=⟨ps[i],List.getElem?_eq_getElem hi,by simp [Dn,List.getElem?_eq_getElem hi],List.getElem_mem hi⟩;have sv:ps.getD i z=p:=by rw[List.getD_eq_getElem?_getD,hp];rfl
  rw[hx];dsimp only;rw[sv];have cell:∀q u,q<4→(Ik p)[q]? =some u→w.cell? ⟨g,0+i*4+q,none⟩=some u:=by
   intro q u hq hu;have h1:=h.1.cellAt (i*4+q) (by omega);rw[Mu Ik 4 (fun _=>rfl) ps i q p hp hq,hu]at h1
   rwa[show 0+i*4+q=i*4+q by omega]
  obtain⟨h1,h2,h5⟩:=h.2 p hm;exact⟨⟨cell 0 _ (by decide) rfl,cell 1 _ (by decide) rfl,cell 2 _ (by decide) rfl,cell 3 _ (by decide) rfl⟩,h1.mono (fun b hb=>hb.1),h2.mono (fun b hb=>hb.1),h5.mono (fun b hb=>hb.1)⟩
theorem Iq.snoc {w w':World}{base:Nat}{ps:List YFv}{v:Value}(h:Iq w base ps v)(p:YFv)(hx:YFp (fun b=>base≤b∧v.ownBlock≠some b) w p){g cap:Nat}
  (hown:w'.ownsRow base 58 4 (.slice (some ⟨g,0,none⟩) (ps.length+1) cap) (ps.length+1) (ps.flatMap Ik++Ik p)) (hgrow:w.grownBy w' v.ownBlock) (hg:v.ownBlock=some g∨g=w.heap.size):
  Iq w' base (ps++[p]) (.slice (some ⟨g,0,none⟩) (ps.length+1) cap):=by
 have keep:∀q:YFv,YFp (fun b=>base≤b∧v.ownBlock≠some b) w q→YFp (fun b=>base≤b∧(Value.slice (some ⟨g,0,none⟩) (ps.length+1) cap).ownBlock≠some b) w' q:=by
  intro q hu;have h2:=hu.strong.keep (w':=w') (fun b off y hb hy=>hgrow.cell hy (fun e=>hb.1.2 e.symm));refine h2.mono (fun b hb=>⟨hb.1.1,?_⟩);show some g≠some b
  intro e
  cases e
  rcases hg with hg|hg
  ·exact hb.1.2 hg
  ·have:=hb.2;omega
 refine⟨?_,fun q hq=>?_⟩
 ·rw[List.length_append,List.flatMap_append];simpa using hown
 ·rcases List.mem_append.1 hq with hq|hq
  ·exact keep _ (h.2 q hq)
  ·rw[List.mem_singleton.1 hq];exact keep _ hx
theorem yf_one(x:Fu)(a b c:Option Addr)(n m k i j l:Nat):∀u,u∈Ik ⟨x,.slice a n i,.slice b m j,.slice c k l⟩→u.oneCell'=true:=by
 intro u hu;simp only[Ik,List.mem_cons,List.not_mem_nil,or_false]at hu;rcases hu with rfl|rfl|rfl|rfl<;>rfl
section
variable (w:World) {o:Oper} {a:Act} {K:Act→World→Prop} {Q:Exit→Act→World→Prop}
theorem wp_yfun(s x:Operand)(ho:o.op=.call {callee:=.builtin .append,args:= #[s,x],argTypes:= #[32,32]})
  (base:Nat) (ps:List YFv) (v:Value) (hs:a.eval s=v) (hown:Iq w base ps v) (q:YFv) (hq:YFp (fun b=>base≤b∧v.ownBlock≠some b) w q) (h1:∀u,u∈Ik q→u.oneCell'=true) (b c:Nat) (hx:a.eval x=.slice (some ⟨b,0,none⟩) 1 c) (hnew:Ae w b (Ik q) 58)
  (hlen:ps.length≤1000000) (hbase:base≤w.heap.size)
  (h:∀g cap w',Iq w' base (ps++[q]) (.slice (some ⟨g,0,none⟩) (ps.length+1) cap)→w.grownBy w' v.ownBlock→(v.ownBlock=some g∨g=w.heap.size)→g<w'.heap.size→K (a.put o.dst (.slice (some ⟨g,0,none⟩) (ps.length+1) cap)) w'):o.wp Ze a w K Q:=by
 obtain⟨i0,hi,hz0,hz1,hz2⟩:=info_parts infoYF;refine wp_append_lies (P:=Ze) w s x _ ho base 58 i0 _ 4 _ underlying32 hi hz0 hz1 hz2 rfl (by decide) v ps.length (ps.flatMap Ik) hs hown.1 ⟨b,0,none⟩ 1 c (Ik q) hx rfl hnew.newsY h1 (by decide) (by unfold maxLen;omega) (by omega) hbase _ rfl ?_;intro g cap w' hown' hg hat hlt;exact h g cap w' (hown.snoc q hq hown' hg hat) hg hat hlt
end
structure VY5 (p tb ob base:Nat)(nm:Bs)(va:Option Addr)(vc:Nat)(S:List Ar)(ov:Value)(t:Tk)(l r:List Tk)(err:Option Int)(W:World)(L:Nat→Bool)(nb:Nat)(gn:Nat)(cn:Nat)(z21 z22 z23 z24 z25 z26 z27 z28 z29 z30:Value)(wx:World):Prop where
 ord:L 10=true→∀j,j<10→L j=true
 p5_4:L 5=true→L 4=true
 p6_4:L 6=true→L 4=true
 p7_4:L 7=true→L 4=true
 p8_4:L 8=true→L 4=true
 p8_7:L 8=true→L 7=true
 p10_8:L 10=true→L 8=true
 c0:L 0=true→z21=.pointer (some ⟨ob,0,none⟩)
 c1:L 1=true→z22=.slice va S.length vc
 c2:L 2=true→z23=.string (Aa nm)
 c3:L 3=true→z24=.pointer (some ⟨p,0,none⟩)
 c4:L 4=true→z25=tkV t
 c5:L 5=true→z26=.int .i64 t.num
 c6:L 6=true→z27=.agg #[.string (Aa nm),.int .i64 t.num]
 c7:L 7=true→z28=.slice (some ⟨nb,0,none⟩) 1 1
 c8:L 8=true→z29=.slice (some ⟨gn,0,none⟩) (S.length+1) cn
 c9:L 9=true→z30=.pointer (some ⟨ob,0,none⟩)
 fr:AFr p ob base W wx
 pa:L 4=false→Ps wx p tb l
 pb:L 4=true→Ps wx p tb r
 x:L 10=false→Ae wx ob [.slice va S.length vc,ov] 34
 x7:L 10=true→Ae wx ob [.slice (some ⟨gn,0,none⟩) (S.length+1) cn,ov] 34
 ra:L 8=false→Xa wx base S (.slice va S.length vc)
 rb:L 8=true→Xa wx base (S++[⟨nm,t.num⟩]) (.slice (some ⟨gn,0,none⟩) (S.length+1) cn)
 g4:L 7=true→L 8=false→Ae wx nb (Jy ⟨nm,t.num⟩) 85∧base≤nb
def IY5(p tb ob base:Nat)(nm:Bs)(va:Option Addr)(vc:Nat)(S:List Ar)(ov:Value)(t:Tk)(l r:List Tk)(err:Option Int)(W:World)(q1 q4 q5 q6 q7 q8 q9 q10 q11 q12 q13 q14 q15 q16 q17 q18 q19 q20 q31 q32 q33 q34 q35 q36 q37 q38 q39 q40 q41 q42 q43 q44:Value)(L:Nat→Bool)(a':Act)(w':World):Prop:=
 ∃nb:Nat,∃gn:Nat,∃cn:Nat,∃z21 z22 z23 z24 z25 z26 z27 z28 z29 z30:Value,VY5 p tb ob base nm va vc S ov t l r err W L nb gn cn z21 z22 z23 z24 z25 z26 z27 z28 z29 z30 w'∧a'=⟨[.pointer (some ⟨p,0,none⟩),q1,.pointer (some ⟨ob,0,none⟩),.string (Aa nm),q4,q5,q6,q7,q8,q9,q10,q11,q12,q13,q14,q15,q16,q17,q18,q19,q20,z21,z22,z23,z24,z25,z26,z27,z28,z29,z30,q31,q32,q33,q34,q35,q36,q37,q38,q39,q40,q41,q42,q43,q44].toArray,[]⟩
def RY5(p tb ob base:Nat)(nm:Bs)(va:Option Addr)(vc:Nat)(S:List Ar)(ov:Value)(t:Tk)(l r:List Tk)(err:Option Int)(W:World)(q1 q4 q5 q6 q7 q8 q9 q10 q11 q12 q13 q14 q15 q16 q17 q18 q19 q20 q31 q32 q33 q34 q35 q36 q37 q38 q39 q40 q41 q42 q43 q44:Value)(a':Act)(w':World):Prop:=
 ∃nb:Nat,∃gn:Nat,∃cn:Nat,(AFr p ob base W w'∧Ps w' p tb r∧Ae w' ob [.slice (some ⟨gn,0,none⟩) (S.length+1) cn,ov] 34∧Xa w' base (S++[⟨nm,t.num⟩]) (.slice (some ⟨gn,0,none⟩) (S.length+1) cn))∧a'=⟨[.pointer (some ⟨p,0,none⟩),q1,.pointer (some ⟨ob,0,none⟩),.string (Aa nm),q4,q5,q6,q7,q8,q9,q10,q11,q12,q13,q14,q15,q16,q17,q18,q19,q20,.pointer (some ⟨ob,0,none⟩),.slice va S.length vc,.string (Aa nm),.pointer (some ⟨p,0,none⟩),tkV t,.int .i64 t.num,.agg #[.string (Aa nm),.int .i64 t.num],.slice (some ⟨nb,0,none⟩) 1 1,.slice (some ⟨gn,0,none⟩) (S.length+1) cn,.pointer (some ⟨ob,0,none⟩),q31,q32,q33,q34,q35,q36,q37,q38,q39,q40,q41,q42,q43,q44].toArray,[]⟩
theorem tA(p tb ob base:Nat)(nm:Bs)(va:Option Addr)(vc:Nat)(S:List Ar)(ov:Value)(t:Tk)(l r:List Tk)(err:Option Int)(W:World)(hps:Ps W p tb l)(ho:Ae W ob [.slice va S.length vc,ov] 34)(hrow:Xa W base S (.slice va S.length vc))(hpo:p<ob)(hob:ob<base)(hbs:base≤W.heap.size)(hll:S.length≤1000000)(HKD:Hid (∀w1,Ps w1 p tb l→Calls Ze 67 #[.pointer (some ⟨p,0,none⟩),.int .i64 3] w1 fun e w'=>match err with|some n=>e=Bk n∧SFr p w1 w'|none=>e=.returned (tkV t)∧SFr p w1 w'∧Ps w' p tb r))(Q:Exit→Act→World→Prop)(hQ:∀n a' w',err=some n→a'.defers=[]→AFr p ob base W w'→Q (.panic [{v:=.iface 110 (.agg #[.int .i64 n]),recovered:=false}]) a' w')(q1 q4 q5 q6 q7 q8 q9 q10 q11 q12 q13 q14 q15 q16 q17 q18 q19 q20 q21 q22 q23 q24 q25 q26 q27 q28 q29 q30 q31 q32 q33 q34 q35 q36 q37 q38 q39 q40 q41 q42 q43 q44:Value)(J K':Act→World→Prop)(hJ:∀a' w',RY5 p tb ob base nm va vc S ov t l r err W q1 q4 q5 q6 q7 q8 q9 q10 q11 q12 q13 q14 q15 q16 q17 q18 q19 q20 q31 q32 q33 q34 q35 q36 q37 q38 q39 q40 q41 q42 q43 q44 a' w'→J a' w')(hM:∀a' w',Met J a' w'→K' a' w'):
  Code.wp Ze ((Tryz.f30.body.bind (Ld 5)).getD .skip) (Exit.then K' Q) ⟨[.pointer (some ⟨p,0,none⟩),q1,.pointer (some ⟨ob,0,none⟩),.string (Aa nm),q4,q5,q6,q7,q8,q9,q10,q11,q12,q13,q14,q15,q16,q17,q18,q19,q20,q21,q22,q23,q24,q25,q26,q27,q28,q29,q30,q31,q32,q33,q34,q35,q36,q37,q38,q39,q40,q41,q42,q43,q44].toArray,[]⟩ W:=by
 have HPS:=Za hps;have HO:=Za ho;have HROW:=Za hrow;have HQ:=Za hQ;clear hps ho hrow hQ
 conv=>arg 2;whnf
 (try dsimp only);refine Fp (by kernel_rfl) (by kernel_rfl) (IY5 p tb ob base nm va vc S ov t l r err W q1 q4 q5 q6 q7 q8 q9 q10 q11 q12 q13 q14 q15 q16 q17 q18 q19 q20 q31 q32 q33 q34 q35 q36 q37 q38 q39 q40 q41 q42 q43 q44) ?_ ?_ ?_
 ·exact⟨0,0,0,q21,q22,q23,q24,q25,q26,q27,q28,q29,q30,⟨(fun h=>by cases h),(fun h=>by cases h),(fun h=>by cases h),(fun h=>by cases h),(fun h=>by cases h),(fun h=>by cases h),(fun h=>by cases h),(fun h=>by cases h),(fun h=>by cases h),(fun h=>by cases h),(fun h=>by cases h),(fun h=>by cases h),(fun h=>by cases h),(fun h=>by cases h),(fun h=>by cases h),(fun h=>by cases h),(fun h=>by cases h),((AFr.refl p ob base W).old (Zb _ _).drew),(fun _=>HPS.o.old (Zb _ _).drew),(fun h=>by cases h),(fun _=>HO.o.old (Zb _ _).drew),(fun h=>by cases h),(fun _=>HROW.o.old (Zb _ _).drew),(fun h=>by cases h),(fun h=>fun _=>by cases h)⟩,rfl⟩
 ·intro L act wx k hI hk hl hd
  obtain⟨nb,gn,cn,z21,z22,z23,z24,z25,z26,z27,z28,z29,z30,hV,rfl⟩:=hI;have hk:k=0∨k=1∨k=2∨k=3∨k=4∨k=5∨k=6∨k=7∨k=8∨k=9∨k=10:=by
   have:k<11:=hk;omega
  rcases hk with rfl|rfl|rfl|rfl|rfl|rfl|rfl|rfl|rfl|rfl|rfl
  ·have nl:=kf hV.ord hl
   refine Bc _ rfl rfl (fun K' hK=>?_)
   conv=>arg 2;whnf
   go_wp2_with fail
   exact⟨nb,gn,cn,.pointer (some ⟨ob,0,none⟩),z22,z23,z24,z25,z26,z27,z28,z29,z30,⟨kl nl,kq hV.p5_4,kq hV.p6_4,kq hV.p7_4,kq hV.p8_4,kq hV.p8_7,kq hV.p10_8,(fun _=>rfl),kc hV.c1,kc hV.c2,kc hV.c3,kc hV.c4,kc hV.c5,kc hV.c6,kc hV.c7,kc hV.c8,kc hV.c9,hV.fr,(fun h0=>hV.pa (kb h0)),kc hV.pb,(fun h0=>hV.x (kb h0)),kl nl,(fun h0=>hV.ra (kb h0)),kc hV.rb,(fun h0=>fun h1=>hV.g4 (kb h0) (kb h1))⟩,rfl⟩
  ·have nl:=kf hV.ord hl
   have d0:L 0=true:=hd _ rfl ⟨0,.data⟩ (by simp) rfl;obtain rfl:=(hV.c0 d0).symm;have l10:L 10=false:=nl;have ho:=hV.x l10;have x1:=ho.at 0 _ rfl;refine Bc _ rfl rfl (fun K' hK=>?_)
   conv=>arg 2;whnf
   go_wp2_with fail
   exact⟨nb,gn,cn,.pointer (some ⟨ob,0,none⟩),.slice va S.length vc,z23,z24,z25,z26,z27,z28,z29,z30,⟨kl nl,kq hV.p5_4,kq hV.p6_4,kq hV.p7_4,kq hV.p8_4,kq hV.p8_7,kq hV.p10_8,kc hV.c0,(fun _=>rfl),kc hV.c2,kc hV.c3,kc hV.c4,kc hV.c5,kc hV.c6,kc hV.c7,kc hV.c8,kc hV.c9,hV.fr,(fun h0=>hV.pa (kb h0)),kc hV.pb,(fun h0=>hV.x (kb h0)),kl nl,(fun h0=>hV.ra (kb h0)),kc hV.rb,(fun h0=>fun h1=>hV.g4 (kb h0) (kb h1))⟩,rfl⟩
  ·have nl:=kf hV.ord hl
   refine Bc _ rfl rfl (fun K' hK=>?_)
   conv=>arg 2;whnf
   go_wp2_with fail
   exact⟨nb,gn,cn,z21,z22,.string (Aa nm),z24,z25,z26,z27,z28,z29,z30,⟨kl nl,kq hV.p5_4,kq hV.p6_4,kq hV.p7_4,kq hV.p8_4,kq hV.p8_7,kq hV.p10_8,kc hV.c0,kc hV.c1,(fun _=>rfl),kc hV.c3,kc hV.c4,kc hV.c5,kc hV.c6,kc hV.c7,kc hV.c8,kc hV.c9,hV.fr,(fun h0=>hV.pa (kb h0)),kc hV.pb,(fun h0=>hV.x (kb h0)),kl nl,(fun h0=>hV.ra (kb h0)),kc hV.rb,(fun h0=>fun h1=>hV.g4 (kb h0) (kb h1))⟩,rfl⟩
  ·have nl:=kf hV.ord hl
   refine Bc _ rfl rfl (fun K' hK=>?_)
   conv=>arg 2;whnf
   go_wp2_with fail
   exact⟨nb,gn,cn,z21,z22,z23,.pointer (some ⟨p,0,none⟩),z25,z26,z27,z28,z29,z30,⟨kl nl,kq hV.p5_4,kq hV.p6_4,kq hV.p7_4,kq hV.p8_4,kq hV.p8_7,kq hV.p10_8,kc hV.c0,kc hV.c1,kc hV.c2,(fun _=>rfl),kc hV.c4,kc hV.c5,kc hV.c6,kc hV.c7,kc hV.c8,kc hV.c9,hV.fr,(fun h0=>hV.pa (kb h0)),kc hV.pb,(fun h0=>hV.x (kb h0)),kl nl,(fun h0=>hV.ra (kb h0)),kc hV.rb,(fun h0=>fun h1=>hV.g4 (kb h0) (kb h1))⟩,rfl⟩
  ·have nl:=kf hV.ord hl
   have d3:L 3=true:=hd _ rfl ⟨3,.data⟩ (by simp) rfl;obtain rfl:=(hV.c3 d3).symm;have hps:=hV.pa hl;refine Bc _ rfl rfl (fun K' hK=>?_)
   conv=>arg 2;whnf
   have HPX:=Za hps;have HFX:=Za hV.fr;clear hps;go_wp2_with fail
   refine(HKD.o _ HPX.o).mono ?_;intro e w7 he
   cases err with
   |some n=>
    obtain⟨rfl,hf⟩:=he;unfold Bk;have HF:=Za (HFX.o.trans (AFr.of_sfr hf));clear hf hK hV;go_wp2_with fail
    exact HQ.o n _ _ rfl rfl HF.o
   |none=>
   obtain⟨rfl,hf7,hp7⟩:=he;go_wp2_with fail
   exact⟨nb,gn,cn,z21,z22,z23,.pointer (some ⟨p,0,none⟩),tkV t,z26,z27,z28,z29,z30,⟨kl nl,(fun _=>Bb L 4),(fun _=>Bb L 4),(fun _=>Bb L 4),(fun _=>Bb L 4),kq hV.p8_7,kq hV.p10_8,kc hV.c0,kc hV.c1,kc hV.c2,kc hV.c3,(fun _=>rfl),kc hV.c5,kc hV.c6,kc hV.c7,kc hV.c8,kc hV.c9,(hV.fr.trans (AFr.of_sfr hf7)),(ks),(fun _=>hp7),(fun h=>(hV.x (kb h)).sfr hf7 (by omega)),kl nl,(fun h=>(hV.ra (kb h)).sfr hf7 (by omega)),(fun h=>(hV.rb (kb h)).sfr hf7 (by omega)),(fun h1 h2=>⟨Ae.sfr (hV.g4 (kb h1) (kb h2)).1 hf7 (by have:=(hV.g4 (kb h1) (kb h2)).2;omega),(hV.g4 (kb h1) (kb h2)).2⟩)⟩,rfl⟩
  ·have nl:=kf hV.ord hl
   have d4:L 4=true:=hd _ rfl ⟨4,.data⟩ (by simp) rfl;obtain rfl:=(hV.c4 d4).symm;unfold tkV;refine Bc _ rfl rfl (fun K' hK=>?_)
   conv=>arg 2;whnf
   go_wp2_with fail
   exact⟨nb,gn,cn,z21,z22,z23,z24,tkV t,.int .i64 t.num,z27,z28,z29,z30,⟨kl nl,(kd (d4)),kq hV.p6_4,kq hV.p7_4,kq hV.p8_4,kq hV.p8_7,kq hV.p10_8,kc hV.c0,kc hV.c1,kc hV.c2,kc hV.c3,kc hV.c4,(fun _=>rfl),kc hV.c6,kc hV.c7,kc hV.c8,kc hV.c9,hV.fr,(fun h0=>hV.pa (kb h0)),kc hV.pb,(fun h0=>hV.x (kb h0)),kl nl,(fun h0=>hV.ra (kb h0)),kc hV.rb,(fun h0=>fun h1=>hV.g4 (kb h0) (kb h1))⟩,rfl⟩
  ·have nl:=kf hV.ord hl
   have d2:L 2=true:=hd _ rfl ⟨2,.data⟩ (by simp) rfl;obtain rfl:=(hV.c2 d2).symm;have d5:L 5=true:=hd _ rfl ⟨5,.data⟩ (by simp) rfl;obtain rfl:=(hV.c5 d5).symm;refine Bc _ rfl rfl (fun K' hK=>?_)
   conv=>arg 2;whnf
   go_wp2_with fail
   exact⟨nb,gn,cn,z21,z22,.string (Aa nm),z24,z25,.int .i64 t.num,.agg #[.string (Aa nm),.int .i64 t.num],z28,z29,z30,⟨kl nl,kq hV.p5_4,(kd (hV.p5_4 d5)),kq hV.p7_4,kq hV.p8_4,kq hV.p8_7,kq hV.p10_8,kc hV.c0,kc hV.c1,kc hV.c2,kc hV.c3,kc hV.c4,kc hV.c5,(fun _=>rfl),kc hV.c7,kc hV.c8,kc hV.c9,hV.fr,(fun h0=>hV.pa (kb h0)),kc hV.pb,(fun h0=>hV.x (kb h0)),kl nl,(fun h0=>hV.ra (kb h0)),kc hV.rb,(fun h0=>fun h1=>hV.g4 (kb h0) (kb h1))⟩,rfl⟩
  ·have nl:=kf hV.ord hl
   have d6:L 6=true:=hd _ rfl ⟨6,.data⟩ (by simp) rfl;obtain rfl:=(hV.c6 d6).symm;have hal:Below wx.heap.size wx (wx.alloc (.cells #[.string (Aa nm),.int .i64 t.num] 85)):=bA;have hfs:=hV.fr.size;refine Bc _ rfl rfl (fun K' hK=>?_)
   conv=>arg 2;whnf
   go_wp2_with fail
   exact⟨wx.heap.size,gn,cn,z21,z22,z23,z24,z25,z26,.agg #[.string (Aa nm),.int .i64 t.num],.slice (some ⟨(wx.heap.size),0,none⟩) 1 1,z29,z30,⟨kl nl,kq hV.p5_4,kq hV.p6_4,(kd (hV.p6_4 d6)),kq hV.p8_4,(fun _=>Bb L 7),kq hV.p10_8,kc hV.c0,kc hV.c1,kc hV.c2,kc hV.c3,kc hV.c4,kc hV.c5,kc hV.c6,(fun _=>rfl),kc hV.c8,kc hV.c9,(AFr.old (hV.fr) hal),(fun h0=>Ps.old (hV.pa (kb h0)) hal),(fun h0=>Ps.old (hV.pb (kb h0)) hal),(fun h0=>Ae.old (hV.x (kb h0)) hal),kl nl,(fun h0=>Io.old (hV.ra (kb h0)) hal),(kn hV.p8_7 hl),(fun _ _=>⟨Zc wx (Jy ⟨nm,t.num⟩) 85,by omega⟩)⟩,rfl⟩
  ·have nl:=kf hV.ord hl
   have d1:L 1=true:=hd _ rfl ⟨1,.data⟩ (by simp) rfl;obtain rfl:=(hV.c1 d1).symm;have d4:L 4=true:=hd _ rfl ⟨4,.chain⟩ (by simp) rfl;have d7:L 7=true:=hd _ rfl ⟨7,.data⟩ (by simp) rfl;obtain rfl:=(hV.c7 d7).symm;have d4:L 4=true:=hd _ rfl ⟨4,.chain⟩ (by simp) rfl;have hg4:=hV.g4 d7 hl;have hra:=hV.ra hl;have hfs:=hV.fr.size;refine Bc _ rfl rfl (fun K' hK=>?_)
   conv=>arg 2;whnf
   refine wp_yarr wx _ _ rfl base S (.slice va S.length vc) rfl hra ⟨nm,t.num⟩ nb 1 rfl hg4.1 hll (Nat.le_trans hbs hfs) ?_;intro g2 cap2 w2 hr2 hg2 ha2 hl2;have hrg:∀k,(Value.slice va S.length vc).ownBlock=some k→base≤k:=fun k e=>(hra.lt k e).1
   go_wp2_with fail
   exact⟨nb,g2,cap2,z21,.slice va S.length vc,z23,z24,z25,z26,z27,.slice (some ⟨nb,0,none⟩) 1 1,.slice (some ⟨(g2),0,none⟩) (S.length+1) (cap2),z30,⟨kl nl,kq hV.p5_4,kq hV.p6_4,kq hV.p7_4,(kd (d4)),(kd (d7)),(fun _=>Bb L 8),kc hV.c0,kc hV.c1,kc hV.c2,kc hV.c3,kc hV.c4,kc hV.c5,kc hV.c6,kc hV.c7,(fun _=>rfl),kc hV.c9,(hV.fr.grown hg2 hrg),(fun h=>by rw[Ab L (by decide)]at h;rw[d4]at h;cases h),(fun _=>(hV.pb d4).grown hg2 hrg (by omega)),(fun h=>(hV.x (kb h)).grew hg2 (fun e=>by have:=hrg _ e;omega)),kl nl,(ks),(fun _=>hr2),(fun _=>ks)⟩,rfl⟩
  ·have nl:=kf hV.ord hl
   refine Bc _ rfl rfl (fun K' hK=>?_)
   conv=>arg 2;whnf
   go_wp2_with fail
   exact⟨nb,gn,cn,z21,z22,z23,z24,z25,z26,z27,z28,z29,.pointer (some ⟨ob,0,none⟩),⟨kl nl,kq hV.p5_4,kq hV.p6_4,kq hV.p7_4,kq hV.p8_4,kq hV.p8_7,kq hV.p10_8,kc hV.c0,kc hV.c1,kc hV.c2,kc hV.c3,kc hV.c4,kc hV.c5,kc hV.c6,kc hV.c7,kc hV.c8,(fun _=>rfl),hV.fr,(fun h0=>hV.pa (kb h0)),kc hV.pb,(fun h0=>hV.x (kb h0)),kl nl,(fun h0=>hV.ra (kb h0)),kc hV.rb,(fun h0=>fun h1=>hV.g4 (kb h0) (kb h1))⟩,rfl⟩
  ·have before:∀j,j<10→L j=true:=fun j hj=>by
    have hj:j=0∨j=1∨j=2∨j=3∨j=4∨j=5∨j=6∨j=7∨j=8∨j=9:=by omega
    rcases hj with rfl|rfl|rfl|rfl|rfl|rfl|rfl|rfl|rfl|rfl
    ·exact hd _ rfl ⟨0,.phase⟩ (by simp) rfl
    ·exact hd _ rfl ⟨1,.phase⟩ (by simp) rfl
    ·exact hd _ rfl ⟨2,.phase⟩ (by simp) rfl
    ·exact hd _ rfl ⟨3,.phase⟩ (by simp) rfl
    ·exact hd _ rfl ⟨4,.phase⟩ (by simp) rfl
    ·exact hd _ rfl ⟨5,.phase⟩ (by simp) rfl
    ·exact hd _ rfl ⟨6,.phase⟩ (by simp) rfl
    ·exact hd _ rfl ⟨7,.phase⟩ (by simp) rfl
    ·exact hd _ rfl ⟨8,.data⟩ (by simp) rfl
    ·exact hd _ rfl ⟨9,.data⟩ (by simp) rfl
   have d8:L 8=true:=hd _ rfl ⟨8,.data⟩ (by simp) rfl;obtain rfl:=(hV.c8 d8).symm;have d9:L 9=true:=hd _ rfl ⟨9,.data⟩ (by simp) rfl;obtain rfl:=(hV.c9 d9).symm;have hx:=hV.x hl;have x1:=hx.at 0 _ rfl;have fx:=hx.fz 0;have hxl:=hx.lt;have b4:=before 4 (by decide);have b8:=before 8 (by decide);refine Bc _ rfl rfl (fun K' hK=>?_)
   conv=>arg 2;whnf
   go_wp2_with fail
   exact⟨nb,gn,cn,z21,z22,z23,z24,z25,z26,z27,z28,.slice (some ⟨gn,0,none⟩) (S.length+1) cn,.pointer (some ⟨ob,0,none⟩),⟨(fun _ j hj=>by rw[Ab L (show j≠10 by omega)];exact before j hj),kq hV.p5_4,kq hV.p6_4,kq hV.p7_4,kq hV.p8_4,kq hV.p8_7,(kd (before 8 (by decide))),kc hV.c0,kc hV.c1,kc hV.c2,kc hV.c3,kc hV.c4,kc hV.c5,kc hV.c6,kc hV.c7,kc hV.c8,kc hV.c9,(hV.fr.set _ _),(fun h=>by rw[Ab L (by decide)]at h;rw[b4]at h;cases h),(fun _=>(hV.pb b4).other (by omega) _ _),(ks),(fun _=>hx.set 0 (.slice (some ⟨gn,0,none⟩) (S.length+1) cn)),(fun h=>by rw[Ab L (by decide)]at h;rw[b8]at h;cases h),(fun _=>(hV.rb b8).low hob _ _),(fun _ h=>by rw[Ab L (by decide)]at h;rw[b8]at h;cases h)⟩,rfl⟩
 ·intro L act wx hI hall
  obtain⟨nb,gn,cn,z21,z22,z23,z24,z25,z26,z27,z28,z29,z30,hV,rfl⟩:=hI;obtain rfl:=(hV.c0 (hall 0 (by decide))).symm;obtain rfl:=(hV.c1 (hall 1 (by decide))).symm;obtain rfl:=(hV.c2 (hall 2 (by decide))).symm;obtain rfl:=(hV.c3 (hall 3 (by decide))).symm;obtain rfl:=(hV.c4 (hall 4 (by decide))).symm;obtain rfl:=(hV.c5 (hall 5 (by decide))).symm;obtain rfl:=(hV.c6 (hall 6 (by decide))).symm;obtain rfl:=(hV.c7 (hall 7 (by decide))).symm;obtain rfl:=(hV.c8 (hall 8 (by decide))).symm;obtain rfl:=(hV.c9 (hall 9 (by decide))).symm;exact hM _ _ (Met.intro (hJ _ _ ⟨nb,gn,cn,⟨hV.fr,hV.pb (hall 4 (by decide)),hV.x7 (hall 10 (by decide)),hV.rb (hall 8 (by decide))⟩,rfl⟩))
structure VY8 (p tb ob base:Nat)(nm:Bs)(va:Option Addr)(vc:Nat)(S:List YFv)(ov:Value)(x:Fu)(l r:List Tk)(err:Option Int)(W:World)(L:Nat→Bool)(p1:Option Addr)(p2:Nat)(l1:Option Addr)(l2:Nat)(b1:Option Addr)(b2:Nat)(nb:Nat)(gn:Nat)(cn:Nat)(z37 z38 z39 z40 z41 z42 z43 z44:Value)(wx:World):Prop where
 ord:L 8=true→∀j,j<8→L j=true
 p5_4:L 5=true→L 4=true
 p6_4:L 6=true→L 4=true
 p6_5:L 6=true→L 5=true
 p8_6:L 8=true→L 6=true
 c0:L 0=true→z37=.pointer (some ⟨ob,1,none⟩)
 c1:L 1=true→z38=.slice va S.length vc
 c2:L 2=true→z39=.pointer (some ⟨p,0,none⟩)
 c3:L 3=true→z40=.string (Aa nm)
 c4:L 4=true→z41=.agg #[.string (Aa x.name),.slice p1 x.params.length p2,.slice l1 x.locals.length l2,.slice b1 x.body.length b2]
 c5:L 5=true→z42=.slice (some ⟨nb,0,none⟩) 1 1
 c6:L 6=true→z43=.slice (some ⟨gn,0,none⟩) (S.length+1) cn
 c7:L 7=true→z44=.pointer (some ⟨ob,1,none⟩)
 fr:AFr p ob base W wx
 pa:L 4=false→Ps wx p tb l
 pb:L 4=true→Ps wx p tb r
 xo:L 8=false→Ae wx ob [ov,.slice va S.length vc] 34
 x7:L 8=true→Ae wx ob [ov,.slice (some ⟨gn,0,none⟩) (S.length+1) cn] 34
 ra:L 6=false→Iq wx base S (.slice va S.length vc)
 rb:L 6=true→Iq wx base (S++[⟨x,.slice p1 x.params.length p2,.slice l1 x.locals.length l2,.slice b1 x.body.length b2⟩]) (.slice (some ⟨gn,0,none⟩) (S.length+1) cn)∧((Value.slice va S.length vc).ownBlock=some gn∨W.heap.size≤gn)
 xa:L 4=true→L 6=false→YFp (fun b=>base≤b∧(Value.slice va S.length vc).ownBlock≠some b) wx ⟨x,.slice p1 x.params.length p2,.slice l1 x.locals.length l2,.slice b1 x.body.length b2⟩
 g4:L 5=true→L 6=false→Ae wx nb (Ik ⟨x,.slice p1 x.params.length p2,.slice l1 x.locals.length l2,.slice b1 x.body.length b2⟩) 58∧base≤nb
 gr:∀b,b<W.heap.size→base≤b→(Value.slice va S.length vc).ownBlock≠some b→wx.heap[b]? =W.heap[b]?
def IY8(p tb ob base:Nat)(nm:Bs)(va:Option Addr)(vc:Nat)(S:List YFv)(ov:Value)(x:Fu)(l r:List Tk)(err:Option Int)(W:World)(q1 q4 q5 q6 q7 q8 q9 q10 q11 q12 q13 q14 q15 q16 q17 q18 q19 q20 q21 q22 q23 q24 q25 q26 q27 q28 q29 q30 q31 q32 q33 q34 q35 q36:Value)(L:Nat→Bool)(a':Act)(w':World):Prop:=
 ∃p1:Option Addr,∃p2:Nat,∃l1:Option Addr,∃l2:Nat,∃b1:Option Addr,∃b2:Nat,∃nb:Nat,∃gn:Nat,∃cn:Nat,∃z37 z38 z39 z40 z41 z42 z43 z44:Value,VY8 p tb ob base nm va vc S ov x l r err W L p1 p2 l1 l2 b1 b2 nb gn cn z37 z38 z39 z40 z41 z42 z43 z44 w'∧a'=⟨[.pointer (some ⟨p,0,none⟩),q1,.pointer (some ⟨ob,0,none⟩),.string (Aa nm),q4,q5,q6,q7,q8,q9,q10,q11,q12,q13,q14,q15,q16,q17,q18,q19,q20,q21,q22,q23,q24,q25,q26,q27,q28,q29,q30,q31,q32,q33,q34,q35,q36,z37,z38,z39,z40,z41,z42,z43,z44].toArray,[]⟩
def RY8(p tb ob base:Nat)(nm:Bs)(va:Option Addr)(vc:Nat)(S:List YFv)(ov:Value)(x:Fu)(l r:List Tk)(err:Option Int)(W:World)(q1 q4 q5 q6 q7 q8 q9 q10 q11 q12 q13 q14 q15 q16 q17 q18 q19 q20 q21 q22 q23 q24 q25 q26 q27 q28 q29 q30 q31 q32 q33 q34 q35 q36:Value)(a':Act)(w':World):Prop:=
 ∃p1:Option Addr,∃p2:Nat,∃l1:Option Addr,∃l2:Nat,∃b1:Option Addr,∃b2:Nat,∃nb:Nat,∃gn:Nat,∃cn:Nat,(AFr p ob base W w'∧Ps w' p tb r∧Ae w' ob [ov,.slice (some ⟨gn,0,none⟩) (S.length+1) cn] 34∧Iq w' base (S++[⟨x,.slice p1 x.params.length p2,.slice l1 x.locals.length l2,.slice b1 x.body.length b2⟩]) (.slice (some ⟨gn,0,none⟩) (S.length+1) cn)∧((Value.slice va S.length vc).ownBlock=some gn∨W.heap.size≤gn)∧(∀b,b<W.heap.size→base≤b→(Value.slice va S.length vc).ownBlock≠some b→w'.heap[b]? =W.heap[b]?))∧a'=⟨[.pointer (some ⟨p,0,none⟩),q1,.pointer (some ⟨ob,0,none⟩),.string (Aa nm),q4,q5,q6,q7,q8,q9,q10,q11,q12,q13,q14,q15,q16,q17,q18,q19,q20,q21,q22,q23,q24,q25,q26,q27,q28,q29,q30,q31,q32,q33,q34,q35,q36,.pointer (some ⟨ob,1,none⟩),.slice va S.length vc,.pointer (some ⟨p,0,none⟩),.string (Aa nm),.agg #[.string (Aa x.name),.slice p1 x.params.length p2,.slice l1 x.locals.length l2,.slice b1 x.body.length b2],.slice (some ⟨nb,0,none⟩) 1 1,.slice (some ⟨gn,0,none⟩) (S.length+1) cn,.pointer (some ⟨ob,1,none⟩)].toArray,[]⟩
theorem cR(p tb ob base:Nat)(nm:Bs)(va:Option Addr)(vc:Nat)(S:List YFv)(ov:Value)(x:Fu)(l r:List Tk)(err:Option Int)(W:World)(hps:Ps W p tb l)(ho:Ae W ob [ov,.slice va S.length vc] 34)(hrow:Iq W base S (.slice va S.length vc))(hpo:p<ob)(hob:ob<base)(hbs:base≤W.heap.size)(hll:S.length≤1000000)(HFN:Hid (∀w1,Ps w1 p tb l→Calls Ze 68 #[.pointer (some ⟨p,0,none⟩),.string (Aa nm)] w1 fun e w'=>match err with|some n=>e=Bk n∧SFr p w1 w'|none=> ∃pv lv bv,e=.returned (.agg #[.string (Aa x.name),pv,lv,bv])∧SFr p w1 w'∧Ps w' p tb r∧Ba (w1.heap.size≤ ·) w' x.params pv∧Ba (w1.heap.size≤ ·) w' x.locals lv∧Ax (w1.heap.size≤ ·) w' x.body bv))(Q:Exit→Act→World→Prop)(hQ:∀n a' w',err=some n→a'.defers=[]→AFr p ob base W w'→Q (.panic [{v:=.iface 110 (.agg #[.int .i64 n]),recovered:=false}]) a' w')(q1 q4 q5 q6 q7 q8 q9 q10 q11 q12 q13 q14 q15 q16 q17 q18 q19 q20 q21 q22 q23 q24 q25 q26 q27 q28 q29 q30 q31 q32 q33 q34 q35 q36 q37 q38 q39 q40 q41 q42 q43 q44:Value)(J K':Act→World→Prop)(hJ:∀a' w',RY8 p tb ob base nm va vc S ov x l r err W q1 q4 q5 q6 q7 q8 q9 q10 q11 q12 q13 q14 q15 q16 q17 q18 q19 q20 q21 q22 q23 q24 q25 q26 q27 q28 q29 q30 q31 q32 q33 q34 q35 q36 a' w'→J a' w')(hM:∀a' w',Met J a' w'→K' a' w'):
  Code.wp Ze ((Tryz.f30.body.bind (Ld 8)).getD .skip) (Exit.then K' Q) ⟨[.pointer (some ⟨p,0,none⟩),q1,.pointer (some ⟨ob,0,none⟩),.string (Aa nm),q4,q5,q6,q7,q8,q9,q10,q11,q12,q13,q14,q15,q16,q17,q18,q19,q20,q21,q22,q23,q24,q25,q26,q27,q28,q29,q30,q31,q32,q33,q34,q35,q36,q37,q38,q39,q40,q41,q42,q43,q44].toArray,[]⟩ W:=by
 have HPS:=Za hps;have HO:=Za ho;have HROW:=Za hrow;have HQ:=Za hQ;clear hps ho hrow hQ
 conv=>arg 2;whnf
 (try dsimp only);refine Fp (by kernel_rfl) (by kernel_rfl) (IY8 p tb ob base nm va vc S ov x l r err W q1 q4 q5 q6 q7 q8 q9 q10 q11 q12 q13 q14 q15 q16 q17 q18 q19 q20 q21 q22 q23 q24 q25 q26 q27 q28 q29 q30 q31 q32 q33 q34 q35 q36) ?_ ?_ ?_
 ·exact⟨none,0,none,0,none,0,0,0,0,q37,q38,q39,q40,q41,q42,q43,q44,⟨(fun h=>by cases h),(fun h=>by cases h),(fun h=>by cases h),(fun h=>by cases h),(fun h=>by cases h),(fun h=>by cases h),(fun h=>by cases h),(fun h=>by cases h),(fun h=>by cases h),(fun h=>by cases h),(fun h=>by cases h),(fun h=>by cases h),(fun h=>by cases h),((AFr.refl p ob base W).old (Zb _ _).drew),(fun _=>HPS.o.old (Zb _ _).drew),(fun h=>by cases h),(fun _=>HO.o.old (Zb _ _).drew),(fun h=>by cases h),(fun _=>HROW.o.old (Zb _ _).drew),(fun h=>by cases h),(fun h=>fun _=>by cases h),(fun h=>fun _=>by cases h),(fun b _ _ _=>rfl)⟩,rfl⟩
 ·intro L act wx k hI hk hl hd
  obtain⟨p1,p2,l1,l2,b1,b2,nb,gn,cn,z37,z38,z39,z40,z41,z42,z43,z44,hV,rfl⟩:=hI;have hk:k=0∨k=1∨k=2∨k=3∨k=4∨k=5∨k=6∨k=7∨k=8:=by
   have:k<9:=hk;omega
  rcases hk with rfl|rfl|rfl|rfl|rfl|rfl|rfl|rfl|rfl
  ·have nl:=kf hV.ord hl
   refine Bc _ rfl rfl (fun K' hK=>?_)
   conv=>arg 2;whnf
   go_wp2_with fail
   exact⟨p1,p2,l1,l2,b1,b2,nb,gn,cn,.pointer (some ⟨ob,1,none⟩),z38,z39,z40,z41,z42,z43,z44,⟨kl nl,kq hV.p5_4,kq hV.p6_4,kq hV.p6_5,kq hV.p8_6,(fun _=>rfl),kc hV.c1,kc hV.c2,kc hV.c3,kc hV.c4,kc hV.c5,kc hV.c6,kc hV.c7,hV.fr,(fun h0=>hV.pa (kb h0)),kc hV.pb,(fun h0=>hV.xo (kb h0)),kl nl,(fun h0=>hV.ra (kb h0)),kc hV.rb,(fun h0=>fun h1=>hV.xa (kb h0) (kb h1)),(fun h0=>fun h1=>hV.g4 (kb h0) (kb h1)),hV.gr⟩,rfl⟩
  ·have nl:=kf hV.ord hl
   have d0:L 0=true:=hd _ rfl ⟨0,.data⟩ (by simp) rfl;obtain rfl:=(hV.c0 d0).symm;have l8:L 8=false:=nl;have ho:=hV.xo l8;have x1:=ho.at 1 _ rfl;refine Bc _ rfl rfl (fun K' hK=>?_)
   conv=>arg 2;whnf
   go_wp2_with fail
   exact⟨p1,p2,l1,l2,b1,b2,nb,gn,cn,.pointer (some ⟨ob,1,none⟩),.slice va S.length vc,z39,z40,z41,z42,z43,z44,⟨kl nl,kq hV.p5_4,kq hV.p6_4,kq hV.p6_5,kq hV.p8_6,kc hV.c0,(fun _=>rfl),kc hV.c2,kc hV.c3,kc hV.c4,kc hV.c5,kc hV.c6,kc hV.c7,hV.fr,(fun h0=>hV.pa (kb h0)),kc hV.pb,(fun h0=>hV.xo (kb h0)),kl nl,(fun h0=>hV.ra (kb h0)),kc hV.rb,(fun h0=>fun h1=>hV.xa (kb h0) (kb h1)),(fun h0=>fun h1=>hV.g4 (kb h0) (kb h1)),hV.gr⟩,rfl⟩
  ·have nl:=kf hV.ord hl
   refine Bc _ rfl rfl (fun K' hK=>?_)
   conv=>arg 2;whnf
   go_wp2_with fail
   exact⟨p1,p2,l1,l2,b1,b2,nb,gn,cn,z37,z38,.pointer (some ⟨p,0,none⟩),z40,z41,z42,z43,z44,⟨kl nl,kq hV.p5_4,kq hV.p6_4,kq hV.p6_5,kq hV.p8_6,kc hV.c0,kc hV.c1,(fun _=>rfl),kc hV.c3,kc hV.c4,kc hV.c5,kc hV.c6,kc hV.c7,hV.fr,(fun h0=>hV.pa (kb h0)),kc hV.pb,(fun h0=>hV.xo (kb h0)),kl nl,(fun h0=>hV.ra (kb h0)),kc hV.rb,(fun h0=>fun h1=>hV.xa (kb h0) (kb h1)),(fun h0=>fun h1=>hV.g4 (kb h0) (kb h1)),hV.gr⟩,rfl⟩
  ·have nl:=kf hV.ord hl
   refine Bc _ rfl rfl (fun K' hK=>?_)
   conv=>arg 2;whnf
   go_wp2_with fail
   exact⟨p1,p2,l1,l2,b1,b2,nb,gn,cn,z37,z38,z39,.string (Aa nm),z41,z42,z43,z44,⟨kl nl,kq hV.p5_4,kq hV.p6_4,kq hV.p6_5,kq hV.p8_6,kc hV.c0,kc hV.c1,kc hV.c2,(fun _=>rfl),kc hV.c4,kc hV.c5,kc hV.c6,kc hV.c7,hV.fr,(fun h0=>hV.pa (kb h0)),kc hV.pb,(fun h0=>hV.xo (kb h0)),kl nl,(fun h0=>hV.ra (kb h0)),kc hV.rb,(fun h0=>fun h1=>hV.xa (kb h0) (kb h1)),(fun h0=>fun h1=>hV.g4 (kb h0) (kb h1)),hV.gr⟩,rfl⟩
  ·have nl:=kf hV.ord hl
   have d2:L 2=true:=hd _ rfl ⟨2,.data⟩ (by simp) rfl;obtain rfl:=(hV.c2 d2).symm;have d3:L 3=true:=hd _ rfl ⟨3,.data⟩ (by simp) rfl;obtain rfl:=(hV.c3 d3).symm;have hps:=hV.pa hl;have l6:L 6=false:=by
    cases e:L 6 with
    |false=>rfl
    |true=>have:=hV.p6_4 e;rw[hl]at this;cases this
   refine Bc _ rfl rfl (fun K' hK=>?_)
   conv=>arg 2;whnf
   have HPX:=Za hps;have HFX:=Za hV.fr;clear hps;go_wp2_with fail
   refine(HFN.o _ HPX.o).mono ?_;intro e w7 he
   cases err with
   |some n=>
    obtain⟨rfl,hf⟩:=he;unfold Bk;have HF:=Za (HFX.o.trans (AFr.of_sfr hf));clear hf hK hV;go_wp2_with fail
    exact HQ.o n _ _ rfl rfl HF.o
   |none=>
   obtain⟨pv,lv,bv,rfl,hf7,hp7,hq1,hq2,hq3⟩:=he;obtain⟨i1,i2,rfl⟩:=Rg hq1;obtain⟨j1,j2,rfl⟩:=Rg hq2;obtain⟨k1,k2,rfl⟩:=hq3.shape;go_wp2_with fail
   exact⟨i1,i2,j1,j2,k1,k2,nb,gn,cn,z37,z38,.pointer (some ⟨p,0,none⟩),.string (Aa nm),.agg #[.string (Aa x.name),.slice (i1) x.params.length (i2),.slice (j1) x.locals.length (j2),.slice (k1) x.body.length (k2)],z42,z43,z44,⟨kl nl,(fun _=>Bb L 4),(fun _=>Bb L 4),kq hV.p6_5,kq hV.p8_6,kc hV.c0,kc hV.c1,kc hV.c2,kc hV.c3,(fun _=>rfl),kc hV.c5,kc hV.c6,kc hV.c7,(hV.fr.trans (AFr.of_sfr hf7)),(ks),(fun _=>hp7),(fun h=>(hV.xo (kb h)).sfr hf7 (by omega)),kl nl,(fun h=>(hV.ra (kb h)).sfr hf7 (by omega)),(fun h=>by rw[Ab L (by decide)]at h;rw[l6]at h;cases h),(fun _ _=>⟨hq1.mono (fun b hb=>⟨by have h1:wx.heap.size≤b:=hb;have h2:=hV.fr.size;omega,fun e=>by have h1:wx.heap.size≤b:=hb;have:=((hV.ra l6).lt _ e).2;omega⟩),hq2.mono (fun b hb=>⟨by have h1:wx.heap.size≤b:=hb;have h2:=hV.fr.size;omega,fun e=>by have h1:wx.heap.size≤b:=hb;have:=((hV.ra l6).lt _ e).2;omega⟩),hq3.mono (fun b hb=>⟨by have h1:wx.heap.size≤b:=hb;have h2:=hV.fr.size;omega,fun e=>by have h1:wx.heap.size≤b:=hb;have:=((hV.ra l6).lt _ e).2;omega⟩)⟩),(fun h1 _=>by have:=hV.p5_4 (kb h1);rw[hl]at this;cases this),(fun b h1 h2 h3=>(hf7.block b (by have:=hV.fr.size;omega) (by omega)).trans (hV.gr b h1 h2 h3))⟩,rfl⟩
  ·have nl:=kf hV.ord hl
   have d4:L 4=true:=hd _ rfl ⟨4,.data⟩ (by simp) rfl;obtain rfl:=(hV.c4 d4).symm;have hal:Below wx.heap.size wx (wx.alloc (.cells #[.string (Aa x.name),.slice p1 x.params.length p2,.slice l1 x.locals.length l2,.slice b1 x.body.length b2] 58)):=bA;have hfs:=hV.fr.size;refine Bc _ rfl rfl (fun K' hK=>?_)
   conv=>arg 2;whnf
   go_wp2_with fail
   exact⟨p1,p2,l1,l2,b1,b2,wx.heap.size,gn,cn,z37,z38,z39,z40,.agg #[.string (Aa x.name),.slice p1 x.params.length p2,.slice l1 x.locals.length l2,.slice b1 x.body.length b2],.slice (some ⟨(wx.heap.size),0,none⟩) 1 1,z43,z44,⟨kl nl,(kd (d4)),kq hV.p6_4,(fun _=>Bb L 5),kq hV.p8_6,kc hV.c0,kc hV.c1,kc hV.c2,kc hV.c3,kc hV.c4,(fun _=>rfl),kc hV.c6,kc hV.c7,(AFr.old (hV.fr) hal),(fun h0=>Ps.old (hV.pa (kb h0)) hal),(fun h0=>Ps.old (hV.pb (kb h0)) hal),(fun h0=>Ae.old (hV.xo (kb h0)) hal),kl nl,(fun h0=>Iq.old (hV.ra (kb h0)) hal),(kn hV.p6_5 hl),(fun h0=>fun h1=>YFp.keep (hV.xa (kb h0) (kb h1)) (Bh hal)),(fun _ _=>⟨Zc wx (Ik ⟨x,.slice p1 x.params.length p2,.slice l1 x.locals.length l2,.slice b1 x.body.length b2⟩) 58,by omega⟩),(fun b h1 h2 h3=>(hal.block b (by omega)).trans ((hV.gr) b h1 h2 h3))⟩,rfl⟩
  ·have nl:=kf hV.ord hl
   have d1:L 1=true:=hd _ rfl ⟨1,.data⟩ (by simp) rfl;obtain rfl:=(hV.c1 d1).symm;have d4:L 4=true:=hd _ rfl ⟨4,.chain⟩ (by simp) rfl;have d5:L 5=true:=hd _ rfl ⟨5,.data⟩ (by simp) rfl;obtain rfl:=(hV.c5 d5).symm;have d4:L 4=true:=hd _ rfl ⟨4,.chain⟩ (by simp) rfl;have hg4:=hV.g4 d5 hl;have hra:=hV.ra hl;have hxa:=hV.xa d4 hl;have hfs:=hV.fr.size;refine Bc _ rfl rfl (fun K' hK=>?_)
   conv=>arg 2;whnf
   refine wp_yfun wx _ _ rfl base S (.slice va S.length vc) rfl hra ⟨x,.slice p1 x.params.length p2,.slice l1 x.locals.length l2,.slice b1 x.body.length b2⟩ hxa (yf_one _ _ _ _ _ _ _ _ _ _) nb 1 rfl hg4.1 hll (Nat.le_trans hbs hfs) ?_;intro g2 cap2 w2 hr2 hg2 ha2 hl2;have hrg:∀k,(Value.slice va S.length vc).ownBlock=some k→base≤k:=fun k e=>(hra.lt k e).1
   go_wp2_with fail
   exact⟨p1,p2,l1,l2,b1,b2,nb,g2,cap2,z37,.slice va S.length vc,z39,z40,z41,.slice (some ⟨nb,0,none⟩) 1 1,.slice (some ⟨(g2),0,none⟩) (S.length+1) (cap2),z44,⟨kl nl,kq hV.p5_4,(kd (d4)),(kd (d5)),(fun _=>Bb L 6),kc hV.c0,kc hV.c1,kc hV.c2,kc hV.c3,kc hV.c4,kc hV.c5,(fun _=>rfl),kc hV.c7,(hV.fr.grown hg2 hrg),(fun h=>by rw[Ab L (by decide)]at h;rw[d4]at h;cases h),(fun _=>(hV.pb d4).grown hg2 hrg (by omega)),(fun h=>(hV.xo (kb h)).grew hg2 (fun e=>by have:=hrg _ e;omega)),kl nl,(ks),(fun _=>⟨hr2,by rcases ha2 with h|h;exact .inl h;exact .inr (by omega)⟩),(fun _=>ks),(fun _=>ks),(fun b h1 h2 h3=>(hg2.block b (by omega) (fun e=>h3 e.symm)).trans (hV.gr b h1 h2 h3))⟩,rfl⟩
  ·have nl:=kf hV.ord hl
   refine Bc _ rfl rfl (fun K' hK=>?_)
   conv=>arg 2;whnf
   go_wp2_with fail
   exact⟨p1,p2,l1,l2,b1,b2,nb,gn,cn,z37,z38,z39,z40,z41,z42,z43,.pointer (some ⟨ob,1,none⟩),⟨kl nl,kq hV.p5_4,kq hV.p6_4,kq hV.p6_5,kq hV.p8_6,kc hV.c0,kc hV.c1,kc hV.c2,kc hV.c3,kc hV.c4,kc hV.c5,kc hV.c6,(fun _=>rfl),hV.fr,(fun h0=>hV.pa (kb h0)),kc hV.pb,(fun h0=>hV.xo (kb h0)),kl nl,(fun h0=>hV.ra (kb h0)),kc hV.rb,(fun h0=>fun h1=>hV.xa (kb h0) (kb h1)),(fun h0=>fun h1=>hV.g4 (kb h0) (kb h1)),hV.gr⟩,rfl⟩
  ·have before:∀j,j<8→L j=true:=fun j hj=>by
    have hj:j=0∨j=1∨j=2∨j=3∨j=4∨j=5∨j=6∨j=7:=by omega
    rcases hj with rfl|rfl|rfl|rfl|rfl|rfl|rfl|rfl
    ·exact hd _ rfl ⟨0,.phase⟩ (by simp) rfl
    ·exact hd _ rfl ⟨1,.phase⟩ (by simp) rfl
    ·exact hd _ rfl ⟨2,.phase⟩ (by simp) rfl
    ·exact hd _ rfl ⟨3,.phase⟩ (by simp) rfl
    ·exact hd _ rfl ⟨4,.phase⟩ (by simp) rfl
    ·exact hd _ rfl ⟨5,.phase⟩ (by simp) rfl
    ·exact hd _ rfl ⟨6,.data⟩ (by simp) rfl
    ·exact hd _ rfl ⟨7,.data⟩ (by simp) rfl
   have d6:L 6=true:=hd _ rfl ⟨6,.data⟩ (by simp) rfl;obtain rfl:=(hV.c6 d6).symm;have d7:L 7=true:=hd _ rfl ⟨7,.data⟩ (by simp) rfl;obtain rfl:=(hV.c7 d7).symm;have hx:=hV.xo hl;have x1:=hx.at 1 _ rfl;have fx:=hx.fz 1;have hxl:=hx.lt;have b4:=before 4 (by decide);have b6:=before 6 (by decide);refine Bc _ rfl rfl (fun K' hK=>?_)
   conv=>arg 2;whnf
   go_wp2_with fail
   exact⟨p1,p2,l1,l2,b1,b2,nb,gn,cn,z37,z38,z39,z40,z41,z42,.slice (some ⟨gn,0,none⟩) (S.length+1) cn,.pointer (some ⟨ob,1,none⟩),⟨(fun _ j hj=>by rw[Ab L (show j≠8 by omega)];exact before j hj),kq hV.p5_4,kq hV.p6_4,kq hV.p6_5,(kd (before 6 (by decide))),kc hV.c0,kc hV.c1,kc hV.c2,kc hV.c3,kc hV.c4,kc hV.c5,kc hV.c6,kc hV.c7,(hV.fr.set _ _),(fun h=>by rw[Ab L (by decide)]at h;rw[b4]at h;cases h),(fun _=>(hV.pb b4).other (by omega) _ _),(ks),(fun _=>hx.set 1 (.slice (some ⟨gn,0,none⟩) (S.length+1) cn)),(fun h=>by rw[Ab L (by decide)]at h;rw[b6]at h;cases h),(fun _=>⟨Iq.low (hV.rb b6).1 hob _ _,(hV.rb b6).2⟩),(fun _ h=>by rw[Ab L (by decide)]at h;rw[b6]at h;cases h),(fun _ h=>by rw[Ab L (by decide)]at h;rw[b6]at h;cases h),(fun b h1 h2 h3=>(Below.heap_setCell _ _ _ _ (show b≠ob by omega)).trans (hV.gr b h1 h2 h3))⟩,rfl⟩
 ·intro L act wx hI hall
  obtain⟨p1,p2,l1,l2,b1,b2,nb,gn,cn,z37,z38,z39,z40,z41,z42,z43,z44,hV,rfl⟩:=hI;obtain rfl:=(hV.c0 (hall 0 (by decide))).symm;obtain rfl:=(hV.c1 (hall 1 (by decide))).symm;obtain rfl:=(hV.c2 (hall 2 (by decide))).symm;obtain rfl:=(hV.c3 (hall 3 (by decide))).symm;obtain rfl:=(hV.c4 (hall 4 (by decide))).symm;obtain rfl:=(hV.c5 (hall 5 (by decide))).symm;obtain rfl:=(hV.c6 (hall 6 (by decide))).symm;obtain rfl:=(hV.c7 (hall 7 (by decide))).symm;exact hM _ _ (Met.intro (hJ _ _ ⟨p1,p2,l1,l2,b1,b2,nb,gn,cn,⟨hV.fr,hV.pb (hall 4 (by decide)),hV.x7 (hall 8 (by decide)),(hV.rb (hall 6 (by decide))).1,(hV.rb (hall 6 (by decide))).2,hV.gr⟩,rfl⟩))
def PrH(B:Nat)(x:Pr)(v:Value)(w:World):Prop:= ∃av fv,v=.agg #[av,fv]∧Bt (B≤ ·) w x.arrays av∧Bw (B≤ ·) w x.funcs fv
theorem Uj:∀(f:Nat) (a:List Bs) (l:List Tk) (x:List Bs) (r:List Tk),Hq f a l=.ok (x,r)→r.length≤l.length
 |0,a,l,x,r,h=>by cases h
 |f+1,a,l,x,r,h=>by
  rw[Hq]at h
  cases h1:Bp [105,110,116] l with
  |none=>rw[h1]at h;injection h with h;injection h with _ h;subst h;exact Nat.le_refl _
  |some q=>
   rw[h1]at h;dsimp only at h
   cases h2:Fa q with
   |error e=>rw[h2]at h;cases h
   |ok z=>
    obtain⟨s,z⟩:=z;rw[h2]at h;dsimp only at h
    cases h3:As [59] z with
    |error e=>rw[h3]at h;cases h
    |ok y=>rw[h3]at h;have:=Uj f _ _ _ _ h;have:=Cm h1;have:=Ih h2;have:=Bm h3;omega
theorem nZ {f:Nat}{l r:List Tk}{x:List Bs}(h:Kg f l=.ok (x,r)):r.length<l.length:=by
 unfold Kg at h
 cases ht:Bp [41] l with
 |some q=>rw[ht]at h;injection h with h;injection h with _ h;subst h;exact Cm ht
 |none=>rw[ht]at h;exact Ss _ _ _ _ _ h
theorem Qg {f:Nat}{s:Bs}{l r:List Tk}{x:Fu}(h:Gm f s l=.ok (x,r)):r.length<l.length:=by
 rw[Ui]at h
 cases h1:Kg f l with
 |error e=>rw[h1]at h;cases h
 |ok q=>
  obtain⟨ps,q⟩:=q;rw[h1]at h;dsimp only at h
  cases h2:As [123] q with
  |error e=>rw[h2]at h;cases h
  |ok z=>
   rw[h2]at h;dsimp only at h;unfold Qn at h
   cases h3:Hq f [] z with
   |error e=>rw[h3]at h;cases h
   |ok y=>
    obtain⟨ls,y⟩:=y;rw[h3]at h;dsimp only at h
    cases h4:Dr f [] y with
    |error e=>rw[h4]at h;cases h
    |ok v=>
     obtain⟨b,v⟩:=v;rw[h4]at h;injection h with h;injection h with _ h;subst h
     have:=nZ h1;have:=Bm h2;have:=Uj _ _ _ _ _ h3;have:=(Mt f).2 _ _ _ _ h4;omega
structure PgI (W:World)(p tb ob base f:Nat)(R:PR Pr)(g:Nat)(aa:Option Addr)(ac:Nat)(as0:List Ar)(fa:Option Addr)(fc:Nat)(ps:List YFv)(l:List Tk)(wr:World):Prop where
 fr:AFr p ob base W wr
 par:Ps wr p tb l
 o:Ae wr ob [.slice aa as0.length ac,.slice fa ps.length fc] 34
 ra:Xa wr base as0 (.slice aa as0.length ac)
 rf:Iq wr base ps (.slice fa ps.length fc)
 ap:∀g,(Value.slice aa as0.length ac).ownBlock=some g→(Value.slice fa ps.length fc).ownBlock≠some g
 nf:ps=[]→fa=none∧fc=0
 len:as0.length+ps.length+l.length≤1000000
 fuel:4*l.length+4≤g
 le:g≤f
 res:Fm g ⟨as0,ps.map (·.x)⟩ l=R
structure PgS (W:World)(p tb ob base:Nat)(aa:Option Addr)(ac:Nat)(as0:List Ar)(fa:Option Addr)(fc:Nat)(ps:List YFv)(l:List Tk)(wr:World):Prop where
 fr:AFr p ob base W wr
 par:Ps wr p tb l
 o:Ae wr ob [.slice aa as0.length ac,.slice fa ps.length fc] 34
 ra:Xa wr base as0 (.slice aa as0.length ac)
 rf:Iq wr base ps (.slice fa ps.length fc)
 ap:∀g,(Value.slice aa as0.length ac).ownBlock=some g→(Value.slice fa ps.length fc).ownBlock≠some g
 nf:ps=[]→fa=none∧fc=0
 len:as0.length+ps.length+l.length≤1000000
section
variable {W:World} {p tb ob base:Nat} {aa:Option Addr} {ac:Nat} {as0:List Ar} {fa:Option Addr} {fc:Nat} {ps:List YFv} {l r:List Tk} {wx w':World}
theorem PgS.old(h:PgS W p tb ob base aa ac as0 fa fc ps l wx)(hb:Below wx.heap.size wx w'):PgS W p tb ob base aa ac as0 fa fc ps l w':=
 ⟨h.fr.old hb,h.par.old hb,h.o.old hb,h.ra.old hb,h.rf.old hb,h.ap,h.nf,h.len⟩
theorem PgS.next(h:PgS W p tb ob base aa ac as0 fa fc ps l wx)(h1:p<ob)(h2:ob<base)(hf:SFr p wx w')(hp:Ps w' p tb r)(hl:r.length≤l.length):PgS W p tb ob base aa ac as0 fa fc ps r w':=
 ⟨h.fr.trans (AFr.of_sfr hf),hp,h.o.sfr hf (by omega),h.ra.sfr hf (by omega),h.rf.sfr hf (by omega),h.ap,h.nf,by have:=h.len;omega⟩
end
theorem xC {f:Nat}{p:Pr}{t:Tk}{r:List Tk}(hk:t.kind=5):Fm (f+1) p (t::r)=.ok (p,t::r):=by
 rw[Fm];have:((t::r).head?.map (·.kind)).getD 0=t.kind:=rfl;rw[this,if_pos hk]
theorem qD {f:Nat}{p:Pr}{t:Tk}{r:List Tk}(hk:t.kind≠5):Fm (f+1) p (t::r)=match Nw (t::r)with
  |.error e=>.error e
  |.ok (s,r)=>match(if p.funcs.isEmpty=true then Bp [91] r else none)with
   |some r=>(match Lv 3 r with
    |.error e=>.error e
    |.ok (t,r)=>match Ie [93] [59] r with
     |.error e=>.error e
     |.ok r=>Fm f {p with arrays:=p.arrays++[⟨s,t.num⟩]} r)
   |none=>match As [40] r with
    |.error e=>.error e
    |.ok r=>match Gm f s r with
     |.error e=>.error e
     |.ok (x,r)=>Fm f {p with funcs:=p.funcs++[x]} r:=by
 rw[Fm];have:((t::r).head?.map (·.kind)).getD 0=t.kind:=rfl;rw[this,if_neg hk];unfold Nw
 cases As [105,110,116] (t::r)with
 |error e=>rfl
 |ok q=>
  dsimp only
  cases Fa q with
  |error e=>rfl
  |ok z=>
   obtain⟨s,z⟩:=z;dsimp only
   cases(if p.funcs.isEmpty=true then Bp [91] z else none)with
   |some y=>
    dsimp only
    cases Lv 3 y with
    |error e=>rfl
    |ok v=>
     obtain⟨t,v⟩:=v;dsimp only;unfold Ie
     cases As [93] v with
     |error e=>rfl
     |ok u=>rfl
   |none=>rfl
theorem jR {s u:Bs}{l r:List Tk}(h:Ie s u l=.ok r):r.length<l.length:=by
 unfold Ie at h
 cases h1:As s l with
 |error e=>rw[h1]at h;cases h
 |ok q=>rw[h1]at h;have:=Bm h1;have:=Bm h;omega
theorem qA(f:Nat)(l:List Tk)(w:World)(p tb:Nat)(hl:4*l.length+4≤f)(h:Ps w p tb l):
  Calls Ze 30 #[.pointer (some ⟨p,0,none⟩)] w (Gu (PrH w.heap.size) w p tb (Fm f ⟨[],[]⟩ l)):=by
 obtain⟨R,hR⟩:∃R,Fm f ⟨[],[]⟩ l=R:=⟨_,rfl⟩;rw[hR];have hb0:Below w.heap.size w (w.alloc (.cells #[.slice none 0 0,.slice none 0 0] 34)):=bA;have ho:=Zc w [.slice none 0 0,.slice none 0 0] 34;have hlen:l.length≤1000000:=by obtain⟨_,_,h2⟩:=h;exact h2.fit
 have hpo:=h.lt;have hp0:=h.old hb0;have hws:(w.alloc (.cells #[.slice none 0 0,.slice none 0 0] 34)).heap.size=w.heap.size+1:=by simp
 have HI0:Hid (PgI (w.alloc (.cells #[.slice none 0 0,.slice none 0 0] 34)) p tb w.heap.size (w.heap.size+1) f R f none 0 [] none 0 [] l (w.alloc (.cells #[.slice none 0 0,.slice none 0 0] 34))):=
  ⟨AFr.refl _ _ _ _,hp0,ho,Io.zero _ _ _ _ _,Iq.zero _ _,(fun g e=>by cases e),fun _=>⟨rfl,rfl⟩,by simpa using hlen,hl,Nat.le_refl _,hR⟩
 have HPO:=Za hpo;have HWS:=Za hws;have HSF:Hid (∀w1,AFr p w.heap.size (w.heap.size+1) (w.alloc (.cells #[.slice none 0 0,.slice none 0 0] 34)) w1→SFr p w w1):=fun w1 hf=>Vo (SFr.of_below hb0) hf (by omega) (Nat.le_refl _)
 clear hR ho hlen hp0 hl h hb0 hws;go_enter func30,ntmps30
 go_wp2_with fail
 obtain⟨W,hW⟩:∃W,w.alloc (.cells #[.slice none 0 0,.slice none 0 0] 34)=W:=⟨_,rfl⟩;rw[hW]at HI0 HWS HSF ⊢;clear hW
 go_loopw [] (fun wr=> ∃(g:Nat) (aa:Option Addr) (ac:Nat) (as0:List Ar) (fa:Option Addr) (fc:Nat) (ps:List YFv) (l:List Tk),Hid (PgI W p tb w.heap.size (w.heap.size+1) f R g aa ac as0 fa fc ps l wr)) (fun wr=>Dv p wr)
 case atStart=>exact⟨f,none,0,[],none,0,[],l,HI0⟩
 case round=>
  obtain⟨g,aa,ac,as0,fa,fc,ps,l,HI⟩:=hrel;clear HI0;obtain⟨t,r,rfl⟩:=HI.o.par.ends.ne;obtain⟨g2,hg2⟩:∃g2,g=g2+1:=⟨g-1,by have:=HI.o.fuel;omega⟩;subst hg2;have HNX:=Za (Ha p tb t r wr HI.o.par)
  by_cases hk:t.kind=5
  ·have hres:Except.ok (⟨as0,ps.map (·.x)⟩,t::r)=R:=by
    rw[←HI.o.res,xC hk]
   subst hres;have k1:(t.kind !=5)=false:=by simp [hk]
   have k2:(t.kind==5)=true:=by simp [hk]
   clear hk;go_wp2_with fail
   refine HNX.o.mono ?_;rintro e w3 ⟨rfl,hb⟩;unfold tkV;have HF:=Za (HSF.o _ (HI.o.fr.old hb));have HP:=Za (HI.o.par.old hb);have hla:as0.length≤1000000:=by have:=HI.o.len;omega
   have hlp:ps.length≤1000000:=by have:=HI.o.len;omega
   have HA:=Za (Xa.ars (HI.o.ra.old hb) hla);have HU:=Za ((HI.o.rf.old hb).fus hlp);have ho:=HI.o.o.old hb;have x0:=ho.at 0 _ rfl;have x1:=ho.at 1 _ rfl;clear hb ho hla hlp;go_wp2_with fail
   have up:∀b,w.heap.size+1≤b→w.heap.size≤b:=fun b hb=>by omega
   exact bodyPost_ret (v:=.agg #[.slice aa as0.length ac,.slice fa ps.length fc]) (by simp [results,results30,go_sem,x0,x1]) rfl ⟨HF.o,_,rfl,HP.o,_,_,rfl,by
    obtain⟨a,cap,b,off,hv,h1,h2,h3,h4⟩:=HA.o;exact⟨a,cap,b,off,hv,h1,h2,h3.imp id (fun q=>⟨q.1,up _ q.2⟩),h4⟩,by
    obtain⟨a,cap,b,off,pv,lv,bv,hv,h1,h2,h3,h4⟩:=HU.o;exact⟨a,cap,b,off,pv,lv,bv,hv,h1,h2,h3.imp id (fun q=>⟨q.1,up _ q.2⟩),fun i hi=>⟨(h4 i hi).1,(h4 i hi).2.1.mono up,(h4 i hi).2.2.1.mono up,(h4 i hi).2.2.2.mono up⟩⟩⟩
  ·have hres:=HI.o.res
   rw[qD hk]at hres;have HRES:=Za hres;have k1:(t.kind !=5)=true:=by simp [hk]
   have k2:(t.kind==5)=false:=by simp [hk]
   have HK5:=Za hk;have HS:Hid (PgS W p tb w.heap.size (w.heap.size+1) aa ac as0 fa fc ps (t::r) wr):=⟨HI.o.fr,HI.o.par,HI.o.o,HI.o.ra,HI.o.rf,HI.o.ap,HI.o.nf,HI.o.len⟩;have hob:w.heap.size<w.heap.size+1:=Nat.lt_succ_self _;have hfu:=HI.o.fuel;have HFU:=Za hfu;have HLE:Hid (g2+1≤f):=HI.o.le;have HML:=Za HI.o.par.len;clear hk hres hfu HI;go_wp2_with fail
   refine HNX.o.mono ?_;rintro e w3 ⟨rfl,hb⟩;unfold tkV;have HS3:=Za (HS.o.old hb);have hba:Below w3.heap.size w3 (w3.alloc (.cells #[.string ⟨#[105,110,116]⟩] 9)):=bA;have HS4:=Za (HS3.o.old hba);have HWN:=Za (De p tb (t::r) [105,110,116] _ HS4.o.par w3.heap.size 1 ((Zc w3 [.string ⟨#[105,110,116]⟩] 9).at 0 _ rfl));clear hb hba;go_wp2_with fail
   refine HWN.o.mono ?_;intro e w5 he
   cases hw:As [105,110,116] (t::r)with
   |error n=>
    rw[hw]at he;obtain⟨hf,rfl⟩:=he;have e2:=HRES.o;unfold Nw at e2;rw[hw]at e2;dsimp only at e2;subst e2;have HF:=Za (HSF.o _ (HS4.o.fr.trans (AFr.of_sfr hf)));clear hw hf;unfold Bk;go_wp2_with fail
    exact⟨rfl,HF.o,rfl⟩
   |ok r1=>
   rw[hw]at he;obtain⟨hf,rfl,hp⟩:=he;have hlw:=Bm hw;have HS5:=Za (HS4.o.next HPO.o hob hf hp (Nat.le_of_lt hlw));have HNM:=Za (Gd p tb r1 w5 hp);have HLW:=Za hlw;have HW1:=Za hw;clear hf hp hw hlw HWN HS3 HS4;go_wp2_with fail
   refine HNM.o.mono ?_;intro e w6 he
   cases hn:Fa r1 with
   |error n=>
    rw[hn]at he;obtain⟨hf,rfl⟩:=he;have e2:=HRES.o;unfold Nw at e2;rw[HW1.o]at e2;dsimp only at e2;rw[hn]at e2;dsimp only at e2;subst e2;have HF:=Za (HSF.o _ (HS5.o.fr.trans (AFr.of_sfr hf)));clear hn hf;unfold Bk;go_wp2_with fail
    exact⟨rfl,HF.o,rfl⟩
   |ok q=>
   obtain⟨s,r2⟩:=q;rw[hn]at he;obtain⟨hf,v,rfl,hp,hv⟩:=he;have hv:v=.string (Aa s):=hv;subst hv;have hln:=Ih hn;have HS6:=Za (HS5.o.next HPO.o hob hf hp (Nat.le_of_lt hln));have e2:=HRES.o;unfold Nw at e2;rw[HW1.o]at e2;dsimp only at e2;rw[hn]at e2;dsimp only at e2;have HRES2:=Za e2;have hlr:r2.length+2≤(t::r).length:=by have:=HLW.o;omega
   have HLR:=Za hlr;clear hf hp hn e2 hlr hln HRES HW1 HLW HNM;obtain⟨u,r3,rfl⟩:=HS6.o.par.ends.ne;have o0:=HS6.o.o.at 0 _ rfl;have o1:=HS6.o.o.at 1 _ rfl
   by_cases hz:ps=[]
   ·subst hz
    obtain⟨rfl,rfl⟩:=HS6.o.nf rfl
    cases hu:isP [91] u with
    |true=>
     have HTK:=Za (Bq p tb u r3 [91] w6 HS6.o.par hu);have e2:=HRES2.o;rw[if_pos (by rfl),An hu]at e2;dsimp only at e2;have HR3:=Za e2;clear hu e2;go_wp2_with fail
     refine HTK.o.mono ?_;rintro e w7 ⟨rfl,hf,hp⟩;have HS7:=Za (HS6.o.next HPO.o hob hf hp (by simp));clear hf hp o0 o1;go_upto_region 5 with(fail)
     have hbs:w.heap.size+1≤w7.heap.size:=by have:=HS7.o.fr.size;have:=HWS.o;omega
     have hll:as0.length≤1000000:=by have:=HS7.o.len;omega
     have hpo:=HPO.o
     cases hy:Lv 3 r3 with
     |error n=>
      have e2:=HR3.o;rw[hy]at e2;dsimp only at e2;subst e2;refine wp_mono (Q:=Exit.then (Met (RY5 p tb w.heap.size (w.heap.size+1) s aa ac as0 (.slice none 0 0) t r3 [] (some n) w7 _ _ _ _ _ _ _ _ _ _ _ _ _ _ _ _ _ _ _ _ _ _ _ _ _ _ _ _ _ _ _ _)) _) (tA p tb w.heap.size (w.heap.size+1) s aa ac as0 (.slice none 0 0) t r3 [] (some n) w7 HS7.o.par HS7.o.o HS7.o.ra hpo hob hbs hll (fun w1 h1=>by have h2:=Nt p tb r3 3 (by decide) w1 h1;rw[hy]at h2;exact h2.mono (fun e w2 h=>⟨h.2,h.1⟩)) (fun e a' w'=> ∃n',e=.panic [{v:=.iface 110 (.agg #[.int .i64 n']),recovered:=false}]∧n=n'∧a'.defers=[]∧AFr p w.heap.size (w.heap.size+1) w7 w') (fun n' a' w' hn hd hf=>by injection hn with hn;exact⟨n',rfl,hn,hd,hf⟩) _ _ _ _ _ _ _ _ _ _ _ _ _ _ _ _ _ _ _ _ _ _ _ _ _ _ _ _ _ _ _ _ _ _ _ _ _ _ _ _ _ _ _ _ (fun _ _ q=>q) (fun _ _ q=>q)) ?_;intro e a' w' hq
      cases e with
      |normal=>
       obtain⟨nb,gn,cn,⟨_,hp,_⟩,_⟩:=(show RY5 p tb w.heap.size (w.heap.size+1) s aa ac as0 (.slice none 0 0) t r3 [] (some n) w7 _ _ _ _ _ _ _ _ _ _ _ _ _ _ _ _ _ _ _ _ _ _ _ _ _ _ _ _ _ _ _ _ a' w' from hq);exact hp.ends.elim
      |panic ch=>
       obtain⟨n2,he,rfl,hd,hf⟩:=hq;injection he with he
       subst he;exact⟨hd,HSF.o _ (HS7.o.fr.trans hf),rfl⟩
      |_=>
       obtain⟨n2,he,_⟩:=hq
       cases he
     |ok q=>
      obtain⟨t4,r4⟩:=q;have e2:=HR3.o;rw[hy]at e2;dsimp only at e2;have HR4:=Za e2;have hl4:=bY hy;have HL4:=Za hl4;refine wp_cut (fun a' w'=>RY5 p tb w.heap.size (w.heap.size+1) s aa ac as0 (.slice none 0 0) t4 r3 r4 none w7 _ _ _ _ _ _ _ _ _ _ _ _ _ _ _ _ _ _ _ _ _ _ _ _ _ _ _ _ _ _ _ _ a' w') ?rest (fun J K' hJ hM=>tA p tb w.heap.size (w.heap.size+1) s aa ac as0 (.slice none 0 0) t4 r3 r4 none w7 HS7.o.par HS7.o.o HS7.o.ra hpo hob hbs hll (fun w1 h1=>by have h2:=Nt p tb r3 3 (by decide) w1 h1;rw[hy]at h2;exact h2.mono (fun e w2 h=>by obtain⟨hf,v,rfl,hp,hv⟩:=h;have hv:v=tkV t4:=hv;subst hv;exact⟨rfl,hf,hp⟩)) _ (fun n' a' w' hn=>by cases hn) _ _ _ _ _ _ _ _ _ _ _ _ _ _ _ _ _ _ _ _ _ _ _ _ _ _ _ _ _ _ _ _ _ _ _ _ _ _ _ _ _ _ J K' hJ hM)
      case rest=>
       rintro a' w8 ⟨nb,gn,cn,⟨h1,h2,h3,h4⟩,rfl⟩;have hl1:(as0++[(⟨s,t4.num⟩:Ar)]).length=as0.length+1:=by simp
       have HS8:Hid (PgS W p tb w.heap.size (w.heap.size+1) (some ⟨gn,0,none⟩) cn (as0++[(⟨s,t4.num⟩:Ar)]) none 0 [] r4 w8):=by
        refine⟨HS7.o.fr.trans h1,h2,?_,?_,Iq.zero _ _,?_,fun _=>⟨rfl,rfl⟩,?_⟩
        ·rw[hl1];exact h3
        ·rw[hl1];exact h4
        ·intro g _ e2;cases e2
        ·have:=HS7.o.len
         simp only[List.length_nil]at this ⊢;rw[hl1];omega
       have hba:Below w8.heap.size w8 (w8.alloc (.cells #[.string ⟨#[93]⟩,.string ⟨#[59]⟩] 9)):=bA;have HS9:=Za (HS8.o.old hba);have hwp:w8.heap.size≠p:=by have:=HS8.o.par.lt;omega
       have HWN:=Za (Rb p tb r4 [93] [59] _ (HS8.o.old hba).par w8.heap.size 2 ((Zc w8 [.string ⟨#[93]⟩,.string ⟨#[59]⟩] 9).at 0 _ rfl) ((Zc w8 [.string ⟨#[93]⟩,.string ⟨#[59]⟩] 9).at 1 _ rfl) hwp);clear h1 h2 h3 h4 hl1 hba hwp hy e2 hl4 hbs hll hpo;go_wp2_with fail
       refine HWN.o.mono ?_;intro e w10 he
       cases hw:Ie [93] [59] r4 with
       |error n=>
        rw[hw]at he;obtain⟨hf,rfl⟩:=he;have e2:=HR4.o;rw[hw]at e2;dsimp only at e2;subst e2;have HF:=Za (HSF.o _ (HS9.o.fr.trans (AFr.of_sfr hf)));clear hw hf;unfold Bk;go_wp2_with fail
        exact⟨rfl,HF.o,rfl⟩
       |ok r5=>
        rw[hw]at he;obtain⟨hf,rfl,hp⟩:=he;have hl5:=jR hw;have hS:=HS9.o.next HPO.o hob hf hp (Nat.le_of_lt hl5);have e2:=HR4.o;rw[hw]at e2;dsimp only at e2;have HI9:Hid (PgI W p tb w.heap.size (w.heap.size+1) f R g2 (some ⟨gn,0,none⟩) cn (as0++[(⟨s,t4.num⟩:Ar)]) none 0 [] r5 w10):=⟨hS.fr,hS.par,hS.o,hS.ra,hS.rf,hS.ap,hS.nf,hS.len,by have:=HFU.o;have:=HLR.o;have:=HL4.o;simp only[Zd]at*;omega,Nat.le_of_succ_le HLE.o,e2⟩;have hm:Dv p w10<Dv p wr:=by
         rw[HI9.o.par.len,HML.o];have:=HLR.o;have:=HL4.o;simp only[Zd]at*;omega
        have HM:=Za hm;clear hf hp hw hl5 hS e2 hm;go_wp2_with fail
        go_roundw
        case rel=>exact⟨g2,_,_,_,_,_,_,r5,HI9⟩
        case measure=>exact HM.o
    |false=>
     have HTK:=Za (Aj p tb u r3 [91] w6 HS6.o.par hu);have e2:=HRES2.o;rw[if_pos (by rfl),Af hu]at e2;dsimp only at e2;have HR3:=Za e2;clear hu e2;go_wp2_with fail
     refine HTK.o.mono ?_;rintro e w7 ⟨rfl,hb⟩;have HS7:=Za (HS6.o.old hb);clear hb o0 o1;have hba:Below w7.heap.size w7 (w7.alloc (.cells #[.string ⟨#[40]⟩] 9)):=bA;have HS8:=Za (HS7.o.old hba);have HWN:=Za (De p tb (u::r3) [40] _ (HS7.o.old hba).par w7.heap.size 1 ((Zc w7 [.string ⟨#[40]⟩] 9).at 0 _ rfl));clear hba;go_wp2_with fail
     refine HWN.o.mono ?_;intro e w9 he
     cases hw:As [40] (u::r3)with
     |error n=>
      rw[hw]at he;obtain⟨hf,rfl⟩:=he;have e2:=HR3.o;rw[hw]at e2;dsimp only at e2;subst e2;have HF:=Za (HSF.o _ (HS8.o.fr.trans (AFr.of_sfr hf)));clear hw hf;unfold Bk;go_wp2_with fail
      exact⟨rfl,HF.o,rfl⟩
     |ok r4=>
     rw[hw]at he;obtain⟨hf,rfl,hp⟩:=he;have hl4:=Bm hw;have HS9:=Za (HS8.o.next HPO.o hob hf hp (Nat.le_of_lt hl4));have e2:=HR3.o;rw[hw]at e2;dsimp only at e2;have HR4:=Za e2;have HL4:=Za hl4;clear hf hp hw e2 hl4 HWN HS8;go_upto_region 8 with(fail)
     have hbs:w.heap.size+1≤w9.heap.size:=by have:=HS9.o.fr.size;have:=HWS.o;omega
     have hll:([]:List YFv).length≤1000000:=by have:=HS9.o.len;omega
     have hpo:=HPO.o;have hfn:4*r4.length+2≤g2:=by have:=HFU.o;have:=HLR.o;have:=HL4.o;simp only[Zd]at*;omega
     cases hy:Gm g2 s r4 with
     |error n=>
      have e2:=HR4.o;rw[hy]at e2;dsimp only at e2;subst e2;refine wp_mono (Q:=Exit.then (Met (RY8 p tb w.heap.size (w.heap.size+1) s none 0 ([]:List YFv) (.slice aa as0.length ac) ⟨[],[],[],[]⟩ r4 [] (some n) w9 _ _ _ _ _ _ _ _ _ _ _ _ _ _ _ _ _ _ _ _ _ _ _ _ _ _ _ _ _ _ _ _ _ _)) _) (cR p tb w.heap.size (w.heap.size+1) s none 0 ([]:List YFv) (.slice aa as0.length ac) ⟨[],[],[],[]⟩ r4 [] (some n) w9 HS9.o.par HS9.o.o HS9.o.rf hpo hob hbs hll (fun w1 h1=>by have h2:=Rx g2 s r4 w1 p tb hfn h1;rw[hy]at h2;exact h2.mono (fun e w2 h=>⟨h.2,h.1⟩)) (fun e a' w'=> ∃n',e=.panic [{v:=.iface 110 (.agg #[.int .i64 n']),recovered:=false}]∧n=n'∧a'.defers=[]∧AFr p w.heap.size (w.heap.size+1) w9 w') (fun n' a' w' hn hd hf=>by injection hn with hn;exact⟨n',rfl,hn,hd,hf⟩) _ _ _ _ _ _ _ _ _ _ _ _ _ _ _ _ _ _ _ _ _ _ _ _ _ _ _ _ _ _ _ _ _ _ _ _ _ _ _ _ _ _ _ _ (fun _ _ q=>q) (fun _ _ q=>q)) ?_;intro e a' w' hq
      cases e with
      |normal=>
       obtain⟨_,_,_,_,_,_,nb,gn,cn,⟨_,hp,_⟩,_⟩:=(show RY8 p tb w.heap.size (w.heap.size+1) s none 0 ([]:List YFv) (.slice aa as0.length ac) ⟨[],[],[],[]⟩ r4 [] (some n) w9 _ _ _ _ _ _ _ _ _ _ _ _ _ _ _ _ _ _ _ _ _ _ _ _ _ _ _ _ _ _ _ _ _ _ a' w' from hq);exact hp.ends.elim
      |panic ch=>
       obtain⟨n2,he,rfl,hd,hf⟩:=hq;injection he with he
       subst he;exact⟨hd,HSF.o _ (HS9.o.fr.trans hf),rfl⟩
      |_=>
       obtain⟨n2,he,_⟩:=hq
       cases he
     |ok q=>
      obtain⟨x,r5⟩:=q;have e2:=HR4.o;rw[hy]at e2;dsimp only at e2;have HR5:=Za e2;have hl5:=Qg hy;have HL5:=Za hl5;refine wp_mono (Q:=Exit.then (Met (RY8 p tb w.heap.size (w.heap.size+1) s none 0 ([]:List YFv) (.slice aa as0.length ac) x r4 r5 none w9 _ _ _ _ _ _ _ _ _ _ _ _ _ _ _ _ _ _ _ _ _ _ _ _ _ _ _ _ _ _ _ _ _ _)) (fun _ _ _=>False)) (cR p tb w.heap.size (w.heap.size+1) s none 0 ([]:List YFv) (.slice aa as0.length ac) x r4 r5 none w9 HS9.o.par HS9.o.o HS9.o.rf hpo hob hbs hll (fun w1 h1=>by have h2:=Rx g2 s r4 w1 p tb hfn h1;rw[hy]at h2;exact h2.mono (fun e w2 h=>by obtain⟨hf,v,rfl,hp,pv,lv,bv,rfl,i1,i2,i3⟩:=h;exact⟨pv,lv,bv,rfl,hf,hp,i1,i2,i3⟩)) (fun _ _ _=>False) (fun n' a' w' hn=>by cases hn) _ _ _ _ _ _ _ _ _ _ _ _ _ _ _ _ _ _ _ _ _ _ _ _ _ _ _ _ _ _ _ _ _ _ _ _ _ _ _ _ _ _ _ _ (fun _ _ q=>q) (fun _ _ q=>q)) ?_;intro e a' w10 hq
      cases e with
      |normal=>
       obtain⟨p1,p2,l1,l2,b1,b2,nb,gn,cn,⟨h1,h2,h3,h4,h5,h6⟩,rfl⟩:=(show RY8 p tb w.heap.size (w.heap.size+1) s none 0 ([]:List YFv) (.slice aa as0.length ac) x r4 r5 none w9 _ _ _ _ _ _ _ _ _ _ _ _ _ _ _ _ _ _ _ _ _ _ _ _ _ _ _ _ _ _ _ _ _ _ a' w10 from hq);have hl1:(([]:List YFv)++[(⟨x,.slice p1 x.params.length p2,.slice l1 x.locals.length l2,.slice b1 x.body.length b2⟩:YFv)]).length=([]:List YFv).length+1:=by simp
       have hra:=HS9.o.ra.gr h6 (fun g e e2=>HS9.o.ap g e e2);have HI10:Hid (PgI W p tb w.heap.size (w.heap.size+1) f R g2 aa ac as0 (some ⟨gn,0,none⟩) cn (([]:List YFv)++[(⟨x,.slice p1 x.params.length p2,.slice l1 x.locals.length l2,.slice b1 x.body.length b2⟩:YFv)]) r5 w10):=by
        refine⟨HS9.o.fr.trans h1,h2,?_,hra,?_,?_,?_,?_,?_,Nat.le_of_succ_le HLE.o,?_⟩
        ·rw[hl1];exact h3
        ·rw[hl1];exact h4
        ·intro g e e2
         rw[hl1]at e2;have e2:gn=g:=by injection e2
         subst e2;rcases h5 with h5|h5
         ·exact HS9.o.ap _ e h5
         ·have:=(HS9.o.ra.lt _ e).2;omega
        ·intro e
         exact absurd e (by simp)
        ·have:=HS9.o.len
         rw[hl1];omega
        ·have:=HFU.o;have:=HLR.o;have:=HL4.o;simp only[Zd]at*;omega
        ·rw[List.map_append];exact HR5.o
       have hm:Dv p w10<Dv p wr:=by
        rw[HI10.o.par.len,HML.o];have:=HLR.o;have:=HL4.o;simp only[Zd]at*;omega
       have HM:=Za hm;clear hq h1 h2 h3 h4 h5 h6 hl1 hra hy e2 hl5 hbs hll hpo hm hfn;go_wp2_with fail
       go_roundw
       case rel=>exact⟨g2,_,_,_,_,_,_,r5,HI10⟩
       case measure=>exact HM.o
      |_=>exact False.elim hq
   ·have hzl:¬ps.length=0:=fun e=>hz (List.length_eq_zero_iff.1 e)
    have hzI:((ps.length:Int)==0)=false:=by simp [hz]
    have hzJ:¬(ps.length:Int)=0:=by omega
    have e2:=HRES2.o;rw[if_neg (by rw[List.isEmpty_iff,List.map_eq_nil_iff];exact hz)]at e2;dsimp only at e2;have HR3:=Za e2;have HS7:=HS6;obtain⟨w7,hw7⟩:∃w7,w7=w6:=⟨_,rfl⟩;subst hw7;clear e2 hz;have hba:Below w7.heap.size w7 (w7.alloc (.cells #[.string ⟨#[40]⟩] 9)):=bA;have HS8:=Za (HS7.o.old hba);have HWN:=Za (De p tb (u::r3) [40] _ (HS7.o.old hba).par w7.heap.size 1 ((Zc w7 [.string ⟨#[40]⟩] 9).at 0 _ rfl));clear hba;go_wp2_with fail
    refine HWN.o.mono ?_;intro e w9 he
    cases hw:As [40] (u::r3)with
    |error n=>
     rw[hw]at he;obtain⟨hf,rfl⟩:=he;have e2:=HR3.o;rw[hw]at e2;dsimp only at e2;subst e2;have HF:=Za (HSF.o _ (HS8.o.fr.trans (AFr.of_sfr hf)));clear hw hf;unfold Bk;go_wp2_with fail
     exact⟨rfl,HF.o,rfl⟩
    |ok r4=>
    rw[hw]at he;obtain⟨hf,rfl,hp⟩:=he;have hl4:=Bm hw;have HS9:=Za (HS8.o.next HPO.o hob hf hp (Nat.le_of_lt hl4));have e2:=HR3.o;rw[hw]at e2;dsimp only at e2;have HR4:=Za e2;have HL4:=Za hl4;clear hf hp hw e2 hl4 HWN HS8;go_upto_region 8 with(fail)
    have hbs:w.heap.size+1≤w9.heap.size:=by have:=HS9.o.fr.size;have:=HWS.o;omega
    have hll:ps.length≤1000000:=by have:=HS9.o.len;omega
    have hpo:=HPO.o;have hfn:4*r4.length+2≤g2:=by have:=HFU.o;have:=HLR.o;have:=HL4.o;simp only[Zd]at*;omega
    cases hy:Gm g2 s r4 with
    |error n=>
     have e2:=HR4.o;rw[hy]at e2;dsimp only at e2;subst e2;refine wp_mono (Q:=Exit.then (Met (RY8 p tb w.heap.size (w.heap.size+1) s fa fc ps (.slice aa as0.length ac) ⟨[],[],[],[]⟩ r4 [] (some n) w9 _ _ _ _ _ _ _ _ _ _ _ _ _ _ _ _ _ _ _ _ _ _ _ _ _ _ _ _ _ _ _ _ _ _)) _) (cR p tb w.heap.size (w.heap.size+1) s fa fc ps (.slice aa as0.length ac) ⟨[],[],[],[]⟩ r4 [] (some n) w9 HS9.o.par HS9.o.o HS9.o.rf hpo hob hbs hll (fun w1 h1=>by have h2:=Rx g2 s r4 w1 p tb hfn h1;rw[hy]at h2;exact h2.mono (fun e w2 h=>⟨h.2,h.1⟩)) (fun e a' w'=> ∃n',e=.panic [{v:=.iface 110 (.agg #[.int .i64 n']),recovered:=false}]∧n=n'∧a'.defers=[]∧AFr p w.heap.size (w.heap.size+1) w9 w') (fun n' a' w' hn hd hf=>by injection hn with hn;exact⟨n',rfl,hn,hd,hf⟩) _ _ _ _ _ _ _ _ _ _ _ _ _ _ _ _ _ _ _ _ _ _ _ _ _ _ _ _ _ _ _ _ _ _ _ _ _ _ _ _ _ _ _ _ (fun _ _ q=>q) (fun _ _ q=>q)) ?_;intro e a' w' hq
     cases e with
     |normal=>
      obtain⟨_,_,_,_,_,_,nb,gn,cn,⟨_,hp,_⟩,_⟩:=(show RY8 p tb w.heap.size (w.heap.size+1) s fa fc ps (.slice aa as0.length ac) ⟨[],[],[],[]⟩ r4 [] (some n) w9 _ _ _ _ _ _ _ _ _ _ _ _ _ _ _ _ _ _ _ _ _ _ _ _ _ _ _ _ _ _ _ _ _ _ a' w' from hq);exact hp.ends.elim
     |panic ch=>
      obtain⟨n2,he,rfl,hd,hf⟩:=hq;injection he with he
      subst he;exact⟨hd,HSF.o _ (HS9.o.fr.trans hf),rfl⟩
     |_=>
      obtain⟨n2,he,_⟩:=hq
      cases he
    |ok q=>
     obtain⟨x,r5⟩:=q;have e2:=HR4.o;rw[hy]at e2;dsimp only at e2;have HR5:=Za e2;have hl5:=Qg hy;have HL5:=Za hl5;refine wp_mono (Q:=Exit.then (Met (RY8 p tb w.heap.size (w.heap.size+1) s fa fc ps (.slice aa as0.length ac) x r4 r5 none w9 _ _ _ _ _ _ _ _ _ _ _ _ _ _ _ _ _ _ _ _ _ _ _ _ _ _ _ _ _ _ _ _ _ _)) (fun _ _ _=>False)) (cR p tb w.heap.size (w.heap.size+1) s fa fc ps (.slice aa as0.length ac) x r4 r5 none w9 HS9.o.par HS9.o.o HS9.o.rf hpo hob hbs hll (fun w1 h1=>by have h2:=Rx g2 s r4 w1 p tb hfn h1;rw[hy]at h2;exact h2.mono (fun e w2 h=>by obtain⟨hf,v,rfl,hp,pv,lv,bv,rfl,i1,i2,i3⟩:=h;exact⟨pv,lv,bv,rfl,hf,hp,i1,i2,i3⟩)) (fun _ _ _=>False) (fun n' a' w' hn=>by cases hn) _ _ _ _ _ _ _ _ _ _ _ _ _ _ _ _ _ _ _ _ _ _ _ _ _ _ _ _ _ _ _ _ _ _ _ _ _ _ _ _ _ _ _ _ (fun _ _ q=>q) (fun _ _ q=>q)) ?_;intro e a' w10 hq
     cases e with
     |normal=>
      obtain⟨p1,p2,l1,l2,b1,b2,nb,gn,cn,⟨h1,h2,h3,h4,h5,h6⟩,rfl⟩:=(show RY8 p tb w.heap.size (w.heap.size+1) s fa fc ps (.slice aa as0.length ac) x r4 r5 none w9 _ _ _ _ _ _ _ _ _ _ _ _ _ _ _ _ _ _ _ _ _ _ _ _ _ _ _ _ _ _ _ _ _ _ a' w10 from hq);have hl1:(ps++[(⟨x,.slice p1 x.params.length p2,.slice l1 x.locals.length l2,.slice b1 x.body.length b2⟩:YFv)]).length=ps.length+1:=by simp
      have hra:=HS9.o.ra.gr h6 (fun g e e2=>HS9.o.ap g e e2);have HI10:Hid (PgI W p tb w.heap.size (w.heap.size+1) f R g2 aa ac as0 (some ⟨gn,0,none⟩) cn (ps++[(⟨x,.slice p1 x.params.length p2,.slice l1 x.locals.length l2,.slice b1 x.body.length b2⟩:YFv)]) r5 w10):=by
       refine⟨HS9.o.fr.trans h1,h2,?_,hra,?_,?_,?_,?_,?_,Nat.le_of_succ_le HLE.o,?_⟩
       ·rw[hl1];exact h3
       ·rw[hl1];exact h4
       ·intro g e e2
        rw[hl1]at e2;have e2:gn=g:=by injection e2
        subst e2;rcases h5 with h5|h5
        ·exact HS9.o.ap _ e h5
        ·have:=(HS9.o.ra.lt _ e).2;omega
       ·intro e
        exact absurd e (by simp)
       ·have:=HS9.o.len
        rw[hl1];omega
       ·have:=HFU.o;have:=HLR.o;have:=HL4.o;simp only[Zd]at*;omega
       ·rw[List.map_append];exact HR5.o
      have hm:Dv p w10<Dv p wr:=by
       rw[HI10.o.par.len,HML.o];have:=HLR.o;have:=HL4.o;simp only[Zd]at*;omega
      have HM:=Za hm;clear hq h1 h2 h3 h4 h5 h6 hl1 hra hy e2 hl5 hbs hll hpo hm hfn;go_wp2_with fail
      go_roundw
      case rel=>exact⟨g2,_,_,_,_,_,_,r5,HI10⟩
      case measure=>exact HM.o
     |_=>exact False.elim hq
end Go.Proofs.YtcfpfnoldgnloaaGreatDoor
