/-
  Rows that the parser's methods append to, beside the parser and one variable; what else stays.
-/
import Derived.Test.YtcfpfnoldgnloaaGreatDoorBk04
import Derived.Laws.OwnMore
set_option linter.unusedVariables false
set_option linter.unusedSimpArgs false
namespace Go.Proofs.YtcfpfnoldgnloaaGreatDoor
open Go.RowKit
set_option maxHeartbeats 20000000
set_option maxRecDepth 100000
open Go.Lib renaming hid→Za
open Go.Proofs.Tryz renaming prog→Zb
open aG renaming new→Zc
open Nat renaming le_trans→Zd
open SFr renaming of_below→Ze
open Below renaming refl→Zf
structure AFr (p ob base:Nat)(w w':World):Prop where
 os:w'.os=w.os
 tape:w'.tape=w.tape
 output:w'.output=w.output
 size:w.heap.size≤w'.heap.size
 block:∀k,k<w.heap.size→k<base→k≠p→k≠ob→w'.heap[k]? =w.heap[k]?
section
variable {p ob base:Nat} {u v w:World}
theorem AFr.refl(p ob base:Nat)(w:World):AFr p ob base w w:=⟨rfl,rfl,rfl,Nat.le_refl _,fun _ _ _ _ _=>rfl⟩
theorem AFr.trans(h:AFr p ob base u v)(k:AFr p ob base v w):AFr p ob base u w:=
 ⟨k.os.trans h.os,k.tape.trans h.tape,k.output.trans h.output,Zd h.size k.size,fun i hi hb h1 h2=>(k.block i (Nat.lt_of_lt_of_le hi h.size) hb h1 h2).trans (h.block i hi hb h1 h2)⟩
theorem AFr.of_sfr(h:SFr p v w):AFr p ob base v w:=⟨h.os,h.tape,h.output,h.size,fun k hk _ h1 _=>h.block k hk h1⟩
theorem AFr.of_below(h:Below v.heap.size v w):AFr p ob base v w:=AFr.of_sfr (Ze h)
theorem AFr.old(h:AFr p ob base u v)(hb:Below v.heap.size v w):AFr p ob base u w:=h.trans (AFr.of_below hb)
theorem AFr.set(h:AFr p ob base u v)(i:Nat)(x:Value):AFr p ob base u (v.setCell ⟨ob,i,none⟩ x):=
 ⟨h.os,h.tape,h.output,by simpa [World.setCell]using h.size,fun k hk hb h1 h2=>(Below.heap_setCell _ _ _ _ (show k≠ob from h2)).trans (h.block k hk hb h1 h2)⟩
theorem AFr.high(h:AFr p ob base u v){g:Nat}(hg:base≤g)(i:Nat)(x:Value):AFr p ob base u (v.setCell ⟨g,i,none⟩ x):=
 ⟨h.os,h.tape,h.output,by simpa [World.setCell]using h.size,fun k hk hb h1 h2=>(Below.heap_setCell _ _ _ _ (show k≠g by omega)).trans (h.block k hk hb h1 h2)⟩
theorem AFr.grown(h:AFr p ob base u v){row:Option Nat}(hg:v.grownBy w row)(hr:∀k,row=some k→base≤k):AFr p ob base u w:=
 ⟨hg.os.trans h.os,hg.tape.trans h.tape,hg.output.trans h.output,Zd h.size hg.size,fun k hk hb h1 h2=>(hg.block k (Nat.lt_of_lt_of_le hk h.size) (fun e=>by have:=hr k e.symm;omega)).trans (h.block k hk hb h1 h2)⟩
theorem aG.afr {b:Nat}{cs:List Value}{T:TypeId}(h:aG v b cs T)(hf:AFr p ob base v w)(h1:b<base)(h2:b≠p)(h3:b≠ob):aG w b cs T:=(hf.block b h.lt h1 h2 h3).trans h
theorem aG.grew {b:Nat}{cs:List Value}{T:TypeId}(h:aG v b cs T){row:Option Nat}(hg:v.grownBy w row)(hr:row≠some b):aG w b cs T:=(hg.block b h.lt (fun e=>hr e.symm)).trans h
end
theorem Ps.grown {w w':World}{p tb:Nat}{l:List Tk}(h:Ps w p tb l){row:Option Nat}(hg:w.grownBy w' row){base:Nat}(hr:∀k,row=some k→base≤k)(hp:p<base):Ps w' p tb l:=by
 obtain⟨o,cap,h⟩:=h;have hl:=h.lt;refine⟨o,cap,h.own.grew hg (fun e=>by have:=hr p e;omega),h.row.keep (fun b off x hb hx=> ?_),h.hcap,h.fit,h.lt,h.ends,h.nums⟩;have hb:b=tb:=hb;rw[World.cell?_of_block (w:=w) (hg.block b (World.block_lt_of_cell? _ _ hx) (fun e=>by have:=hr b e.symm;omega))];exact hx
theorem bG.sfrB {p:Nat}{w w':World}{base:Nat}{ps:List (Ex ×Value)}{v:Value}(h:bG w base ps v)(hf:SFr p w w')(hp:p<base):bG w' base ps v:=h.keep (fun k h1 h2=>hf.block k h1 (by omega))
theorem bG.old {w w':World}{base:Nat}{ps:List (Ex ×Value)}{v:Value}(h:bG w base ps v)(hb:Below w.heap.size w w'):bG w' base ps v:=h.keep (fun k h1 _=>hb.block k h1)
theorem bG.low {w:World}{base:Nat}{ps:List (Ex ×Value)}{v:Value}(h:bG w base ps v){k:Nat}(hk:k<base)(i:Nat)(x:Value):bG (w.setCell ⟨k,i,none⟩ x) base ps v:=h.keep (fun j _ h2=>Below.heap_setCell _ _ _ _ (show j≠k by omega))
theorem bG.rowGe {w:World}{base:Nat}{ps:List (Ex ×Value)}{v:Value}(h:bG w base ps v):∀k,v.ownBlock=some k→base≤k:=fun k e=>(World.ownsRow.lt h.1 k e).1
theorem bG.yshape {w:World}{base:Nat}{ps:List (Ex ×Value)}{v:Value}(h:bG w base ps v):∃a cap,v= .slice a ps.length cap:=by
 rcases h.1.2 with⟨rfl,h0⟩|⟨g,cap,cur,rfl,_⟩
 ·exact⟨none,0,by rw[h0]⟩
 ·exact⟨_,_,rfl⟩
def exZ:Ex:= .mk 0 0 0 [] []
theorem bG.setLast {w:World}{base g cap:Nat}{ps:List (Ex ×Value)}{zv:Value}{z:Ex}(h:bG w base (ps++[(z,zv)]) (.slice (some ⟨g,0,none⟩) (ps.length+1) cap)){x:Ex}{s:Value}(hx:aJ (fun b=>base≤b∧b≠g) w x.args s)(hn:I64 x.n):
  bG (((((w.setCell ⟨g,ps.length*5,none⟩ (.int .i64 x.kind)).setCell ⟨g,ps.length*5+1,none⟩ (.int .i64 x.op)).setCell ⟨g,ps.length*5+2,none⟩ (.int .i64 x.n)).setCell ⟨g,ps.length*5+3,none⟩ (.string (aB x.name))).setCell ⟨g,ps.length*5+4,none⟩ s) base (ps++[(x,s)]) (.slice (some ⟨g,0,none⟩) (ps.length+1) cap):=by
 have hl:(ps++[(z,zv)]).length=ps.length+1:=by simp
 have h0:=h.1;rw[hl]at h0;have h1:=((((h0.stored (ps.length*5) (.int .i64 x.kind)).1.stored (ps.length*5+1) (.int .i64 x.op)).1.stored (ps.length*5+2) (.int .i64 x.n)).1.stored (ps.length*5+3) (.string (aB x.name))).1.stored (ps.length*5+4) s;have hf:(((((cz (ps++[(z,zv)])).set (ps.length*5) (.int .i64 x.kind)).set (ps.length*5+1) (.int .i64 x.op)).set (ps.length*5+2) (.int .i64 x.n)).set (ps.length*5+3) (.string (aB x.name))).set (ps.length*5+4) s=cz (ps++[(x,s)]):=by
  rw[kN,kN];have hq:=kJ ps;rw[←hq];simp [cz,aj,List.set_append]
 rw[hf]at h1;have hk:cd (fun b=>base≤b∧b≠g) w (((((w.setCell ⟨g,ps.length*5,none⟩ (.int .i64 x.kind)).setCell ⟨g,ps.length*5+1,none⟩ (.int .i64 x.op)).setCell ⟨g,ps.length*5+2,none⟩ (.int .i64 x.n)).setCell ⟨g,ps.length*5+3,none⟩ (.string (aB x.name))).setCell ⟨g,ps.length*5+4,none⟩ s):=by
  have hng:¬(base≤g∧g≠g):=fun e=>e.2 rfl
  exact((((aN w hng _ _).trans (aN _ hng _ _)).trans (aN _ hng _ _)).trans (aN _ hng _ _)).trans (aN _ hng _ _)
 have hl2:(ps++[(x,s)]).length=ps.length+1:=by simp
 refine⟨by rw[hl2];exact h1.1,fun q hq=> ?_⟩;have ob:∀b,(base≤b∧(Value.slice (some ⟨g,0,none⟩) (ps.length+1) cap).ownBlock≠some b)→base≤b∧b≠g:=fun b hb=>⟨hb.1,fun e=>hb.2 (by rw[e];rfl)⟩
 have bo:∀b,base≤b∧b≠g→(base≤b∧(Value.slice (some ⟨g,0,none⟩) (ps.length+1) cap).ownBlock≠some b):=fun b hb=>⟨hb.1,fun e=>hb.2 (by injection e with e;exact e.symm)⟩
 rcases List.mem_append.1 hq with hq|hq
 ·have:=h.2 q (List.mem_append.2 (.inl hq))
  exact⟨((this.1.mono ob).keep hk).mono bo,this.2⟩
 ·rw[List.mem_singleton.1 hq]
  exact⟨(hx.keep hk).mono bo,hn⟩
section
variable (w:World) {o:Oper} {a:Act} {K:Act→World→Prop} {Q:Exit→Act→World→Prop}
theorem wU(s x:Operand)(ho:o.op= .call {callee:= .builtin .append,args:= #[s,x],argTypes:= #[25,25]})
  (base:Nat) (ps:List (Ex ×Value)) (v:Value) (hs:a.eval s=v) (hown:bG w base ps v) (b c:Nat) (hx:a.eval x= .slice (some ⟨b,0,none⟩) 1 c) (hnew:aG w b (aj exZ (.slice none 0 0)) 27)
  (hlen:ps.length≤1000000) (hbase:base≤w.heap.size)
  (h:∀g cap w',bG w' base (ps++[(exZ,.slice none 0 0)]) (.slice (some ⟨g,0,none⟩) (ps.length+1) cap)→w.grownBy w' v.ownBlock→(v.ownBlock=some g∨g=w.heap.size)→g<w'.heap.size→K (a.put o.dst (.slice (some ⟨g,0,none⟩) (ps.length+1) cap)) w'):o.wp Zb a w K Q:=by
 obtain⟨i0,hi,hz0,hz1,hz2⟩:=info_parts kO;refine wp_append_lies (P:=Zb) w s x _ ho base 27 i0 _ 5 _ Tryz.underlying25 hi hz0 hz1 hz2 rfl (by decide) v ps.length (cz ps) hs hown.1 ⟨b,0,none⟩ 1 c (aj exZ (.slice none 0 0)) hx rfl ?_ ?_ (by decide) (by unfold maxLen;omega) (by omega) hbase _ rfl ?_
 ·intro j u hu
  have h2:(⟨b,0,none⟩:Addr).add j=⟨b,j,none⟩:=by unfold Addr.add;split<;>simp_all
  rw[h2];exact hnew.at j u hu
 ·intro u hu
  simp only[aj,List.mem_cons,List.not_mem_nil,or_false]at hu;rcases hu with rfl|rfl|rfl|rfl|rfl<;>rfl
 ·intro g cap w' hown' hg hat hlt
  exact h g cap w' (hown.snoc exZ (.slice none 0 0) aJ.zero dz hown' hg hat) hg hat hlt
end
structure VY1 (p tb cb ob base:Nat)(va:Option Addr)(vc:Nat)(ps:List (Ex ×Value))(l r2:List Tk)(x:Ex)(W:World)(L:Nat→Bool)(sa:Option Addr)(sc:Nat)(nb:Nat)(gn:Nat)(cn:Nat)(z2 z3 z4 z5 z6 z7 z8:Value)(wx:World):Prop where
 p5_0:L 5=true→L 0=true
 p5_2:L 5=true→L 2=true
 p5_4:L 5=true→L 4=true
 p6_5:L 6=true→L 5=true
 p7_2:L 7=true→L 2=true
 p7_4:L 7=true→L 4=true
 p7_5:L 7=true→L 5=true
 p8_2:L 8=true→L 2=true
 p8_4:L 8=true→L 4=true
 p8_5:L 8=true→L 5=true
 c0:L 0=true→z2= .slice va ps.length vc
 c1:L 1=true→z3= .pointer (some ⟨p,0,none⟩)
 c2:L 2=true→z4=exV x (.slice sa x.args.length sc)
 c3:L 3=true→z5= .int .i64 ps.length
 c4:L 4=true→z6= .slice (some ⟨nb,0,none⟩) 1 1
 c5:L 5=true→z7= .slice (some ⟨gn,0,none⟩) (ps.length+1) cn
 c6:L 6=true→z8= .pointer (some ⟨gn,ps.length*5,none⟩)
 fr:AFr p ob base W wx
 pa:L 2=false→Ps wx p tb l
 pb:L 2=true→Ps wx p tb r2
 c:aG wx cb [.pointer (some ⟨p,0,none⟩)] 64
 oa:L 8=false→aG wx ob [.slice va ps.length vc] 25
 ob:L 8=true→aG wx ob [.slice (some ⟨gn,0,none⟩) (ps.length+1) cn] 25
 ra:L 5=false→bG wx base ps (.slice va ps.length vc)
 g4:L 4=true→L 5=false→aG wx nb (aj exZ (.slice none 0 0)) 27∧base≤nb∧(Value.slice va ps.length vc).ownBlock≠some nb
 xa:L 2=true→L 5=false→aJ (fun b=>base≤b∧(Value.slice va ps.length vc).ownBlock≠some b) wx x.args (.slice sa x.args.length sc)
 xn:L 2=true→I64 x.n
 rb:L 5=true→L 7=false→bG wx base (ps++[(exZ,.slice none 0 0)]) (.slice (some ⟨gn,0,none⟩) (ps.length+1) cn)
 xb:L 5=true→aJ (fun b=>base≤b∧b≠gn) wx x.args (.slice sa x.args.length sc)
 rc:L 7=true→bG wx base (ps++[(x,.slice sa x.args.length sc)]) (.slice (some ⟨gn,0,none⟩) (ps.length+1) cn)
 gb:L 5=true→base≤gn∧gn<wx.heap.size
def IY1(p tb cb ob base:Nat)(va:Option Addr)(vc:Nat)(ps:List (Ex ×Value))(l r2:List Tk)(x:Ex)(W:World)(L:Nat→Bool)(a':Act)(w':World):Prop:=
 ∃sa:Option Addr,∃sc:Nat,∃nb:Nat,∃gn:Nat,∃cn:Nat,∃z2 z3 z4 z5 z6 z7 z8:Value,VY1 p tb cb ob base va vc ps l r2 x W L sa sc nb gn cn z2 z3 z4 z5 z6 z7 z8 w'∧a'=⟨[.pointer (some ⟨ob,0,none⟩),.pointer (some ⟨cb,0,none⟩),z2,z3,z4,z5,z6,z7,z8].toArray,[]⟩
def RY1(p tb cb ob base:Nat)(va:Option Addr)(vc:Nat)(ps:List (Ex ×Value))(l r2:List Tk)(x:Ex)(W:World)(a':Act)(w':World):Prop:=
 ∃sa:Option Addr,∃sc:Nat,∃nb:Nat,∃gn:Nat,∃cn:Nat,(AFr p ob base W w'∧Ps w' p tb r2∧aG w' cb [.pointer (some ⟨p,0,none⟩)] 64∧aG w' ob [.slice (some ⟨gn,0,none⟩) (ps.length+1) cn] 25∧bG w' base (ps++[(x,.slice sa x.args.length sc)]) (.slice (some ⟨gn,0,none⟩) (ps.length+1) cn))∧a'=⟨[.pointer (some ⟨ob,0,none⟩),.pointer (some ⟨cb,0,none⟩),.slice va ps.length vc,.pointer (some ⟨p,0,none⟩),exV x (.slice sa x.args.length sc),.int .i64 ps.length,.slice (some ⟨nb,0,none⟩) 1 1,.slice (some ⟨gn,0,none⟩) (ps.length+1) cn,.pointer (some ⟨gn,ps.length*5,none⟩)].toArray,[]⟩
theorem reg_Y1(p tb cb ob base:Nat)(va:Option Addr)(vc:Nat)(ps:List (Ex ×Value))(l r2:List Tk)(x:Ex)(W:World)(hps:Ps W p tb l)(hc:aG W cb [.pointer (some ⟨p,0,none⟩)] 64)(ho:aG W ob [.slice va ps.length vc] 25)(hrow:bG W base ps (.slice va ps.length vc))(hpc:p<cb)(hco:cb<ob)(hob:ob<base)(hbs:base≤W.heap.size)(hll:ps.length≤1000000)(HE:Hid (∀w1,Ps w1 p tb l→Calls Zb 27 #[.pointer (some ⟨p,0,none⟩)] w1 fun e w'=> ∃s,e= .returned (exV x s)∧SFr p w1 w'∧Ps w' p tb r2∧aJ (w1.heap.size≤ ·) w' x.args s∧I64 x.n))(q2 q3 q4 q5 q6 q7 q8:Value)(J K':Act→World→Prop)(hJ:∀a' w',RY1 p tb cb ob base va vc ps l r2 x W a' w'→J a' w')(hM:∀a' w',Met J a' w'→K' a' w'):
  Code.wp Zb ((Tryz.f224.body.bind (gZ 0)).getD .skip) (Exit.then K' (fun _ _ _=>False)) ⟨[.pointer (some ⟨ob,0,none⟩),.pointer (some ⟨cb,0,none⟩),q2,q3,q4,q5,q6,q7,q8].toArray,[]⟩ W:=by
 have HPS:=Za hps;have HC:=Za hc;have HO:=Za ho;have HROW:=Za hrow;clear hps hc ho hrow
 conv=>arg 2;whnf
 (try dsimp only);refine db (by kernel_rfl) (by kernel_rfl) (IY1 p tb cb ob base va vc ps l r2 x W) ?_ ?_ ?_
 ·exact⟨none,0,0,0,0,q2,q3,q4,q5,q6,q7,q8,⟨(fun h=>by cases h),(fun h=>by cases h),(fun h=>by cases h),(fun h=>by cases h),(fun h=>by cases h),(fun h=>by cases h),(fun h=>by cases h),(fun h=>by cases h),(fun h=>by cases h),(fun h=>by cases h),(fun h=>by cases h),(fun h=>by cases h),(fun h=>by cases h),(fun h=>by cases h),(fun h=>by cases h),(fun h=>by cases h),(fun h=>by cases h),((AFr.refl p ob base W).old (Zf _ _).drew),(fun _=>HPS.out.old (Zf _ _).drew),(fun h=>by cases h),(HC.out.old (Zf _ _).drew),(fun _=>HO.out.old (Zf _ _).drew),(fun h=>by cases h),(fun _=>HROW.out.old (Zf _ _).drew),(fun h=>fun _=>by cases h),(fun h=>fun _=>by cases h),(fun h=>by cases h),(fun h=>fun _=>by cases h),(fun h=>by cases h),(fun h=>by cases h),(fun h=>by cases h)⟩,rfl⟩
 ·intro L act wx k hI hk hl hd
  obtain⟨sa,sc,nb,gn,cn,z2,z3,z4,z5,z6,z7,z8,hV,rfl⟩:=hI;have hk:k=0∨k=1∨k=2∨k=3∨k=4∨k=5∨k=6∨k=7∨k=8:=by
   have:k<9:=hk;omega
  rcases hk with rfl|rfl|rfl|rfl|rfl|rfl|rfl|rfl|rfl
  ·have l5:L 5=false:=by
    cases e:L 5 with
    |false=>rfl
    |true=>have:=hV.p5_0 e;rw[hl]at this;cases this
   have l8:L 8=false:=by
    cases e:L 8 with
    |false=>rfl
    |true=>have:=hV.p8_5 e;rw[l5]at this;cases this
   have ho:=(hV.oa l8).at 0 _ rfl;refine am _ rfl rfl (fun K' hK=> ?_)
   conv=>arg 2;whnf
   go_wp2_with fail
   exact⟨sa,sc,nb,gn,cn,.slice va ps.length vc,z3,z4,z5,z6,z7,z8,⟨(fun _=>ak L 0),kq hV.p5_2,kq hV.p5_4,kq hV.p6_5,kq hV.p7_2,kq hV.p7_4,kq hV.p7_5,kq hV.p8_2,kq hV.p8_4,kq hV.p8_5,(fun _=>rfl),kc hV.c1,kc hV.c2,kc hV.c3,kc hV.c4,kc hV.c5,kc hV.c6,hV.fr,(fun h0=>hV.pa (kb h0)),kc hV.pb,hV.c,(fun h0=>hV.oa (kb h0)),kc hV.ob,(fun h0=>hV.ra (kb h0)),(fun h0=>fun h1=>hV.g4 (kb h0) (kb h1)),(fun h0=>fun h1=>hV.xa (kb h0) (kb h1)),kc hV.xn,(fun h0=>fun h1=>hV.rb (kb h0) (kb h1)),kc hV.xb,kc hV.rc,kc hV.gb⟩,rfl⟩
  ·have hc0:=hV.c.at 0 _ rfl
   refine am _ rfl rfl (fun K' hK=> ?_)
   conv=>arg 2;whnf
   go_wp2_with fail
   exact⟨sa,sc,nb,gn,cn,z2,.pointer (some ⟨p,0,none⟩),z4,z5,z6,z7,z8,⟨kq hV.p5_0,kq hV.p5_2,kq hV.p5_4,kq hV.p6_5,kq hV.p7_2,kq hV.p7_4,kq hV.p7_5,kq hV.p8_2,kq hV.p8_4,kq hV.p8_5,kc hV.c0,(fun _=>rfl),kc hV.c2,kc hV.c3,kc hV.c4,kc hV.c5,kc hV.c6,hV.fr,(fun h0=>hV.pa (kb h0)),kc hV.pb,hV.c,(fun h0=>hV.oa (kb h0)),kc hV.ob,(fun h0=>hV.ra (kb h0)),(fun h0=>fun h1=>hV.g4 (kb h0) (kb h1)),(fun h0=>fun h1=>hV.xa (kb h0) (kb h1)),kc hV.xn,(fun h0=>fun h1=>hV.rb (kb h0) (kb h1)),kc hV.xb,kc hV.rc,kc hV.gb⟩,rfl⟩
  ·have d1:L 1=true:=hd _ rfl ⟨1,.data⟩ (by simp) rfl
   obtain rfl:=(hV.c1 d1).symm;have l5:L 5=false:=by
    cases e:L 5 with
    |false=>rfl
    |true=>have:=hV.p5_2 e;rw[hl]at this;cases this
   have l8:L 8=false:=by
    cases e:L 8 with
    |false=>rfl
    |true=>have:=hV.p8_5 e;rw[l5]at this;cases this
   have l7:L 7=false:=by
    cases e:L 7 with
    |false=>rfl
    |true=>have:=hV.p7_5 e;rw[l5]at this;cases this
   have hps:=hV.pa hl;refine am _ rfl rfl (fun K' hK=> ?_)
   conv=>arg 2;whnf
   go_wp2_with fail
   refine(HE.out _ hps).mono ?_;rintro e w7 ⟨s1,rfl,hf7,hp7,hx7,hn7⟩;obtain⟨a7,c7,rfl⟩:=hx7.shape;go_wp2_with fail
   exact⟨a7,c7,nb,gn,cn,z2,.pointer (some ⟨p,0,none⟩),exV x (.slice (a7) x.args.length (c7)),z5,z6,z7,z8,⟨kq hV.p5_0,(fun _=>ak L 2),kq hV.p5_4,kq hV.p6_5,(fun _=>ak L 2),kq hV.p7_4,kq hV.p7_5,(fun _=>ak L 2),kq hV.p8_4,kq hV.p8_5,kc hV.c0,kc hV.c1,(fun _=>rfl),kc hV.c3,kc hV.c4,kc hV.c5,kc hV.c6,(hV.fr.trans (AFr.of_sfr hf7)),(ks),(fun _=>hp7),(hV.c.sfr hf7 (by omega)),(fun _=>(hV.oa l8).sfr hf7 (by omega)),(fun h=>by rw[aI L (by decide)]at h;rw[l8]at h;cases h),(fun _=>(hV.ra l5).sfrB hf7 (by omega)),(fun h1 h2=>⟨aG.sfr (hV.g4 (kb h1) (kb h2)).1 hf7 (by have:=(hV.g4 (kb h1) (kb h2)).2.1;omega),(hV.g4 (kb h1) (kb h2)).2⟩),(fun _ _=>hx7.mono (fun b hb=>by have h1:wx.heap.size≤b:=hb;have h2:=hV.fr.size;exact⟨by omega,fun e=>by have:=(World.ownsRow.lt (hV.ra l5).1 _ e).2;omega⟩)),(fun _=>hn7),(fun h _=>by rw[aI L (by decide)]at h;rw[l5]at h;cases h),(fun h=>by rw[aI L (by decide)]at h;rw[l5]at h;cases h),(fun h=>by rw[aI L (by decide)]at h;rw[l7]at h;cases h),(fun h=>by rw[aI L (by decide)]at h;rw[l5]at h;cases h)⟩,rfl⟩
  ·have d0:L 0=true:=hd _ rfl ⟨0,.data⟩ (by simp) rfl
   obtain rfl:=(hV.c0 d0).symm;refine am _ rfl rfl (fun K' hK=> ?_)
   conv=>arg 2;whnf
   go_wp2_with fail
   exact⟨sa,sc,nb,gn,cn,.slice va ps.length vc,z3,z4,.int .i64 ps.length,z6,z7,z8,⟨kq hV.p5_0,kq hV.p5_2,kq hV.p5_4,kq hV.p6_5,kq hV.p7_2,kq hV.p7_4,kq hV.p7_5,kq hV.p8_2,kq hV.p8_4,kq hV.p8_5,kc hV.c0,kc hV.c1,kc hV.c2,(fun _=>rfl),kc hV.c4,kc hV.c5,kc hV.c6,hV.fr,(fun h0=>hV.pa (kb h0)),kc hV.pb,hV.c,(fun h0=>hV.oa (kb h0)),kc hV.ob,(fun h0=>hV.ra (kb h0)),(fun h0=>fun h1=>hV.g4 (kb h0) (kb h1)),(fun h0=>fun h1=>hV.xa (kb h0) (kb h1)),kc hV.xn,(fun h0=>fun h1=>hV.rb (kb h0) (kb h1)),kc hV.xb,kc hV.rc,kc hV.gb⟩,rfl⟩
  ·have hal:Below wx.heap.size wx (wx.alloc (.cells #[.int .i64 0,.int .i64 0,.int .i64 0,.string ⟨#[]⟩,.slice none 0 0] 27)):=bA
   have hfs:=hV.fr.size;have l5:L 5=false:=by
    cases e:L 5 with
    |false=>rfl
    |true=>have:=hV.p5_4 e;rw[hl]at this;cases this
   refine am _ rfl rfl (fun K' hK=> ?_)
   conv=>arg 2;whnf
   go_wp2_with fail
   exact⟨sa,sc,wx.heap.size,gn,cn,z2,z3,z4,z5,.slice (some ⟨(wx.heap.size),0,none⟩) 1 1,z7,z8,⟨kq hV.p5_0,kq hV.p5_2,(fun _=>ak L 4),kq hV.p6_5,kq hV.p7_2,(fun _=>ak L 4),kq hV.p7_5,kq hV.p8_2,(fun _=>ak L 4),kq hV.p8_5,kc hV.c0,kc hV.c1,kc hV.c2,kc hV.c3,(fun _=>rfl),kc hV.c5,kc hV.c6,(AFr.old (hV.fr) hal),(fun h0=>Ps.old (hV.pa (kb h0)) hal),(fun h0=>Ps.old (hV.pb (kb h0)) hal),(aG.old (hV.c) hal),(fun h0=>aG.old (hV.oa (kb h0)) hal),(kn hV.p8_4 hl),(fun h0=>bG.old (hV.ra (kb h0)) hal),(fun _ _=>⟨Zc wx (aj exZ (.slice none 0 0)) 27,by omega,fun e=>by have:=(World.ownsRow.lt (hV.ra l5).1 _ e).2;omega⟩),(fun h0=>fun h1=>aJ.old hal (hV.xa (kb h0) (kb h1))),(fun h0=>(hV.xn (kb h0))),(kn hV.p5_4 hl),(kn hV.p5_4 hl),(kn hV.p7_4 hl),(kn hV.p5_4 hl)⟩,rfl⟩
  ·have d0:L 0=true:=hd _ rfl ⟨0,.data⟩ (by simp) rfl
   obtain rfl:=(hV.c0 d0).symm;have d2:L 2=true:=hd _ rfl ⟨2,.chain⟩ (by simp) rfl;have d4:L 4=true:=hd _ rfl ⟨4,.data⟩ (by simp) rfl;obtain rfl:=(hV.c4 d4).symm;have l8:L 8=false:=by
    cases e:L 8 with
    |false=>rfl
    |true=>have:=hV.p8_5 e;rw[hl]at this;cases this
   have l7:L 7=false:=by
    cases e:L 7 with
    |false=>rfl
    |true=>have:=hV.p7_5 e;rw[hl]at this;cases this
   have hg4:=hV.g4 d4 hl;have hra:=hV.ra hl;have hxa:=hV.xa d2 hl;have hfs:=hV.fr.size;refine am _ rfl rfl (fun K' hK=> ?_)
   conv=>arg 2;whnf
   refine wU wx _ _ rfl base ps (.slice va ps.length vc) rfl hra nb 1 rfl hg4.1 hll (Zd hbs hfs) ?_;intro g2 cap2 w2 hr2 hg2 ha2 hl2;have hge:base≤g2:=by
    rcases ha2 with e|e
    ·exact hra.rowGe _ e
    ·omega
   go_wp2_with fail
   exact⟨sa,sc,nb,g2,cap2,.slice va ps.length vc,z3,z4,z5,.slice (some ⟨nb,0,none⟩) 1 1,.slice (some ⟨(g2),0,none⟩) (ps.length+1) (cap2),z8,⟨(kd (d0)),(kd (d2)),(kd (d4)),(fun _=>ak L 5),kq hV.p7_2,kq hV.p7_4,(fun _=>ak L 5),kq hV.p8_2,kq hV.p8_4,(fun _=>ak L 5),kc hV.c0,kc hV.c1,kc hV.c2,kc hV.c3,kc hV.c4,(fun _=>rfl),(kn hV.p6_5 hl),(hV.fr.grown hg2 hra.rowGe),(fun h=>by rw[aI L (by decide)]at h;rw[d2]at h;cases h),(fun _=>(hV.pb d2).grown hg2 hra.rowGe (by omega)),(hV.c.grew hg2 (fun e=>by have:=hra.rowGe _ e;omega)),(fun _=>(hV.oa l8).grew hg2 (fun e=>by have:=hra.rowGe _ e;omega)),(fun h=>by rw[aI L (by decide)]at h;rw[l8]at h;cases h),(ks),(fun _=>ks),(fun _=>ks),(fun _=>hV.xn d2),(fun _ _=>hr2),(fun _=>by have h1:=hxa.strong.keep (w':=w2) (fun b off y hb hy=>hg2.cell hy (fun e=>hb.1.2 e.symm));exact h1.mono (fun b hb=>⟨hb.1.1,by rintro rfl;rcases ha2 with e|e;exact hb.1.2 e;have:=hb.2;omega⟩)),(fun h=>by rw[aI L (by decide)]at h;rw[l7]at h;cases h),(fun _=>⟨hge,hl2⟩)⟩,rfl⟩
  ·have d3:L 3=true:=hd _ rfl ⟨3,.data⟩ (by simp) rfl
   obtain rfl:=(hV.c3 d3).symm;have d5:L 5=true:=hd _ rfl ⟨5,.data⟩ (by simp) rfl;obtain rfl:=(hV.c5 d5).symm;have hgb:=hV.gb d5;refine am _ rfl rfl (fun K' hK=> ?_)
   conv=>arg 2;whnf
   go_wp2_with fail
   exact⟨sa,sc,nb,gn,cn,z2,z3,z4,.int .i64 ps.length,z6,.slice (some ⟨gn,0,none⟩) (ps.length+1) cn,.pointer (some ⟨gn,ps.length*5,none⟩),⟨kq hV.p5_0,kq hV.p5_2,kq hV.p5_4,(kd (d5)),kq hV.p7_2,kq hV.p7_4,kq hV.p7_5,kq hV.p8_2,kq hV.p8_4,kq hV.p8_5,kc hV.c0,kc hV.c1,kc hV.c2,kc hV.c3,kc hV.c4,kc hV.c5,(fun _=>rfl),hV.fr,(fun h0=>hV.pa (kb h0)),kc hV.pb,hV.c,(fun h0=>hV.oa (kb h0)),kc hV.ob,(fun h0=>hV.ra (kb h0)),(fun h0=>fun h1=>hV.g4 (kb h0) (kb h1)),(fun h0=>fun h1=>hV.xa (kb h0) (kb h1)),kc hV.xn,(fun h0=>fun h1=>hV.rb (kb h0) (kb h1)),kc hV.xb,kc hV.rc,kc hV.gb⟩,rfl⟩
  ·have d2:L 2=true:=hd _ rfl ⟨2,.data⟩ (by simp) rfl
   obtain rfl:=(hV.c2 d2).symm;have d5:L 5=true:=hd _ rfl ⟨5,.chain⟩ (by simp) rfl;have d6:L 6=true:=hd _ rfl ⟨6,.data⟩ (by simp) rfl;obtain rfl:=(hV.c6 d6).symm;have hrb:=hV.rb d5 hl;have hxb:=hV.xb d5;have hxn:=hV.xn d2;have hgb:=hV.gb d5;have hlr:(ps++[(exZ,Value.slice none 0 0)]).length=ps.length+1:=by simp
   have hrw:=hrb.1;rw[hlr]at hrw;have k0:=hrw.cellAt (ps.length*5) (by omega);have k1:=hrw.cellAt (ps.length*5+1) (by omega);have k2:=hrw.cellAt (ps.length*5+2) (by omega);have k3:=hrw.cellAt (ps.length*5+3) (by omega);have k4:=hrw.cellAt (ps.length*5+4) (by omega);rw[List.getElem?_eq_getElem (by rw[kJ,hlr];omega)]at k0 k1 k2 k3 k4;have f0:=hrw.frozenAt (ps.length*5);have f1:=hrw.frozenAt (ps.length*5+1);have f2:=hrw.frozenAt (ps.length*5+2);have f3:=hrw.frozenAt (ps.length*5+3);have f4:=hrw.frozenAt (ps.length*5+4);refine am _ rfl rfl (fun K' hK=> ?_)
   conv=>arg 2;whnf
   go_wp2_with fail
   exact⟨sa,sc,nb,gn,cn,z2,z3,exV x (.slice sa x.args.length sc),z5,z6,z7,.pointer (some ⟨gn,ps.length*5,none⟩),⟨kq hV.p5_0,kq hV.p5_2,kq hV.p5_4,kq hV.p6_5,(kd (d2)),(kd (hV.p5_4 d5)),(kd (d5)),kq hV.p8_2,kq hV.p8_4,kq hV.p8_5,kc hV.c0,kc hV.c1,kc hV.c2,kc hV.c3,kc hV.c4,kc hV.c5,kc hV.c6,(((((hV.fr.high hgb.1 _ _).high hgb.1 _ _).high hgb.1 _ _).high hgb.1 _ _).high hgb.1 _ _),(fun h=>by rw[aI L (by decide)]at h;rw[d2]at h;cases h),(fun _=>((((((hV.pb d2).other (by omega) _ _).other (by omega) _ _).other (by omega) _ _).other (by omega) _ _).other (by omega) _ _)),(((((hV.c.other (by omega) _ _).other (by omega) _ _).other (by omega) _ _).other (by omega) _ _).other (by omega) _ _),(fun h=>((((((hV.oa (kb h)).other (by omega) _ _).other (by omega) _ _).other (by omega) _ _).other (by omega) _ _).other (by omega) _ _)),(fun h=>((((((hV.ob (kb h)).other (by omega) _ _).other (by omega) _ _).other (by omega) _ _).other (by omega) _ _).other (by omega) _ _)),(fun h=>by rw[aI L (by decide)]at h;rw[d5]at h;cases h),(fun _ h=>by rw[aI L (by decide)]at h;rw[d5]at h;cases h),(fun _ h=>by rw[aI L (by decide)]at h;rw[d5]at h;cases h),(fun _=>hxn),(fun _=>ks),(fun _=>((((hxb.keep (aN _ (fun e=>e.2 rfl) _ _)).keep (aN _ (fun e=>e.2 rfl) _ _)).keep (aN _ (fun e=>e.2 rfl) _ _)).keep (aN _ (fun e=>e.2 rfl) _ _)).keep (aN _ (fun e=>e.2 rfl) _ _)),(fun _=>hrb.setLast hxb hxn),(fun _=>by simpa [World.setCell]using hgb)⟩,rfl⟩
  ·have d5:L 5=true:=hd _ rfl ⟨5,.data⟩ (by simp) rfl
   obtain rfl:=(hV.c5 d5).symm;have hx:=hV.oa hl;have x1:=hx.at 0 _ rfl;have fx:=hx.fz 0;have hxl:=hx.lt;have hgb:=hV.gb d5;refine am _ rfl rfl (fun K' hK=> ?_)
   conv=>arg 2;whnf
   go_wp2_with fail
   exact⟨sa,sc,nb,gn,cn,z2,z3,z4,z5,z6,.slice (some ⟨gn,0,none⟩) (ps.length+1) cn,z8,⟨kq hV.p5_0,kq hV.p5_2,kq hV.p5_4,kq hV.p6_5,kq hV.p7_2,kq hV.p7_4,kq hV.p7_5,(kd (hV.p5_2 d5)),(kd (hV.p5_4 d5)),(kd (d5)),kc hV.c0,kc hV.c1,kc hV.c2,kc hV.c3,kc hV.c4,kc hV.c5,kc hV.c6,(hV.fr.set _ _),(fun h=>(hV.pa (kb h)).other (by omega) _ _),(fun h=>(hV.pb (kb h)).other (by omega) _ _),(hV.c.other (by omega) _ _),(ks),(fun _=>hx.set 0 (.slice (some ⟨gn,0,none⟩) (ps.length+1) cn)),(fun h=>(hV.ra (kb h)).low hob _ _),(fun _ h=>by rw[aI L (by decide)]at h;rw[d5]at h;cases h),(fun _ h=>by rw[aI L (by decide)]at h;rw[d5]at h;cases h),(fun h=>hV.xn (kb h)),(fun h1 h2=>(hV.rb (kb h1) (kb h2)).low hob _ _),(fun h=>(hV.xb (kb h)).keep (aN _ (fun e=>by have:=e.1;omega) _ _)),(fun h=>(hV.rc (kb h)).low hob _ _),(fun h=>by simpa [World.setCell]using hV.gb (kb h))⟩,rfl⟩
 ·intro L act wx hI hall
  obtain⟨sa,sc,nb,gn,cn,z2,z3,z4,z5,z6,z7,z8,hV,rfl⟩:=hI;obtain rfl:=(hV.c0 (hall 0 (by decide))).symm;obtain rfl:=(hV.c1 (hall 1 (by decide))).symm;obtain rfl:=(hV.c2 (hall 2 (by decide))).symm;obtain rfl:=(hV.c3 (hall 3 (by decide))).symm;obtain rfl:=(hV.c4 (hall 4 (by decide))).symm;obtain rfl:=(hV.c5 (hall 5 (by decide))).symm;obtain rfl:=(hV.c6 (hall 6 (by decide))).symm;exact hM _ _ (Met.intro (hJ _ _ ⟨sa,sc,nb,gn,cn,⟨hV.fr,hV.pb (hall 2 (by decide)),hV.c,hV.ob (hall 8 (by decide)),hV.rc (hall 7 (by decide))⟩,rfl⟩))
structure eh (W:World)(p tb cb ob base:Nat)(va:Option Addr)(vc:Nat)(ps:List (Ex ×Value))(l:List Tk)(wx:World):Prop where
 fr:AFr p ob base W wx
 par:Ps wx p tb l
 c:aG wx cb [.pointer (some ⟨p,0,none⟩)] 64
 o:aG wx ob [.slice va ps.length vc] 25
 row:bG wx base ps (.slice va ps.length vc)
 len:ps.length+l.length≤1000000
structure jU (p cb ob base:Nat)(W:World):Prop where
 pc:p<cb
 co:cb<ob
 ob:ob<base
 bs:base≤W.heap.size
theorem eh.old {W:World}{p tb cb ob base:Nat}{va:Option Addr}{vc:Nat}{ps:List (Ex ×Value)}{l:List Tk}{wx w':World}(h:eh W p tb cb ob base va vc ps l wx)(hb:Below wx.heap.size wx w'):eh W p tb cb ob base va vc ps l w':=
 ⟨h.fr.old hb,h.par.old hb,h.c.old hb,h.o.old hb,h.row.old hb,h.len⟩
theorem eh.next {W:World}{p tb cb ob base:Nat}{va:Option Addr}{vc:Nat}{ps:List (Ex ×Value)}{l r:List Tk}{wx w':World}(h:eh W p tb cb ob base va vc ps l wx)(hn:jU p cb ob base W)(hf:SFr p wx w')(hp:Ps w' p tb r)(hl:r.length≤l.length):eh W p tb cb ob base va vc ps r w':=
 ⟨h.fr.trans (AFr.of_sfr hf),hp,h.c.sfr hf (by have:=hn.pc;omega),h.o.sfr hf (by have:=hn.pc;have:=hn.co;omega),h.row.sfrB hf (by have:=hn.pc;have:=hn.co;have:=hn.ob;omega),by have:=h.len;omega⟩
theorem zO(f:Nat)(hE:ji f)(W wx:World)(p tb cb ob base:Nat)(va:Option Addr)(vc:Nat)(ps:List (Ex ×Value))(l r:List Tk)(x:Ex)(hn:jU p cb ob base W)(h:eh W p tb cb ob base va vc ps l wx)(hl:4*l.length+2≤f)(hx:ar f 1 l= .ok (x,r)):
  Calls Zb 224 #[.pointer (some ⟨ob,0,none⟩),.pointer (some ⟨cb,0,none⟩)] wx fun e w'=>e= .returned (.tuple #[])∧∃sa sc gn cn,eh W p tb cb ob base (some ⟨gn,0,none⟩) cn (ps++[(x,.slice sa x.args.length sc)]) r w':=by
 have hz:base≤wx.heap.size:=Zd hn.bs h.fr.size;have hlen:r.length<l.length:=(dM f).1 _ _ _ _ hx;have key:=reg_Y1 p tb cb ob base va vc ps l r x wx h.par h.c h.o h.row hn.pc hn.co hn.ob hz (by have:=h.len;omega) (fun w1 h1=>by
  have h2:=hE l w1 p tb hl h1;rw[hx]at h2;refine h2.mono ?_;rintro e w' ⟨hf,v,rfl,hp,s,rfl,hs,hm⟩;exact⟨s,rfl,hf,hp,hs,hm⟩) undef undef undef undef undef undef undef _ _ (fun _ _ q=>q) (fun _ _ q=>q)
 have HFR:=Za h.fr;have HLN:=Za h.len;have HLL:=Za hlen;clear h hE hl hx hz hlen hn;go_enter Tryz.func224,Tryz.ntmps224
 refine wp_mono key ?_;intro e a' w' hq
 cases e with
 |normal=>
  obtain⟨sa,sc,nb,gn,cn,⟨h1,h2,h3,h4,h5⟩,rfl⟩:=hq;have hl1:(ps++[(x,Value.slice sa x.args.length sc)]).length=ps.length+1:=by simp
  refine bodyPost_end (v:= .tuple #[]) (by simp [results,Tryz.results224,go_sem]) rfl ⟨rfl,sa,sc,gn,cn,HFR.out.trans h1,h2,h3,?_,?_,?_⟩
  ·rw[hl1];exact h4
  ·rw[hl1];exact h5
  ·rw[hl1];have:=HLN.out;have:=HLL.out;omega
 |_=>exact False.elim hq
structure ErrI (W:World)(p tb cb ob base:Nat)(va:Option Addr)(vc:Nat)(ps:List (Ex ×Value))(l:List Tk)(L:Nat→Bool)(z2 z3:Value)(wx:World):Prop where
 at0:eh W p tb cb ob base va vc ps l wx
 l2:L 2=false
 l5:L 5=false
 c0:L 0=true→z2= .slice va ps.length vc
 c1:L 1=true→z3= .pointer (some ⟨p,0,none⟩)
theorem vi(f:Nat)(hE:ji f)(W wx:World)(p tb cb ob base:Nat)(va:Option Addr)(vc:Nat)(ps:List (Ex ×Value))(l:List Tk)(n:Int)(hn:jU p cb ob base W)(h:eh W p tb cb ob base va vc ps l wx)(hl:4*l.length+2≤f)(hx:ar f 1 l= .error n):
  Calls Zb 224 #[.pointer (some ⟨ob,0,none⟩),.pointer (some ⟨cb,0,none⟩)] wx fun e w'=>e=az n∧AFr p ob base W w':=by
 have HE:Hid (∀w1,Ps w1 p tb l→Calls Zb 27 #[.pointer (some ⟨p,0,none⟩)] w1 fun e w'=>e=az n∧SFr p w1 w'):=fun w1 h1=>by
  have h2:=hE l w1 p tb hl h1;rw[hx]at h2;refine h2.mono ?_;rintro e w' ⟨hf,rfl⟩;exact⟨rfl,hf⟩
 have HN:=Za hn;have HA:=Za h;clear hE hl hx hn h;go_enter Tryz.func224,Tryz.ntmps224
 refine db (by kernel_rfl) (by kernel_rfl) (fun L a' w'=> ∃z2 z3 z4 z5 z6 z7 z8:Value,ErrI W p tb cb ob base va vc ps l L z2 z3 w'∧a'=⟨[.pointer (some ⟨ob,0,none⟩),.pointer (some ⟨cb,0,none⟩),z2,z3,z4,z5,z6,z7,z8].toArray,[]⟩) ?_ ?_ ?_
 ·exact⟨undef,undef,undef,undef,undef,undef,undef,⟨HA.out.old (Zf _ _).drew,rfl,rfl,(fun h=>by cases h),(fun h=>by cases h)⟩,rfl⟩
 ·intro L act wx k hI hk hl hd
  obtain⟨z2,z3,z4,z5,z6,z7,z8,hV,rfl⟩:=hI;have hk:k=0∨k=1∨k=2∨k=3∨k=4∨k=5∨k=6∨k=7∨k=8:=by
   have:k<9:=hk;omega
  rcases hk with rfl|rfl|rfl|rfl|rfl|rfl|rfl|rfl|rfl
  ·have h0:=hV.at0.o.at 0 _ rfl
   refine am _ rfl rfl (fun K' hK=> ?_)
   conv=>arg 2;whnf
   go_wp2_with fail
   exact⟨.slice va ps.length vc,z3,z4,z5,z6,z7,z8,⟨hV.at0,(aI L (by decide)).trans hV.l2,(aI L (by decide)).trans hV.l5,(fun _=>rfl),kc hV.c1⟩,rfl⟩
  ·have h0:=hV.at0.c.at 0 _ rfl
   refine am _ rfl rfl (fun K' hK=> ?_)
   conv=>arg 2;whnf
   go_wp2_with fail
   exact⟨z2,.pointer (some ⟨p,0,none⟩),z4,z5,z6,z7,z8,⟨hV.at0,(aI L (by decide)).trans hV.l2,(aI L (by decide)).trans hV.l5,kc hV.c0,(fun _=>rfl)⟩,rfl⟩
  ·have d1:L 1=true:=hd _ rfl ⟨1,.data⟩ (by simp) rfl
   obtain rfl:=(hV.c1 d1).symm;have HV:=Za hV.at0;clear hV hd;refine am _ rfl rfl (fun K' hK=> ?_);clear hK
   conv=>arg 2;whnf
   go_wp2_with fail
   refine(HE.out _ HV.out.par).mono ?_;rintro e w7 ⟨rfl,hf⟩;unfold az;have HF:=Za (HV.out.fr.trans (AFr.of_sfr hf));clear hf;go_wp2_with fail
   exact⟨rfl,rfl,HF.out⟩
  ·have d0:L 0=true:=hd _ rfl ⟨0,.data⟩ (by simp) rfl
   obtain rfl:=(hV.c0 d0).symm;refine am _ rfl rfl (fun K' hK=> ?_)
   conv=>arg 2;whnf
   go_wp2_with fail
   exact⟨.slice va ps.length vc,z3,z4,.int .i64 ps.length,z6,z7,z8,⟨hV.at0,(aI L (by decide)).trans hV.l2,(aI L (by decide)).trans hV.l5,kc hV.c0,kc hV.c1⟩,rfl⟩
  ·have hal:Below wx.heap.size wx (wx.alloc (.cells #[.int .i64 0,.int .i64 0,.int .i64 0,.string ⟨#[]⟩,.slice none 0 0] 27)):=bA
   refine am _ rfl rfl (fun K' hK=> ?_)
   conv=>arg 2;whnf
   go_wp2_with fail
   exact⟨z2,z3,z4,z5,.slice (some ⟨wx.heap.size,0,none⟩) 1 1,z7,z8,⟨hV.at0.old hal,(aI L (by decide)).trans hV.l2,(aI L (by decide)).trans hV.l5,kc hV.c0,kc hV.c1⟩,rfl⟩
  ·have d2:L 2=true:=hd _ rfl ⟨2,.chain⟩ (by simp) rfl
   rw[hV.l2]at d2;cases d2
  ·have d5:L 5=true:=hd _ rfl ⟨5,.data⟩ (by simp) rfl
   rw[hV.l5]at d5;cases d5
  ·have d2:L 2=true:=hd _ rfl ⟨2,.data⟩ (by simp) rfl
   rw[hV.l2]at d2;cases d2
  ·have d5:L 5=true:=hd _ rfl ⟨5,.data⟩ (by simp) rfl
   rw[hV.l5]at d5;cases d5
 ·intro L act wx hI hall
  obtain⟨z2,z3,z4,z5,z6,z7,z8,hV,rfl⟩:=hI;have:=hall 2 (by decide);rw[hV.l2]at this;cases this
def um(g:Nat)(a:List Ex)(l:List Tk):PR (List Ex):=match bF [44] l with
 |some r=>fi g a r
 |none=>match aV [41] l with
  | .error e=> .error e
  | .ok r=> .ok (a,r)
theorem pW {g:Nat}{a:List Ex}{l r:List Tk}{x:Ex}(h:ar g 1 l= .ok (x,r)):fi (g+1) a l=um g (a++[x]) r:=by
 rw[fi,h];rfl
theorem re {g:Nat}{a:List Ex}{l:List Tk}{n:Int}(h:ar g 1 l= .error n):fi (g+1) a l= .error n:=by
 rw[fi,h]
def qg(W:World)(p tb cb ob base:Nat)(R:PR (List Ex))(e:Ending)(w':World):Prop:=
 match R with
 | .ok (a,r)=>e= .returned (.tuple #[])∧∃va vc ps,ps.map (·.1)=a∧eh W p tb cb ob base va vc ps r w'
 | .error n=>e=az n∧AFr p ob base W w'
def wT(ob cb:Nat):Value:= .func (.func 224) #[] #[.pointer (some ⟨ob,0,none⟩),.pointer (some ⟨cb,0,none⟩)]
theorem rW(f:Nat)(w:World)(p tb cb ob base:Nat)(t:Tk)(r:List Tk)(hn:jU p cb ob base w)(h:eh w p tb cb ob base none 0 [] (t::r) w)(y:isP [41] t=true):
  Calls Zb 125 #[.pointer (some ⟨p,0,none⟩),wT ob cb] w (qg w p tb cb ob base (eP (f+1) (t::r))):=by
 have e1:eP (f+1) (t::r)= .ok ([],r):=by rw[eP,aQ y]
 rw[e1];have HT:=Za (bE p tb t r [41] w h.par y);have HA:=Za h;have HN:=Za hn;clear e1 y h hn;unfold wT;go_enter Tryz.func125,Tryz.ntmps125
 go_wp2_with fail
 refine HT.out.mono ?_;rintro e w1 ⟨rfl,hf,hp⟩;have HA1:=Za (HA.out.next HN.out hf hp (by simp));clear hf hp;go_wp2_with fail
 first
  |(refine bodyPost_ret (results_none rfl _ _ _) rfl ?_)
  |go_end0
 exact⟨rfl,none,0,[],rfl,HA1.out⟩
structure yS (w:World)(p tb cb ob base:Nat)(f:Nat)(R:PR (List Ex))(g:Nat)(va:Option Addr)(vc:Nat)(ps:List (Ex ×Value))(l:List Tk)(wr:World):Prop where
 arg:eh w p tb cb ob base va vc ps l wr
 le:g≤f
 fuel:4*l.length+2≤g
 res:um g (ps.map (·.1)) l=R
theorem qO(f:Nat)(ih:∀g,g≤f→ji g)(w:World)(p tb cb ob base:Nat)(t:Tk)(r:List Tk)(hn:jU p cb ob base w)(h:eh w p tb cb ob base none 0 [] (t::r) w)(hl:4*(t::r).length+4≤f+1)(n:isP [41] t=false):
  Calls Zb 125 #[.pointer (some ⟨p,0,none⟩),wT ob cb] w (qg w p tb cb ob base (eP (f+1) (t::r))):=by
 have e1:eP (f+1) (t::r)=fi f [] (t::r):=by rw[eP,aH n]
 rw[e1];obtain⟨g,rfl⟩:∃g,f=g+1:=⟨f - 1,by omega⟩;obtain⟨R,hR⟩:∃R,fi (g+1) [] (t::r)=R:=⟨_,rfl⟩;rw[hR];have HR:=Za hR;have HT:=Za (aO p tb t r [41] w h.par n);have HA:=Za h;have HN:=Za hn;have HFU:=Za hl;have IH:=Za ih;clear e1 n h hn hR hl ih;unfold wT;go_enter Tryz.func125,Tryz.ntmps125
 go_wp2_with fail
 refine HT.out.mono ?_;rintro e w1 ⟨rfl,hb⟩;have HA1:=Za (HA.out.old hb);clear hb;have HX:Hid (∀g',g'≤g+1→∀(va:Option Addr) (vc:Nat) (ps:List (Ex ×Value)) (l:List Tk) (wx:World),eh w p tb cb ob base va vc ps l wx→4*l.length+2≤g'→(∀n,ar g' 1 l= .error n→Calls Zb 224 #[.pointer (some ⟨ob,0,none⟩),.pointer (some ⟨cb,0,none⟩)] wx fun e w'=>e=az n∧AFr p ob base w w')∧
   (∀x q,ar g' 1 l= .ok (x,q)→Calls Zb 224 #[.pointer (some ⟨ob,0,none⟩),.pointer (some ⟨cb,0,none⟩)] wx fun e w'=>e= .returned (.tuple #[])∧∃sa sc gn cn,eh w p tb cb ob base (some ⟨gn,0,none⟩) cn (ps++[(x,.slice sa x.args.length sc)]) q w')):=
  fun g' hg va vc ps l wx ha hl=>⟨fun n hx=>vi g' (IH.out g' hg) w wx p tb cb ob base va vc ps l n HN.out ha hl hx,fun x q hx=>zO g' (IH.out g' hg) w wx p tb cb ob base va vc ps l q x HN.out ha hl hx⟩
 go_wp2_with fail
 cases hc:ar g 1 (t::r)with
 |error n=>
  have hq:=(HX.out g (by omega) none 0 [] (t::r) w1 HA1.out (by have:=HFU.out;omega)).1 n hc;have e2:=HR.out;rw[re hc]at e2;subst e2;clear hc;refine hq.mono ?_;rintro e w2 ⟨rfl,hf⟩;have HF:=Za hf;clear hf;unfold az;go_wp2_with fail
  exact⟨rfl,rfl,HF.out⟩
 |ok q=>
  obtain⟨x,q⟩:=q;have hq:=(HX.out g (by omega) none 0 [] (t::r) w1 HA1.out (by have:=HFU.out;omega)).2 x q hc;have e2:=HR.out;rw[pW hc]at e2;have hlen:=(dM g).1 _ _ _ _ hc;refine hq.mono ?_;rintro e w2 ⟨rfl,sa,sc,gn,cn,ha⟩;have HI0:Hid (yS w p tb cb ob base (g+1) R g (some ⟨gn,0,none⟩) cn [(x,.slice sa x.args.length sc)] q w2):=⟨ha,by omega,by have:=HFU.out;omega,e2⟩;clear ha hc hlen e2;go_wp2_with fail
  go_loopw [] (fun wr=> ∃(g':Nat) (va:Option Addr) (vc:Nat) (ps:List (Ex ×Value)) (l:List Tk),Hid (yS w p tb cb ob base (g+1) R g' va vc ps l wr)) (fun wr=>cm p wr)
  case atStart=>exact⟨g,_,_,_,q,HI0⟩
  case round=>
   obtain⟨g',va,vc,ps,l,HI⟩:=hrel;clear HI0;obtain⟨u,l,rfl⟩:=HI.out.arg.par.ends.ne
   cases hu:isP [44] u with
   |true=>
    have HTK:=Za (bE p tb u l [44] wr HI.out.arg.par hu);have hres:fi g' (ps.map (·.1)) l=R:=by
     have:=HI.out.res;unfold um at this;rw[aQ hu]at this;exact this
    clear hu;go_wp2_with fail
    refine HTK.out.mono ?_;rintro e w3 ⟨rfl,hf,hp⟩;have HA3:=Za (HI.out.arg.next HN.out hf hp (by simp));clear hf hp;obtain⟨g2,hg2⟩:∃g2,g'=g2+1:=⟨g' - 1,by have:=HI.out.fuel;omega⟩;subst hg2;have hfu:=HI.out.fuel;rw[List.length_cons]at hfu;have hle:=HI.out.le;go_wp2_with fail
    cases hc:ar g2 1 l with
    |error n=>
     have hq:=(HX.out g2 (by omega) va vc ps l w3 HA3.out (by omega)).1 n hc;rw[re hc]at hres;subst hres;clear hc;refine hq.mono ?_;rintro e w4 ⟨rfl,hf⟩;have HF:=Za hf;clear hf;unfold az;go_wp2_with fail
     exact⟨rfl,rfl,HF.out⟩
    |ok q2=>
     obtain⟨y,q2⟩:=q2;have hq:=(HX.out g2 (by omega) va vc ps l w3 HA3.out (by omega)).2 y q2 hc;rw[pW hc]at hres;have hlen:=(dM g2).1 _ _ _ _ hc;refine hq.mono ?_;rintro e w4 ⟨rfl,sa2,sc2,gn2,cn2,ha⟩;have HI4:Hid (yS w p tb cb ob base (g+1) R g2 (some ⟨gn2,0,none⟩) cn2 (ps++[(y,.slice sa2 y.args.length sc2)]) q2 w4):=⟨ha,by omega,by omega,by rw[List.map_append];exact hres⟩;have hm:cm p w4<cm p wr:=by
      rw[HI4.out.arg.par.len,HI.out.arg.par.len,List.length_cons];omega
     have HM:=Za hm;clear ha hc hlen hres hm hfu hle hq;go_wp2_with fail
     go_roundw
     case rel=>exact⟨g2,_,_,_,q2,HI4⟩
     case measure=>exact HM.out
   |false=>
    have HTK:=Za (aO p tb u l [44] wr HI.out.arg.par hu);have hres:(match aV [41] (u::l)with| .error e=> .error e| .ok r=> .ok (ps.map (·.1),r))=R:=by
     have:=HI.out.res;unfold um at this;rw[aH hu]at this;exact this
    clear hu;go_wp2_with fail
    refine HTK.out.mono ?_;rintro e w3 ⟨rfl,hb⟩;have HA3:=Za (HI.out.arg.old hb);have hba:Below w3.heap.size w3 (w3.alloc (.cells #[.string ⟨#[41]⟩] 9)):=bA;have HA4:=Za (HA3.out.old hba);have HWN:=Za (cM p tb (u::l) [41] _ HA4.out.par w3.heap.size 1 ((Zc w3 [.string ⟨#[41]⟩] 9).at 0 _ rfl));clear hb hba;go_wp2_with fail
    refine HWN.out.mono ?_;intro e w5 he
    cases hw:aV [41] (u::l)with
    |error n=>
     rw[hw]at he hres;obtain⟨hf,rfl⟩:=he;have HF:=Za (HA4.out.fr.trans (AFr.of_sfr hf));dsimp only at hres;subst hres;clear hf hw;unfold az;go_wp2_with fail
     exact⟨rfl,rfl,HF.out⟩
    |ok q3=>
     rw[hw]at he hres;obtain⟨hf,rfl,hp⟩:=he;have HA5:=Za (HA4.out.next HN.out hf hp (Nat.le_of_lt (bC hw)));dsimp only at hres;subst hres;clear hf hw hp;go_wp2_with fail
     first
      |go_end0
      |(refine bodyPost_ret (results_none rfl _ _ _) rfl ?_)
     exact⟨rfl,va,vc,ps,rfl,HA5.out⟩
theorem wm(f:Nat)(ih:∀g,g≤f→ji g):sC (f+1):=by
 intro l w p tb hl h;have hmf:∀(fn:Fn) (first cap:Array Value) (w:World),(Instr.makeFunc fn first cap).run Zb w= .ok (.func fn first cap) w:=fun _ _ _ _=>rfl
 have hb1:Below w.heap.size w ((w.alloc (.cells #[.pointer (some ⟨p,0,none⟩)] 64)).alloc (.cells #[.slice none 0 0] 25)):=(bA).alloc (by simp) _;have hc1:=(Zc w [.pointer (some ⟨p,0,none⟩)] 64).alloc (.cells #[.slice none 0 0] 25);have ho1:=Zc (w.alloc (.cells #[.pointer (some ⟨p,0,none⟩)] 64)) [.slice none 0 0] 25;rw[show(w.alloc (.cells #[.pointer (some ⟨p,0,none⟩)] 64)).heap.size=w.heap.size+1 by simp]at ho1;have hp1:=h.old hb1;have hlen:l.length≤1000000:=by obtain⟨_,_,h2⟩:=h;exact h2.fit
 have HB:=Za hb1;have hpl:=h.lt;obtain⟨W,hW⟩:∃W,(w.alloc (.cells #[.pointer (some ⟨p,0,none⟩)] 64)).alloc (.cells #[.slice none 0 0] 25)=W:=⟨_,rfl⟩;have hws:W.heap.size=w.heap.size+2:=by rw[←hW];simp
 rw[hW]at hc1 ho1 hp1 HB;have hno:jU p w.heap.size (w.heap.size+1) (w.heap.size+2) W:=⟨hpl,by omega,by omega,by omega⟩;have hat:eh W p tb w.heap.size (w.heap.size+1) (w.heap.size+2) none 0 [] l W:=⟨AFr.refl _ _ _ _,hp1,hc1,ho1,bG.zero _ _,by simpa using hlen⟩;have key:Calls Zb 125 #[.pointer (some ⟨p,0,none⟩),wT (w.heap.size+1) w.heap.size] W (qg W p tb w.heap.size (w.heap.size+1) (w.heap.size+2) (eP (f+1) l)):=by
  obtain⟨t,r,rfl⟩:=hp1.ends.ne
  cases y:isP [41] t with
  |true=>exact rW f W p tb _ _ _ t r hno hat y
  |false=>exact qO f ih W p tb _ _ _ t r hno hat hl y
 have HK:=Za key;have HPL:=Za hpl;have HLN:=Za hlen;have HWS:=Za hws;have hc0:=hc1.at 0 _ rfl;have HPS:=Za h;have hwl:w.heap.size<W.heap.size:=by omega
 clear key hno hat hp1 hb1 hc1 ho1 h hlen hpl hws;unfold wT at HK;obtain⟨R,hR⟩:∃R,eP (f+1) l=R:=⟨_,rfl⟩;rw[hR]at HK ⊢;have HRR:=Za hR;clear hR;go_enter Tryz.func201,Tryz.ntmps201
 go_upto_region 1 with(fail)
 clear hW;go_wp2_with fail
 refine HK.out.mono ?_;intro e w1 he
 cases R with
 |error n=>
  obtain⟨rfl,hf⟩:=he;have HF:Hid (SFr p w w1):=⟨hf.os.trans HB.out.os,hf.tape.trans HB.out.tape,hf.output.trans HB.out.output,Zd HB.out.size hf.size,fun k hk hp=>(hf.block k (by have:=HWS.out;omega) (by omega) hp (by omega)).trans (HB.out.block k hk)⟩;clear hf;unfold az;go_wp2_with fail
  exact⟨rfl,HF.out,rfl⟩
 |ok q=>
  obtain⟨a,r⟩:=q;obtain⟨rfl,va,vc,ps,rfl,ha⟩:=he;have hf:=ha.fr;have HF:Hid (SFr p w w1):=⟨hf.os.trans HB.out.os,hf.tape.trans HB.out.tape,hf.output.trans HB.out.output,Zd HB.out.size hf.size,fun k hk hp=>(hf.block k (by have:=HWS.out;omega) (by omega) hp (by omega)).trans (HB.out.block k hk)⟩;have HA:=Za ha;clear hf ha;go_wp2_with fail
  have d0:=HA.out.o.at 0 _ rfl;have hex:=HA.out.row.exs (show ps.length≤140737488355328 by have:=HA.out.len;omega);exact bodyPost_ret (v:= .slice va ps.length vc) (by simp [results,Tryz.results201,go_sem,d0]) rfl ⟨HF.out,_,rfl,HA.out.par,hex.up (by omega)⟩
theorem io:∀f:Nat,ns f∧ji f∧mG f∧oG f∧sC f
 |0=>⟨fun lv l w p tb h=>by omega,fun l w p tb h=>by omega,fun l w p tb h=>by omega,fun s l w p tb h=>by omega,fun l w p tb h=>by omega⟩
 |f+1=>by
  have ih:∀g,g≤f→ns g∧ji g∧mG g∧oG g∧sC g:=fun g hg=>io g
  obtain⟨hC,hE,hT,hN,hA⟩:=ih f (Nat.le_refl _);have hc:=tP f hT (fun g hg=>(ih g hg).1);exact⟨hc,expr_of (f+1) hc,uM f hT hE hN,sx f hA hE,wm f (fun g hg=>(ih g hg).2.1)⟩
abbrev ystV(x:St)(a t e:Value):Value:= .agg #[.int .i64 x.kind,.string (aB x.name),a,t,e]
def StsH(B:Nat)(l:List St)(v:Value)(w:World):Prop:=aR (B≤ ·) w l v
def StH(B:Nat)(x:St)(v:Value)(w:World):Prop:= ∃a t e,v=ystV x a t e∧aJ (B≤ ·) w x.args a∧aR (B≤ ·) w x.thn t∧aR (B≤ ·) w x.els e
def InH(B:Nat)(x:Ex)(v:Value)(w:World):Prop:=aJ (B≤ ·) w [x] v
def dH(f:Nat)(l:List Tk):PR (List St):=match aV [123] l with
 | .error e=> .error e
 | .ok r=>cV f [] r
def InsideC(f:Nat):Prop:= ∀l w p tb,4*l.length≤f→Ps w p tb l→Calls Zb 202 #[.pointer (some ⟨p,0,none⟩)] w (eH (InH w.heap.size) w p tb (bq f l))
def SimpleC(f:Nat):Prop:= ∀l w p tb,4*l.length≤f→Ps w p tb l→Calls Zb 204 #[.pointer (some ⟨p,0,none⟩)] w (eH (StH w.heap.size) w p tb (aW f l))
def l9(f:Nat):Prop:= ∀l w p tb,4*l.length≤f→Ps w p tb l→Calls Zb 203 #[.pointer (some ⟨p,0,none⟩)] w (eH (StsH w.heap.size) w p tb (dH f l))
def vB(f:Nat):Prop:= ∀l w p tb,4*l.length+1≤f→Ps w p tb l→Calls Zb 165 #[.pointer (some ⟨p,0,none⟩)] w (eH (StH w.heap.size) w p tb (cW f l))
def qM(f:Nat):Prop:= ∀l w p tb,4*l.length+2≤f→Ps w p tb l→Calls Zb 127 #[.pointer (some ⟨p,0,none⟩)] w (eH (StsH w.heap.size) w p tb (cV f [] l))
theorem aR.up {B B':Nat}{w:World}{l:List St}{v:Value}(h:aR (B≤ ·) w l v)(hb:B'≤B):aR (B'≤ ·) w l v:=h.mono (fun b hx=>Zd hb hx)
theorem jl(f:Nat):InsideC f:=by
 intro l w p tb hl h;have HPW:=Za h.lt;have HNE:Hid (w.heap.size≠p):=by show _≠_;have:=h.lt;omega
 have HF0:=Za (SFr.refl p w);have HP0:=Za h;obtain⟨R,hR⟩:∃R,bq f l=R:=⟨_,rfl⟩;rw[hR];have HRR:=Za hR;clear hR;have hE:=(io f).2.1;have HE:=Za hE;have HL:=Za hl;clear hl hE;clear h;go_enter Tryz.func202,Tryz.ntmps202
 have hba:Below w.heap.size w (w.alloc (.cells #[.string ⟨#[40]⟩] 9)):=bA;have HF1:=Za (HF0.out.trans (Ze hba));have HP1:=Za (HP0.out.old hba);have HWN:=Za (cM p tb l [40] _ HP1.out w.heap.size 1 ((Zc w [.string ⟨#[40]⟩] 9).at 0 _ rfl));clear hba;go_wp2_with fail
 refine(HWN.out).mono ?_;intro e w2 he
 cases hA:aV [40] l with
 |error n=>
  rw[hA]at he;obtain⟨hf,rfl⟩:=he;have HF:=Za (HF1.out.trans hf);have e1:bq f l= .error n:=by unfold bq;rw[hA]
  have e2:=HRR.out.symm.trans e1;subst e2;clear e1 hf;unfold az;go_wp2_with fail
  exact⟨rfl,HF.out,rfl⟩
 |ok r=>
  rw[hA]at he;obtain⟨hf,rfl,hp⟩:=he;have HF2:=Za (HF1.out.trans hf);have HP2:=Za hp;clear hf hp;have HA2:=Za hA;clear hA;clear HWN;have hlr:=bC HA2.out;have HC:Hid (∀w1,Ps w1 p tb r→_):=fun w1 h1=>HE.out r w1 p tb (by have:=HL.out;omega) h1
  clear hlr;go_wp2_with fail
  refine(HC.out _ HP2.out).mono ?_;intro e w3 he
  cases hA:ar f 1 r with
  |error n=>
   rw[hA]at he;obtain⟨hf,rfl⟩:=he;have HF:=Za (HF2.out.trans hf);have e1:bq f l= .error n:=by unfold bq;rw[HA2.out];dsimp only;rw[hA]
   have e2:=HRR.out.symm.trans e1;subst e2;clear e1 hf;unfold az;go_wp2_with fail
   exact⟨rfl,HF.out,rfl⟩
  |ok q=>
   obtain⟨x,r2⟩:=q;rw[hA]at he;obtain⟨hf,v,rfl,hp,hv⟩:=he;obtain⟨s3,rfl,hx,hn⟩:=hv;obtain⟨a1,a2,rfl⟩:=hx.shape;have HX3:=Za (hx.up HF2.out.size);have HN:=Za hn;clear hx hn;have HF3:=Za (HF2.out.trans hf);have HP3:=Za hp;clear hf hp;have HA3:=Za hA;clear hA;go_upto_region 3 with(fail)
   obtain⟨W,hW⟩:∃W,w3.alloc (.cells #[.int .i64 x.kind,.int .i64 x.op,.int .i64 x.n,.string (aB x.name),.slice a1 x.args.length a2] 27)=W:=⟨_,rfl⟩;rw[hW];have hba:Below w3.heap.size w3 W:=hW ▸ bA;have HF4:=Za (HF3.out.trans (Ze hba));have HP4:=Za (HP3.out.old hba);have HX4:=Za (HX3.out.old hba);have HE4:=Za (hW ▸ Zc w3 [.int .i64 x.kind,.int .i64 x.op,.int .i64 x.n,.string (aB x.name),.slice a1 x.args.length a2] 27);have HEP:Hid (w3.heap.size≠p):=by show _≠_;have:=HP3.out.lt;omega
   clear hba hW;obtain⟨w4,hWW⟩:∃w4,w4=W:=⟨_,rfl⟩;subst hWW;have hba:Below w4.heap.size w4 (w4.alloc (.cells #[.string ⟨#[41]⟩] 9)):=bA;have HF5:=Za (HF4.out.trans (Ze hba));have HP5:=Za (HP4.out.old hba);have HE5:=Za (HE4.out.old hba);have HX5:=Za (HX4.out.old hba);have HWN:=Za (cM p tb r2 [41] _ HP5.out w4.heap.size 1 ((Zc w4 [.string ⟨#[41]⟩] 9).at 0 _ rfl));clear hba;go_wp2_with fail
   refine(HWN.out).mono ?_;intro e w6 he
   cases hA:aV [41] r2 with
   |error n=>
    rw[hA]at he;obtain⟨hf,rfl⟩:=he;have HF:=Za (HF5.out.trans hf);have e1:bq f l= .error n:=by unfold bq;rw[HA2.out];dsimp only;rw[HA3.out];dsimp only;rw[hA]
    have e2:=HRR.out.symm.trans e1;subst e2;clear e1 hf;unfold az;go_wp2_with fail
    exact⟨rfl,HF.out,rfl⟩
   |ok r3=>
    rw[hA]at he;obtain⟨hf,rfl,hp⟩:=he;have HF6:=Za (HF5.out.trans hf);have HP6:=Za hp;have HE6:=Za (HE5.out.sfr hf HEP.out);have HX6:=Za (HX5.out.keep (hf.fresh (by have:=HPW.out;omega)));clear hf hp;have HA6:=Za hA;clear hA;clear HWN;obtain⟨⟨e0,e1,e2,e3,e4⟩,ef0,ef1,ef2,ef3,ef4⟩:=bL HE6.out;have elt:=HE6.out.lt;have HB:=Za (tM HX6.out HN.out HF6.out.size);have HF7:Hid (SFr p w (w6.alloc (.cells #[.int .i64 x.kind,.int .i64 x.op,.int .i64 x.n,.string (aB x.name),.slice a1 x.args.length a2] 27))):=HF6.out.trans (Ze (bA));have HP7:=Za (HP6.out.alloc (.cells #[.int .i64 x.kind,.int .i64 x.op,.int .i64 x.n,.string (aB x.name),.slice a1 x.args.length a2] 27));go_wp2_with fail
    have e1:bq f l= .ok (x,r3):=by unfold bq;rw[HA2.out];dsimp only;rw[HA3.out];dsimp only;rw[HA6.out]
    have e2:=HRR.out.symm.trans e1;subst e2;go_ret
    exact⟨HF7.out,_,rfl,HP7.out,HB.out⟩
theorem rK(f:Nat)(hS:qM f):l9 f:=by
 intro l w p tb hl h;have HPW:=Za h.lt;have HNE:Hid (w.heap.size≠p):=by show _≠_;have:=h.lt;omega
 have HF0:=Za (SFr.refl p w);have HP0:=Za h;obtain⟨R,hR⟩:∃R,dH f l=R:=⟨_,rfl⟩;rw[hR];have HRR:=Za hR;clear hR;have HS:=Za hS;have HL:=Za hl;clear hl hS;clear h;go_enter Tryz.func203,Tryz.ntmps203
 have hba:Below w.heap.size w (w.alloc (.cells #[.string ⟨#[123]⟩] 9)):=bA;have HF1:=Za (HF0.out.trans (Ze hba));have HP1:=Za (HP0.out.old hba);have HWN:=Za (cM p tb l [123] _ HP1.out w.heap.size 1 ((Zc w [.string ⟨#[123]⟩] 9).at 0 _ rfl));clear hba;go_wp2_with fail
 refine(HWN.out).mono ?_;intro e w2 he
 cases hA:aV [123] l with
 |error n=>
  rw[hA]at he;obtain⟨hf,rfl⟩:=he;have HF:=Za (HF1.out.trans hf);have e1:dH f l= .error n:=by unfold dH;rw[hA]
  have e2:=HRR.out.symm.trans e1;subst e2;clear e1 hf;unfold az;go_wp2_with fail
  exact⟨rfl,HF.out,rfl⟩
 |ok r=>
  rw[hA]at he;obtain⟨hf,rfl,hp⟩:=he;have HF2:=Za (HF1.out.trans hf);have HP2:=Za hp;clear hf hp;have HA2:=Za hA;clear hA;clear HWN;have hlr:=bC HA2.out;have HC:Hid (∀w1,Ps w1 p tb r→_):=fun w1 h1=>HS.out r w1 p tb (by have:=HL.out;omega) h1
  clear hlr;go_wp2_with fail
  refine(HC.out _ HP2.out).mono ?_;intro e w3 he
  cases hA:cV f [] r with
  |error n=>
   rw[hA]at he;obtain⟨hf,rfl⟩:=he;have HF:=Za (HF2.out.trans hf);have e1:dH f l= .error n:=by unfold dH;rw[HA2.out];exact hA
   have e2:=HRR.out.symm.trans e1;subst e2;clear e1 hf;unfold az;go_wp2_with fail
   exact⟨rfl,HF.out,rfl⟩
  |ok q=>
   obtain⟨x,r2⟩:=q;rw[hA]at he;obtain⟨hf,v,rfl,hp,hv⟩:=he;have hv:aR (w2.heap.size≤ ·) w3 x v:=hv;obtain⟨a1,a2,rfl⟩:=hv.shape;have HX3:=Za (hv.up HF2.out.size);clear hv;have HF3:=Za (HF2.out.trans hf);have HP3:=Za hp;clear hf hp;have HA3:=Za hA;clear hA;go_wp2_with fail
   have e1:dH f l= .ok (x,r2):=by unfold dH;rw[HA2.out];exact HA3.out
   have e2:=HRR.out.symm.trans e1;subst e2;go_ret
   exact⟨HF3.out,_,rfl,HP3.out,HX3.out⟩
end Go.Proofs.YtcfpfnoldgnloaaGreatDoor
