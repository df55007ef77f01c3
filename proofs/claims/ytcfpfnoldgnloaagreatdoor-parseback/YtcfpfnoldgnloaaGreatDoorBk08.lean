/-
  Rows of plain elements that the parser appends to: names, arrays.
-/
import Derived.Test.YtcfpfnoldgnloaaGreatDoorBk07
set_option linter.unusedVariables false
set_option linter.unusedSimpArgs false
namespace Go.Proofs.YtcfpfnoldgnloaaGreatDoor
open Go.RowKit
set_option maxHeartbeats 20000000
set_option maxRecDepth 100000
open Go.Lib renaming hid→Za
open Go.Proofs.Tryz renaming prog→Zb
open Below renaming refl→Zc
open List renaming getElem?_eq_getElem→Zd,getD_eq_getElem?_getD→Ze
def eY {α:Type}(e:TypeId)(cf:α→List Value)(k:Nat)(w:World)(base:Nat)(L:List α)(v:Value):Prop:=w.ownsRow base e k v L.length (L.flatMap cf)
section
variable {α:Type} {e:TypeId} {cf:α→List Value} {k:Nat} {w w':World} {base:Nat} {L:List α} {v:Value}
theorem eY.zero(e:TypeId)(cf:α→List Value)(k:Nat)(w:World)(base:Nat):eY e cf k w base [] (.slice none 0 0):=World.ownsRow_nil _ _ _ _
theorem eY.lt(h:eY e cf k w base L v):∀g,v.ownBlock=some g→base≤g∧g<w.heap.size:=World.ownsRow.lt h
theorem eY.grown(h:eY e cf k w base L v){row:Option Nat}(hg:w.grownBy w' row)(hne:v.ownBlock=none∨v.ownBlock≠row):eY e cf k w' base L v:=World.ownsRow.kept h hg hne
theorem eY.sfr(h:eY e cf k w base L v){p:Nat}(hf:SFr p w w')(hp:p<base):eY e cf k w' base L v:=by
 refine⟨h.1,?_⟩;rcases h.2 with hn|⟨g,cap,cur,rfl,hg,hh,r⟩
 ·exact .inl hn
 ·refine .inr ⟨g,cap,cur,rfl,hg,?_,r⟩
  rw[hf.block g (by
   rcases Nat.lt_or_ge g w.heap.size with h'|h'
   ·exact h'
   ·simp [Array.getElem?_eq_none h']at hh) (by omega)]
  exact hh
theorem eY.old(h:eY e cf k w base L v)(hb:Below w.heap.size w w'):eY e cf k w' base L v:=by
 refine⟨h.1,?_⟩;rcases h.2 with hn|⟨g,cap,cur,rfl,hg,hh,r⟩
 ·exact .inl hn
 ·refine .inr ⟨g,cap,cur,rfl,hg,?_,r⟩
  rw[hb.block g (by
   rcases Nat.lt_or_ge g w.heap.size with h'|h'
   ·exact h'
   ·simp [Array.getElem?_eq_none h']at hh)]
  exact hh
theorem eY.low(h:eY e cf k w base L v){b:Nat}(hb:b<base)(i:Nat)(x:Value):eY e cf k (w.setCell ⟨b,i,none⟩ x) base L v:=by
 refine⟨h.1,?_⟩;rcases h.2 with hn|⟨g,cap,cur,rfl,hg,hh,r⟩
 ·exact .inl hn
 ·refine .inr ⟨g,cap,cur,rfl,hg,?_,r⟩
  rw[Below.heap_setCell _ _ _ _ (show g≠b by omega)];exact hh
theorem eY.shape(h:eY e cf k w base L v):∃a cap,v= .slice a L.length cap:=by
 rcases h.2 with⟨h1,h2⟩|⟨g,cap,cur,rfl,_⟩
 ·exact⟨none,0,by rw[h1,h2]⟩
 ·exact⟨_,_,rfl⟩
end
section
variable (w:World) {o:Oper} {a:Act} {K:Act→World→Prop} {Q:Exit→Act→World→Prop}
theorem sF {α:Type}(s x:Operand)(t:TypeId)(ho:o.op= .call {callee:= .builtin .append,args:= #[s,x],argTypes:= #[t,t]})
  (e:TypeId) (ht:Tryz.prog.underlying t=some (.slice e)) (z:Value) (k bytes:Nat) (hinfo:(Tryz.prog.info? e).map (fun i=>(i.zero,i.size,i.bytes))=some (some z,k,bytes)) (hzs:z.cells.size=k) (hk:0<k)
  (cf:α→List Value) (hf:∀x,(cf x).length=k) (h1:∀x u,u∈cf x→u.oneCell'=true)
  (base:Nat) (L:List α) (v:Value) (hs:a.eval s=v) (hown:eY e cf k w base L v) (y:α) (b c:Nat) (hx:a.eval x= .slice (some ⟨b,0,none⟩) 1 c) (hnew:aG w b (cf y) e)
  (hlen:(L.length+1)*bytes≤140737488355328) (hl2:L.length+1≤140737488355328) (hbase:base≤w.heap.size)
  (h:∀g cap w',eY e cf k w' base (L++[y]) (.slice (some ⟨g,0,none⟩) (L.length+1) cap)→w.grownBy w' v.ownBlock→(v.ownBlock=some g∨g=w.heap.size)→g<w'.heap.size→K (a.put o.dst (.slice (some ⟨g,0,none⟩) (L.length+1) cap)) w'):o.wp Zb a w K Q:=by
 obtain⟨i0,hi,hz0,hz1,hz2⟩:=info_parts hinfo;refine wp_append_lies (P:=Zb) w s x t ho base e i0 z k bytes ht hi hz0 hz1 hz2 hzs hk v L.length (L.flatMap cf) hs hown ⟨b,0,none⟩ 1 c (cf y) hx (by rw[hf,Nat.one_mul]) hnew.newsY (h1 y) (by decide) (by unfold maxLen;omega) hlen hbase _ rfl ?_;intro g cap w' hown' hg hat hlt;refine h g cap w' ?_ hg hat hlt;unfold eY;simpa using hown'
end
theorem infoYS:(Tryz.prog.info? 9).map (fun i=>(i.zero,i.size,i.bytes))=some (some (.string ⟨#[]⟩),1,16):=by kernel_rfl
theorem infoYA:(Tryz.prog.info? 85).map (fun i=>(i.zero,i.size,i.bytes))=some (some (.agg #[.string ⟨#[]⟩,.int .i64 0]),2,24):=by kernel_rfl
theorem infoYF:(Tryz.prog.info? 58).map (fun i=>(i.zero,i.size,i.bytes))=some (some (.agg #[.string ⟨#[]⟩,.slice none 0 0,.slice none 0 0,.slice none 0 0]),4,88):=by kernel_rfl
def fp(s:Bs):List Value:=[.string (aB s)]
def fq(x:Ar):List Value:=[.string (aB x.name),.int .i64 x.size]
abbrev iE(w:World)(base:Nat)(L:List Bs)(v:Value):Prop:=eY 9 fp 1 w base L v
abbrev nQ(w:World)(base:Nat)(L:List Ar)(v:Value):Prop:=eY 85 fq 2 w base L v
theorem ys_one(x:Bs):∀u,u∈fp x→u.oneCell'=true:=by
 intro u hu;simp only[fp,List.mem_cons,List.not_mem_nil,or_false]at hu;subst hu;rfl
theorem ya_one(x:Ar):∀u,u∈fq x→u.oneCell'=true:=by
 intro u hu;simp only[fq,List.mem_cons,List.not_mem_nil,or_false]at hu;rcases hu with rfl|rfl<;>rfl
section
variable (w:World) {o:Oper} {a:Act} {K:Act→World→Prop} {Q:Exit→Act→World→Prop}
theorem uh(s x:Operand)(ho:o.op= .call {callee:= .builtin .append,args:= #[s,x],argTypes:= #[24,24]})
  (base:Nat) (L:List Bs) (v:Value) (hs:a.eval s=v) (hown:iE w base L v) (y:Bs) (b c:Nat) (hx:a.eval x= .slice (some ⟨b,0,none⟩) 1 c) (hnew:aG w b (fp y) 9)
  (hlen:L.length≤1000000) (hbase:base≤w.heap.size)
  (h:∀g cap w',iE w' base (L++[y]) (.slice (some ⟨g,0,none⟩) (L.length+1) cap)→w.grownBy w' v.ownBlock→(v.ownBlock=some g∨g=w.heap.size)→g<w'.heap.size→K (a.put o.dst (.slice (some ⟨g,0,none⟩) (L.length+1) cap)) w'):o.wp Zb a w K Q:=
 sF w s x _ ho 9 Tryz.underlying24 _ 1 16 infoYS rfl (by decide) fp (fun _=>rfl) ys_one base L v hs hown y b c hx hnew (by omega) (by omega) hbase h
theorem wp_yarr(s x:Operand)(ho:o.op= .call {callee:= .builtin .append,args:= #[s,x],argTypes:= #[31,31]})
  (base:Nat) (L:List Ar) (v:Value) (hs:a.eval s=v) (hown:nQ w base L v) (y:Ar) (b c:Nat) (hx:a.eval x= .slice (some ⟨b,0,none⟩) 1 c) (hnew:aG w b (fq y) 85)
  (hlen:L.length≤1000000) (hbase:base≤w.heap.size)
  (h:∀g cap w',nQ w' base (L++[y]) (.slice (some ⟨g,0,none⟩) (L.length+1) cap)→w.grownBy w' v.ownBlock→(v.ownBlock=some g∨g=w.heap.size)→g<w'.heap.size→K (a.put o.dst (.slice (some ⟨g,0,none⟩) (L.length+1) cap)) w'):o.wp Zb a w K Q:=
 sF w s x _ ho 85 Tryz.underlying31 _ 2 24 infoYA rfl (by decide) fq (fun _=>rfl) ya_one base L v hs hown y b c hx hnew (by omega) (by omega) hbase h
end
theorem iY {α:Type}(f:α→List Value)(k:Nat)(hf:∀x,(f x).length=k):∀(l:List α) (i q:Nat) (p:α),l[i]? =some p→q<k→(l.flatMap f)[i*k+q]? =(f p)[q]?
 |[],i,q,p,h,_=>by simp at h
 |x::l,0,q,p,h,hq=>by
  simp at h;subst h;rw[List.flatMap_cons,List.getElem?_append_left (by rw[hf];omega)];simp
 |x::l,i+1,q,p,h,hq=>by
  simp at h;have:=iY f k hf l i q p h hq;rw[List.flatMap_cons,List.getElem?_append_right (by rw[hf,Nat.succ_mul];omega),hf,←this];congr 1;rw[Nat.succ_mul];omega
theorem iE.strs {w:World}{base:Nat}{L:List Bs}{v:Value}(h:iE w base L v)(hl:L.length≤1000000):ag (base≤ ·) w L v:=by
 obtain⟨a,cap,rfl⟩:=h.shape;rcases h.2 with⟨h1,h2⟩|⟨g,cap2,cur,hv,hg,hh,hc,r⟩
 ·injection h1 with h1 h3 h4
  exact⟨a,cap,0,0,rfl,by omega,by show _≤_;omega,.inl h2,fun i hi=>by omega⟩
 ·injection hv with hv1 _ hv3
  subst hv1 hv3;refine⟨_,cap,g,0,rfl,hc,by show _≤_;omega,.inr ⟨rfl,hg⟩,fun i hi=> ?_⟩;have h1:=h.cellAt (i*1+0) (by omega);rw[iY fp 1 (fun _=>rfl) L i 0 L[i] (Zd hi) (by decide)]at h1;have e:(⟨g,i*1+0,none⟩:Addr)=⟨g,0+i,none⟩:=by simp
  rw[e]at h1;rw[h1];simp [fp,Ze,Zd hi]
theorem nQ.ars {w:World}{base:Nat}{L:List Ar}{v:Value}(h:nQ w base L v)(hl:L.length≤1000000):bK (base≤ ·) w L v:=by
 obtain⟨a,cap,rfl⟩:=h.shape;rcases h.2 with⟨h1,h2⟩|⟨g,cap2,cur,hv,hg,hh,hc,r⟩
 ·injection h1 with h1 h3 h4
  exact⟨a,cap,0,0,rfl,by omega,by show _≤_;omega,.inl h2,fun i hi=>by omega⟩
 ·injection hv with hv1 _ hv3
  subst hv1 hv3;refine⟨_,cap,g,0,rfl,hc,by show _≤_;omega,.inr ⟨rfl,hg⟩,fun i hi=>⟨?_,?_⟩⟩
  ·have h1:=h.cellAt (i*2+0) (by omega)
   rw[iY fq 2 (fun _=>rfl) L i 0 L[i] (Zd hi) (by decide)]at h1;have e:(⟨g,i*2+0,none⟩:Addr)=⟨g,0+i*2,none⟩:=by simp
   rw[e]at h1;rw[h1];simp [fq,gV,Ze,Zd hi]
  ·have h1:=h.cellAt (i*2+1) (by omega)
   rw[iY fq 2 (fun _=>rfl) L i 1 L[i] (Zd hi) (by decide)]at h1;have e:(⟨g,i*2+1,none⟩:Addr)=⟨g,0+i*2+1,none⟩:=by simp
   rw[e]at h1;rw[h1];simp [fq,gV,Ze,Zd hi]
structure VY3 (p tb cb ob base:Nat)(nm:Bs)(va:Option Addr)(vc:Nat)(S:List Bs)(ov:Value)(s:Bs)(l r:List Tk)(err:Option Int)(W:World)(L:Nat→Bool)(nb:Nat)(gn:Nat)(cn:Nat)(z5 z6 z7 z8 z9 z10 z11:Value)(wx:World):Prop where
 ord:L 7=true→∀j,j<7→L j=true
 p4_3:L 4=true→L 3=true
 p5_3:L 5=true→L 3=true
 p5_4:L 5=true→L 4=true
 p7_5:L 7=true→L 5=true
 c0:L 0=true→z5= .pointer (some ⟨ob,1,none⟩)
 c1:L 1=true→z6= .slice va S.length vc
 c2:L 2=true→z7= .pointer (some ⟨p,0,none⟩)
 c3:L 3=true→z8= .string (aB s)
 c4:L 4=true→z9= .slice (some ⟨nb,0,none⟩) 1 1
 c5:L 5=true→z10= .slice (some ⟨gn,0,none⟩) (S.length+1) cn
 c6:L 6=true→z11= .pointer (some ⟨ob,1,none⟩)
 fr:AFr p ob base W wx
 pa:L 3=false→Ps wx p tb l
 pb:L 3=true→Ps wx p tb r
 c:aG wx cb [.pointer (some ⟨p,0,none⟩)] 64
 x:L 7=false→aG wx ob [.string (aB nm),.slice va S.length vc,ov,.slice none 0 0] 58
 x7:L 7=true→aG wx ob [.string (aB nm),.slice (some ⟨gn,0,none⟩) (S.length+1) cn,ov,.slice none 0 0] 58
 ra:L 5=false→iE wx base S (.slice va S.length vc)
 rb:L 5=true→iE wx base (S++[s]) (.slice (some ⟨gn,0,none⟩) (S.length+1) cn)∧((Value.slice va S.length vc).ownBlock=some gn∨W.heap.size≤gn)
 g4:L 4=true→L 5=false→aG wx nb (fp s) 9∧base≤nb
 gr:∀b,b<W.heap.size→base≤b→(Value.slice va S.length vc).ownBlock≠some b→wx.heap[b]? =W.heap[b]?
def IY3(p tb cb ob base:Nat)(nm:Bs)(va:Option Addr)(vc:Nat)(S:List Bs)(ov:Value)(s:Bs)(l r:List Tk)(err:Option Int)(W:World)(q2 q3 q4:Value)(L:Nat→Bool)(a':Act)(w':World):Prop:=
 ∃nb:Nat,∃gn:Nat,∃cn:Nat,∃z5 z6 z7 z8 z9 z10 z11:Value,VY3 p tb cb ob base nm va vc S ov s l r err W L nb gn cn z5 z6 z7 z8 z9 z10 z11 w'∧a'=⟨[.pointer (some ⟨cb,0,none⟩),.pointer (some ⟨ob,0,none⟩),q2,q3,q4,z5,z6,z7,z8,z9,z10,z11].toArray,[]⟩
def RY3(p tb cb ob base:Nat)(nm:Bs)(va:Option Addr)(vc:Nat)(S:List Bs)(ov:Value)(s:Bs)(l r:List Tk)(err:Option Int)(W:World)(q2 q3 q4:Value)(a':Act)(w':World):Prop:=
 ∃nb:Nat,∃gn:Nat,∃cn:Nat,(AFr p ob base W w'∧Ps w' p tb r∧aG w' cb [.pointer (some ⟨p,0,none⟩)] 64∧aG w' ob [.string (aB nm),.slice (some ⟨gn,0,none⟩) (S.length+1) cn,ov,.slice none 0 0] 58∧iE w' base (S++[s]) (.slice (some ⟨gn,0,none⟩) (S.length+1) cn)∧((Value.slice va S.length vc).ownBlock=some gn∨W.heap.size≤gn)∧(∀b,b<W.heap.size→base≤b→(Value.slice va S.length vc).ownBlock≠some b→w'.heap[b]? =W.heap[b]?))∧a'=⟨[.pointer (some ⟨cb,0,none⟩),.pointer (some ⟨ob,0,none⟩),q2,q3,q4,.pointer (some ⟨ob,1,none⟩),.slice va S.length vc,.pointer (some ⟨p,0,none⟩),.string (aB s),.slice (some ⟨nb,0,none⟩) 1 1,.slice (some ⟨gn,0,none⟩) (S.length+1) cn,.pointer (some ⟨ob,1,none⟩)].toArray,[]⟩
theorem yR(p tb cb ob base:Nat)(nm:Bs)(va:Option Addr)(vc:Nat)(S:List Bs)(ov:Value)(s:Bs)(l r:List Tk)(err:Option Int)(W:World)(hps:Ps W p tb l)(hc:aG W cb [.pointer (some ⟨p,0,none⟩)] 64)(ho:aG W ob [.string (aB nm),.slice va S.length vc,ov,.slice none 0 0] 58)(hrow:iE W base S (.slice va S.length vc))(hpc:p<cb)(hco:cb<ob)(hob:ob<base)(hbs:base≤W.heap.size)(hll:S.length≤1000000)(HNM:Hid (∀w1,Ps w1 p tb l→Calls Zb 65 #[.pointer (some ⟨p,0,none⟩)] w1 fun e w'=>match err with|some n=>e=az n∧SFr p w1 w'|none=>e= .returned (.string (aB s))∧SFr p w1 w'∧Ps w' p tb r))(Q:Exit→Act→World→Prop)(hQ:∀n a' w',err=some n→a'.defers=[]→AFr p ob base W w'→Q (.panic [{v:= .iface 110 (.agg #[.int .i64 n]),recovered:=false}]) a' w')(q2 q3 q4 q5 q6 q7 q8 q9 q10 q11:Value)(J K':Act→World→Prop)(hJ:∀a' w',RY3 p tb cb ob base nm va vc S ov s l r err W q2 q3 q4 a' w'→J a' w')(hM:∀a' w',Met J a' w'→K' a' w'):
  Code.wp Zb ((Tryz.f126.body.bind (gZ 1)).getD .skip) (Exit.then K' Q) ⟨[.pointer (some ⟨cb,0,none⟩),.pointer (some ⟨ob,0,none⟩),q2,q3,q4,q5,q6,q7,q8,q9,q10,q11].toArray,[]⟩ W:=by
 have HPS:=Za hps;have HC:=Za hc;have HO:=Za ho;have HROW:=Za hrow;have HQ:=Za hQ;clear hps hc ho hrow hQ
 conv=>arg 2;whnf
 (try dsimp only);refine db (by kernel_rfl) (by kernel_rfl) (IY3 p tb cb ob base nm va vc S ov s l r err W q2 q3 q4) ?_ ?_ ?_
 ·exact⟨0,0,0,q5,q6,q7,q8,q9,q10,q11,⟨(fun h=>by cases h),(fun h=>by cases h),(fun h=>by cases h),(fun h=>by cases h),(fun h=>by cases h),(fun h=>by cases h),(fun h=>by cases h),(fun h=>by cases h),(fun h=>by cases h),(fun h=>by cases h),(fun h=>by cases h),(fun h=>by cases h),((AFr.refl p ob base W).old (Zc _ _).drew),(fun _=>HPS.out.old (Zc _ _).drew),(fun h=>by cases h),(HC.out.old (Zc _ _).drew),(fun _=>HO.out.old (Zc _ _).drew),(fun h=>by cases h),(fun _=>HROW.out.old (Zc _ _).drew),(fun h=>by cases h),(fun h=>fun _=>by cases h),(fun b _ _ _=>rfl)⟩,rfl⟩
 ·intro L act wx k hI hk hl hd
  obtain⟨nb,gn,cn,z5,z6,z7,z8,z9,z10,z11,hV,rfl⟩:=hI;have hk:k=0∨k=1∨k=2∨k=3∨k=4∨k=5∨k=6∨k=7:=by
   have:k<8:=hk;omega
  rcases hk with rfl|rfl|rfl|rfl|rfl|rfl|rfl|rfl
  ·have nl:=kf hV.ord hl
   refine am _ rfl rfl (fun K' hK=> ?_)
   conv=>arg 2;whnf
   go_wp2_with fail
   exact⟨nb,gn,cn,.pointer (some ⟨ob,1,none⟩),z6,z7,z8,z9,z10,z11,⟨kl nl,kq hV.p4_3,kq hV.p5_3,kq hV.p5_4,kq hV.p7_5,(fun _=>rfl),kc hV.c1,kc hV.c2,kc hV.c3,kc hV.c4,kc hV.c5,kc hV.c6,hV.fr,(fun h0=>hV.pa (kb h0)),kc hV.pb,hV.c,(fun h0=>hV.x (kb h0)),kl nl,(fun h0=>hV.ra (kb h0)),kc hV.rb,(fun h0=>fun h1=>hV.g4 (kb h0) (kb h1)),hV.gr⟩,rfl⟩
  ·have nl:=kf hV.ord hl
   have d0:L 0=true:=hd _ rfl ⟨0,.data⟩ (by simp) rfl;obtain rfl:=(hV.c0 d0).symm;have l7:L 7=false:=nl;have ho:=hV.x l7;have x1:=ho.at 1 _ rfl;refine am _ rfl rfl (fun K' hK=> ?_)
   conv=>arg 2;whnf
   go_wp2_with fail
   exact⟨nb,gn,cn,.pointer (some ⟨ob,1,none⟩),.slice va S.length vc,z7,z8,z9,z10,z11,⟨kl nl,kq hV.p4_3,kq hV.p5_3,kq hV.p5_4,kq hV.p7_5,kc hV.c0,(fun _=>rfl),kc hV.c2,kc hV.c3,kc hV.c4,kc hV.c5,kc hV.c6,hV.fr,(fun h0=>hV.pa (kb h0)),kc hV.pb,hV.c,(fun h0=>hV.x (kb h0)),kl nl,(fun h0=>hV.ra (kb h0)),kc hV.rb,(fun h0=>fun h1=>hV.g4 (kb h0) (kb h1)),hV.gr⟩,rfl⟩
  ·have nl:=kf hV.ord hl
   have hc0:=hV.c.at 0 _ rfl;refine am _ rfl rfl (fun K' hK=> ?_)
   conv=>arg 2;whnf
   go_wp2_with fail
   exact⟨nb,gn,cn,z5,z6,.pointer (some ⟨p,0,none⟩),z8,z9,z10,z11,⟨kl nl,kq hV.p4_3,kq hV.p5_3,kq hV.p5_4,kq hV.p7_5,kc hV.c0,kc hV.c1,(fun _=>rfl),kc hV.c3,kc hV.c4,kc hV.c5,kc hV.c6,hV.fr,(fun h0=>hV.pa (kb h0)),kc hV.pb,hV.c,(fun h0=>hV.x (kb h0)),kl nl,(fun h0=>hV.ra (kb h0)),kc hV.rb,(fun h0=>fun h1=>hV.g4 (kb h0) (kb h1)),hV.gr⟩,rfl⟩
  ·have nl:=kf hV.ord hl
   have d2:L 2=true:=hd _ rfl ⟨2,.data⟩ (by simp) rfl;obtain rfl:=(hV.c2 d2).symm;have hps:=hV.pa hl;refine am _ rfl rfl (fun K' hK=> ?_)
   conv=>arg 2;whnf
   have HPX:=Za hps;have HFX:=Za hV.fr;clear hps;go_wp2_with fail
   refine(HNM.out _ HPX.out).mono ?_;intro e w7 he
   cases err with
   |some n=>
    obtain⟨rfl,hf⟩:=he;unfold az;have HF:=Za (HFX.out.trans (AFr.of_sfr hf));clear hf hK hV;go_wp2_with fail
    exact HQ.out n _ _ rfl rfl HF.out
   |none=>
   obtain⟨rfl,hf7,hp7⟩:=he;go_wp2_with fail
   exact⟨nb,gn,cn,z5,z6,.pointer (some ⟨p,0,none⟩),.string (aB s),z9,z10,z11,⟨kl nl,(fun _=>ak L 3),(fun _=>ak L 3),kq hV.p5_4,kq hV.p7_5,kc hV.c0,kc hV.c1,kc hV.c2,(fun _=>rfl),kc hV.c4,kc hV.c5,kc hV.c6,(hV.fr.trans (AFr.of_sfr hf7)),(ks),(fun _=>hp7),(hV.c.sfr hf7 (by omega)),(fun h=>(hV.x (kb h)).sfr hf7 (by omega)),kl nl,(fun h=>(hV.ra (kb h)).sfr hf7 (by omega)),(fun h=>⟨eY.sfr (hV.rb (kb h)).1 hf7 (by omega),(hV.rb (kb h)).2⟩),(fun h1 h2=>⟨aG.sfr (hV.g4 (kb h1) (kb h2)).1 hf7 (by have:=(hV.g4 (kb h1) (kb h2)).2;omega),(hV.g4 (kb h1) (kb h2)).2⟩),(fun b h1 h2 h3=>(hf7.block b (by have:=hV.fr.size;omega) (by omega)).trans (hV.gr b h1 h2 h3))⟩,rfl⟩
  ·have nl:=kf hV.ord hl
   have d3:L 3=true:=hd _ rfl ⟨3,.data⟩ (by simp) rfl;obtain rfl:=(hV.c3 d3).symm;have hal:Below wx.heap.size wx (wx.alloc (.cells #[.string (aB s)] 9)):=bA;have hfs:=hV.fr.size;refine am _ rfl rfl (fun K' hK=> ?_)
   conv=>arg 2;whnf
   go_wp2_with fail
   exact⟨wx.heap.size,gn,cn,z5,z6,z7,.string (aB s),.slice (some ⟨(wx.heap.size),0,none⟩) 1 1,z10,z11,⟨kl nl,(kd (d3)),kq hV.p5_3,(fun _=>ak L 4),kq hV.p7_5,kc hV.c0,kc hV.c1,kc hV.c2,kc hV.c3,(fun _=>rfl),kc hV.c5,kc hV.c6,(AFr.old (hV.fr) hal),(fun h0=>Ps.old (hV.pa (kb h0)) hal),(fun h0=>Ps.old (hV.pb (kb h0)) hal),(aG.old (hV.c) hal),(fun h0=>aG.old (hV.x (kb h0)) hal),kl nl,(fun h0=>eY.old (hV.ra (kb h0)) hal),(kn hV.p5_4 hl),(fun _ _=>⟨aG.new wx (fp s) 9,by omega⟩),(fun b h1 h2 h3=>(hal.block b (by omega)).trans ((hV.gr) b h1 h2 h3))⟩,rfl⟩
  ·have nl:=kf hV.ord hl
   have d1:L 1=true:=hd _ rfl ⟨1,.data⟩ (by simp) rfl;obtain rfl:=(hV.c1 d1).symm;have d3:L 3=true:=hd _ rfl ⟨3,.chain⟩ (by simp) rfl;have d4:L 4=true:=hd _ rfl ⟨4,.data⟩ (by simp) rfl;obtain rfl:=(hV.c4 d4).symm;have d3:L 3=true:=hd _ rfl ⟨3,.chain⟩ (by simp) rfl;have hg4:=hV.g4 d4 hl;have hra:=hV.ra hl;have hfs:=hV.fr.size;refine am _ rfl rfl (fun K' hK=> ?_)
   conv=>arg 2;whnf
   refine uh wx _ _ rfl base S (.slice va S.length vc) rfl hra s nb 1 rfl hg4.1 hll (Nat.le_trans hbs hfs) ?_;intro g2 cap2 w2 hr2 hg2 ha2 hl2;have hrg:∀k,(Value.slice va S.length vc).ownBlock=some k→base≤k:=fun k e=>(hra.lt k e).1
   go_wp2_with fail
   exact⟨nb,g2,cap2,z5,.slice va S.length vc,z7,z8,.slice (some ⟨nb,0,none⟩) 1 1,.slice (some ⟨(g2),0,none⟩) (S.length+1) (cap2),z11,⟨kl nl,kq hV.p4_3,(kd (d3)),(kd (d4)),(fun _=>ak L 5),kc hV.c0,kc hV.c1,kc hV.c2,kc hV.c3,kc hV.c4,(fun _=>rfl),kc hV.c6,(hV.fr.grown hg2 hrg),(fun h=>by rw[aI L (by decide)]at h;rw[d3]at h;cases h),(fun _=>(hV.pb d3).grown hg2 hrg (by omega)),(hV.c.grew hg2 (fun e=>by have:=hrg _ e;omega)),(fun h=>(hV.x (kb h)).grew hg2 (fun e=>by have:=hrg _ e;omega)),kl nl,(ks),(fun _=>⟨hr2,by rcases ha2 with h|h;exact .inl h;exact .inr (by omega)⟩),(fun _=>ks),(fun b h1 h2 h3=>(hg2.block b (by omega) (fun e=>h3 e.symm)).trans (hV.gr b h1 h2 h3))⟩,rfl⟩
  ·have nl:=kf hV.ord hl
   refine am _ rfl rfl (fun K' hK=> ?_)
   conv=>arg 2;whnf
   go_wp2_with fail
   exact⟨nb,gn,cn,z5,z6,z7,z8,z9,z10,.pointer (some ⟨ob,1,none⟩),⟨kl nl,kq hV.p4_3,kq hV.p5_3,kq hV.p5_4,kq hV.p7_5,kc hV.c0,kc hV.c1,kc hV.c2,kc hV.c3,kc hV.c4,kc hV.c5,(fun _=>rfl),hV.fr,(fun h0=>hV.pa (kb h0)),kc hV.pb,hV.c,(fun h0=>hV.x (kb h0)),kl nl,(fun h0=>hV.ra (kb h0)),kc hV.rb,(fun h0=>fun h1=>hV.g4 (kb h0) (kb h1)),hV.gr⟩,rfl⟩
  ·have before:∀j,j<7→L j=true:=fun j hj=>by
    have hj:j=0∨j=1∨j=2∨j=3∨j=4∨j=5∨j=6:=by omega
    rcases hj with rfl|rfl|rfl|rfl|rfl|rfl|rfl
    ·exact hd _ rfl ⟨0,.phase⟩ (by simp) rfl
    ·exact hd _ rfl ⟨1,.phase⟩ (by simp) rfl
    ·exact hd _ rfl ⟨2,.phase⟩ (by simp) rfl
    ·exact hd _ rfl ⟨3,.phase⟩ (by simp) rfl
    ·exact hd _ rfl ⟨4,.phase⟩ (by simp) rfl
    ·exact hd _ rfl ⟨5,.data⟩ (by simp) rfl
    ·exact hd _ rfl ⟨6,.data⟩ (by simp) rfl
   have d5:L 5=true:=hd _ rfl ⟨5,.data⟩ (by simp) rfl;obtain rfl:=(hV.c5 d5).symm;have d6:L 6=true:=hd _ rfl ⟨6,.data⟩ (by simp) rfl;obtain rfl:=(hV.c6 d6).symm;have hx:=hV.x hl;have x1:=hx.at 1 _ rfl;have fx:=hx.fz 1;have hxl:=hx.lt;have b3:=before 3 (by decide);have b5:=before 5 (by decide);refine am _ rfl rfl (fun K' hK=> ?_)
   conv=>arg 2;whnf
   go_wp2_with fail
   exact⟨nb,gn,cn,z5,z6,z7,z8,z9,.slice (some ⟨gn,0,none⟩) (S.length+1) cn,.pointer (some ⟨ob,1,none⟩),⟨(fun _ j hj=>by rw[aI L (show j≠7 by omega)];exact before j hj),kq hV.p4_3,kq hV.p5_3,kq hV.p5_4,(kd (before 5 (by decide))),kc hV.c0,kc hV.c1,kc hV.c2,kc hV.c3,kc hV.c4,kc hV.c5,kc hV.c6,(hV.fr.set _ _),(fun h=>by rw[aI L (by decide)]at h;rw[b3]at h;cases h),(fun _=>(hV.pb b3).other (by omega) _ _),(hV.c.other (by omega) _ _),(ks),(fun _=>hx.set 1 (.slice (some ⟨gn,0,none⟩) (S.length+1) cn)),(fun h=>by rw[aI L (by decide)]at h;rw[b5]at h;cases h),(fun _=>⟨eY.low (hV.rb b5).1 hob _ _,(hV.rb b5).2⟩),(fun _ h=>by rw[aI L (by decide)]at h;rw[b5]at h;cases h),(fun b h1 h2 h3=>(Below.heap_setCell _ _ _ _ (show b≠ob by omega)).trans (hV.gr b h1 h2 h3))⟩,rfl⟩
 ·intro L act wx hI hall
  obtain⟨nb,gn,cn,z5,z6,z7,z8,z9,z10,z11,hV,rfl⟩:=hI;obtain rfl:=(hV.c0 (hall 0 (by decide))).symm;obtain rfl:=(hV.c1 (hall 1 (by decide))).symm;obtain rfl:=(hV.c2 (hall 2 (by decide))).symm;obtain rfl:=(hV.c3 (hall 3 (by decide))).symm;obtain rfl:=(hV.c4 (hall 4 (by decide))).symm;obtain rfl:=(hV.c5 (hall 5 (by decide))).symm;obtain rfl:=(hV.c6 (hall 6 (by decide))).symm;exact hM _ _ (Met.intro (hJ _ _ ⟨nb,gn,cn,⟨hV.fr,hV.pb (hall 3 (by decide)),hV.c,hV.x7 (hall 7 (by decide)),(hV.rb (hall 5 (by decide))).1,(hV.rb (hall 5 (by decide))).2,hV.gr⟩,rfl⟩))
structure VY4 (p tb cb ob base:Nat)(nm:Bs)(va:Option Addr)(vc:Nat)(S:List Bs)(ov:Value)(s:Bs)(l r:List Tk)(err:Option Int)(W:World)(L:Nat→Bool)(nb:Nat)(gn:Nat)(cn:Nat)(z16 z17 z18 z19 z20 z21 z22:Value)(wx:World):Prop where
 ord:L 7=true→∀j,j<7→L j=true
 p4_3:L 4=true→L 3=true
 p5_3:L 5=true→L 3=true
 p5_4:L 5=true→L 4=true
 p7_5:L 7=true→L 5=true
 c0:L 0=true→z16= .pointer (some ⟨ob,2,none⟩)
 c1:L 1=true→z17= .slice va S.length vc
 c2:L 2=true→z18= .pointer (some ⟨p,0,none⟩)
 c3:L 3=true→z19= .string (aB s)
 c4:L 4=true→z20= .slice (some ⟨nb,0,none⟩) 1 1
 c5:L 5=true→z21= .slice (some ⟨gn,0,none⟩) (S.length+1) cn
 c6:L 6=true→z22= .pointer (some ⟨ob,2,none⟩)
 fr:AFr p ob base W wx
 pa:L 3=false→Ps wx p tb l
 pb:L 3=true→Ps wx p tb r
 c:aG wx cb [.pointer (some ⟨p,0,none⟩)] 64
 x:L 7=false→aG wx ob [.string (aB nm),ov,.slice va S.length vc,.slice none 0 0] 58
 x7:L 7=true→aG wx ob [.string (aB nm),ov,.slice (some ⟨gn,0,none⟩) (S.length+1) cn,.slice none 0 0] 58
 ra:L 5=false→iE wx base S (.slice va S.length vc)
 rb:L 5=true→iE wx base (S++[s]) (.slice (some ⟨gn,0,none⟩) (S.length+1) cn)∧((Value.slice va S.length vc).ownBlock=some gn∨W.heap.size≤gn)
 g4:L 4=true→L 5=false→aG wx nb (fp s) 9∧base≤nb
 gr:∀b,b<W.heap.size→base≤b→(Value.slice va S.length vc).ownBlock≠some b→wx.heap[b]? =W.heap[b]?
def IY4(p tb cb ob base:Nat)(nm:Bs)(va:Option Addr)(vc:Nat)(S:List Bs)(ov:Value)(s:Bs)(l r:List Tk)(err:Option Int)(W:World)(q0 q1 q3 q4 q6 q7 q8 q9 q10 q11 q12 q13 q14 q15 q23 q24 q25 q26 q27 q28 q29:Value)(L:Nat→Bool)(a':Act)(w':World):Prop:=
 ∃nb:Nat,∃gn:Nat,∃cn:Nat,∃z16 z17 z18 z19 z20 z21 z22:Value,VY4 p tb cb ob base nm va vc S ov s l r err W L nb gn cn z16 z17 z18 z19 z20 z21 z22 w'∧a'=⟨[q0,q1,.pointer (some ⟨cb,0,none⟩),q3,q4,.pointer (some ⟨ob,0,none⟩),q6,q7,q8,q9,q10,q11,q12,q13,q14,q15,z16,z17,z18,z19,z20,z21,z22,q23,q24,q25,q26,q27,q28,q29].toArray,[]⟩
def RY4(p tb cb ob base:Nat)(nm:Bs)(va:Option Addr)(vc:Nat)(S:List Bs)(ov:Value)(s:Bs)(l r:List Tk)(err:Option Int)(W:World)(q0 q1 q3 q4 q6 q7 q8 q9 q10 q11 q12 q13 q14 q15 q23 q24 q25 q26 q27 q28 q29:Value)(a':Act)(w':World):Prop:=
 ∃nb:Nat,∃gn:Nat,∃cn:Nat,(AFr p ob base W w'∧Ps w' p tb r∧aG w' cb [.pointer (some ⟨p,0,none⟩)] 64∧aG w' ob [.string (aB nm),ov,.slice (some ⟨gn,0,none⟩) (S.length+1) cn,.slice none 0 0] 58∧iE w' base (S++[s]) (.slice (some ⟨gn,0,none⟩) (S.length+1) cn)∧((Value.slice va S.length vc).ownBlock=some gn∨W.heap.size≤gn)∧(∀b,b<W.heap.size→base≤b→(Value.slice va S.length vc).ownBlock≠some b→w'.heap[b]? =W.heap[b]?))∧a'=⟨[q0,q1,.pointer (some ⟨cb,0,none⟩),q3,q4,.pointer (some ⟨ob,0,none⟩),q6,q7,q8,q9,q10,q11,q12,q13,q14,q15,.pointer (some ⟨ob,2,none⟩),.slice va S.length vc,.pointer (some ⟨p,0,none⟩),.string (aB s),.slice (some ⟨nb,0,none⟩) 1 1,.slice (some ⟨gn,0,none⟩) (S.length+1) cn,.pointer (some ⟨ob,2,none⟩),q23,q24,q25,q26,q27,q28,q29].toArray,[]⟩
theorem xX(p tb cb ob base:Nat)(nm:Bs)(va:Option Addr)(vc:Nat)(S:List Bs)(ov:Value)(s:Bs)(l r:List Tk)(err:Option Int)(W:World)(hps:Ps W p tb l)(hc:aG W cb [.pointer (some ⟨p,0,none⟩)] 64)(ho:aG W ob [.string (aB nm),ov,.slice va S.length vc,.slice none 0 0] 58)(hrow:iE W base S (.slice va S.length vc))(hpc:p<cb)(hco:cb<ob)(hob:ob<base)(hbs:base≤W.heap.size)(hll:S.length≤1000000)(HNM:Hid (∀w1,Ps w1 p tb l→Calls Zb 65 #[.pointer (some ⟨p,0,none⟩)] w1 fun e w'=>match err with|some n=>e=az n∧SFr p w1 w'|none=>e= .returned (.string (aB s))∧SFr p w1 w'∧Ps w' p tb r))(Q:Exit→Act→World→Prop)(hQ:∀n a' w',err=some n→a'.defers=[]→AFr p ob base W w'→Q (.panic [{v:= .iface 110 (.agg #[.int .i64 n]),recovered:=false}]) a' w')(q0 q1 q3 q4 q6 q7 q8 q9 q10 q11 q12 q13 q14 q15 q16 q17 q18 q19 q20 q21 q22 q23 q24 q25 q26 q27 q28 q29:Value)(J K':Act→World→Prop)(hJ:∀a' w',RY4 p tb cb ob base nm va vc S ov s l r err W q0 q1 q3 q4 q6 q7 q8 q9 q10 q11 q12 q13 q14 q15 q23 q24 q25 q26 q27 q28 q29 a' w'→J a' w')(hM:∀a' w',Met J a' w'→K' a' w'):
  Code.wp Zb ((Tryz.f68.body.bind (gZ 5)).getD .skip) (Exit.then K' Q) ⟨[q0,q1,.pointer (some ⟨cb,0,none⟩),q3,q4,.pointer (some ⟨ob,0,none⟩),q6,q7,q8,q9,q10,q11,q12,q13,q14,q15,q16,q17,q18,q19,q20,q21,q22,q23,q24,q25,q26,q27,q28,q29].toArray,[]⟩ W:=by
 have HPS:=Za hps;have HC:=Za hc;have HO:=Za ho;have HROW:=Za hrow;have HQ:=Za hQ;clear hps hc ho hrow hQ
 conv=>arg 2;whnf
 (try dsimp only);refine db (by kernel_rfl) (by kernel_rfl) (IY4 p tb cb ob base nm va vc S ov s l r err W q0 q1 q3 q4 q6 q7 q8 q9 q10 q11 q12 q13 q14 q15 q23 q24 q25 q26 q27 q28 q29) ?_ ?_ ?_
 ·exact⟨0,0,0,q16,q17,q18,q19,q20,q21,q22,⟨(fun h=>by cases h),(fun h=>by cases h),(fun h=>by cases h),(fun h=>by cases h),(fun h=>by cases h),(fun h=>by cases h),(fun h=>by cases h),(fun h=>by cases h),(fun h=>by cases h),(fun h=>by cases h),(fun h=>by cases h),(fun h=>by cases h),((AFr.refl p ob base W).old (Zc _ _).drew),(fun _=>HPS.out.old (Zc _ _).drew),(fun h=>by cases h),(HC.out.old (Zc _ _).drew),(fun _=>HO.out.old (Zc _ _).drew),(fun h=>by cases h),(fun _=>HROW.out.old (Zc _ _).drew),(fun h=>by cases h),(fun h=>fun _=>by cases h),(fun b _ _ _=>rfl)⟩,rfl⟩
 ·intro L act wx k hI hk hl hd
  obtain⟨nb,gn,cn,z16,z17,z18,z19,z20,z21,z22,hV,rfl⟩:=hI;have hk:k=0∨k=1∨k=2∨k=3∨k=4∨k=5∨k=6∨k=7:=by
   have:k<8:=hk;omega
  rcases hk with rfl|rfl|rfl|rfl|rfl|rfl|rfl|rfl
  ·have nl:=kf hV.ord hl
   refine am _ rfl rfl (fun K' hK=> ?_)
   conv=>arg 2;whnf
   go_wp2_with fail
   exact⟨nb,gn,cn,.pointer (some ⟨ob,2,none⟩),z17,z18,z19,z20,z21,z22,⟨kl nl,kq hV.p4_3,kq hV.p5_3,kq hV.p5_4,kq hV.p7_5,(fun _=>rfl),kc hV.c1,kc hV.c2,kc hV.c3,kc hV.c4,kc hV.c5,kc hV.c6,hV.fr,(fun h0=>hV.pa (kb h0)),kc hV.pb,hV.c,(fun h0=>hV.x (kb h0)),kl nl,(fun h0=>hV.ra (kb h0)),kc hV.rb,(fun h0=>fun h1=>hV.g4 (kb h0) (kb h1)),hV.gr⟩,rfl⟩
  ·have nl:=kf hV.ord hl
   have d0:L 0=true:=hd _ rfl ⟨0,.data⟩ (by simp) rfl;obtain rfl:=(hV.c0 d0).symm;have l7:L 7=false:=nl;have ho:=hV.x l7;have x1:=ho.at 2 _ rfl;refine am _ rfl rfl (fun K' hK=> ?_)
   conv=>arg 2;whnf
   go_wp2_with fail
   exact⟨nb,gn,cn,.pointer (some ⟨ob,2,none⟩),.slice va S.length vc,z18,z19,z20,z21,z22,⟨kl nl,kq hV.p4_3,kq hV.p5_3,kq hV.p5_4,kq hV.p7_5,kc hV.c0,(fun _=>rfl),kc hV.c2,kc hV.c3,kc hV.c4,kc hV.c5,kc hV.c6,hV.fr,(fun h0=>hV.pa (kb h0)),kc hV.pb,hV.c,(fun h0=>hV.x (kb h0)),kl nl,(fun h0=>hV.ra (kb h0)),kc hV.rb,(fun h0=>fun h1=>hV.g4 (kb h0) (kb h1)),hV.gr⟩,rfl⟩
  ·have nl:=kf hV.ord hl
   have hc0:=hV.c.at 0 _ rfl;refine am _ rfl rfl (fun K' hK=> ?_)
   conv=>arg 2;whnf
   go_wp2_with fail
   exact⟨nb,gn,cn,z16,z17,.pointer (some ⟨p,0,none⟩),z19,z20,z21,z22,⟨kl nl,kq hV.p4_3,kq hV.p5_3,kq hV.p5_4,kq hV.p7_5,kc hV.c0,kc hV.c1,(fun _=>rfl),kc hV.c3,kc hV.c4,kc hV.c5,kc hV.c6,hV.fr,(fun h0=>hV.pa (kb h0)),kc hV.pb,hV.c,(fun h0=>hV.x (kb h0)),kl nl,(fun h0=>hV.ra (kb h0)),kc hV.rb,(fun h0=>fun h1=>hV.g4 (kb h0) (kb h1)),hV.gr⟩,rfl⟩
  ·have nl:=kf hV.ord hl
   have d2:L 2=true:=hd _ rfl ⟨2,.data⟩ (by simp) rfl;obtain rfl:=(hV.c2 d2).symm;have hps:=hV.pa hl;refine am _ rfl rfl (fun K' hK=> ?_)
   conv=>arg 2;whnf
   have HPX:=Za hps;have HFX:=Za hV.fr;clear hps;go_wp2_with fail
   refine(HNM.out _ HPX.out).mono ?_;intro e w7 he
   cases err with
   |some n=>
    obtain⟨rfl,hf⟩:=he;unfold az;have HF:=Za (HFX.out.trans (AFr.of_sfr hf));clear hf hK hV;go_wp2_with fail
    exact HQ.out n _ _ rfl rfl HF.out
   |none=>
   obtain⟨rfl,hf7,hp7⟩:=he;go_wp2_with fail
   exact⟨nb,gn,cn,z16,z17,.pointer (some ⟨p,0,none⟩),.string (aB s),z20,z21,z22,⟨kl nl,(fun _=>ak L 3),(fun _=>ak L 3),kq hV.p5_4,kq hV.p7_5,kc hV.c0,kc hV.c1,kc hV.c2,(fun _=>rfl),kc hV.c4,kc hV.c5,kc hV.c6,(hV.fr.trans (AFr.of_sfr hf7)),(ks),(fun _=>hp7),(hV.c.sfr hf7 (by omega)),(fun h=>(hV.x (kb h)).sfr hf7 (by omega)),kl nl,(fun h=>(hV.ra (kb h)).sfr hf7 (by omega)),(fun h=>⟨eY.sfr (hV.rb (kb h)).1 hf7 (by omega),(hV.rb (kb h)).2⟩),(fun h1 h2=>⟨aG.sfr (hV.g4 (kb h1) (kb h2)).1 hf7 (by have:=(hV.g4 (kb h1) (kb h2)).2;omega),(hV.g4 (kb h1) (kb h2)).2⟩),(fun b h1 h2 h3=>(hf7.block b (by have:=hV.fr.size;omega) (by omega)).trans (hV.gr b h1 h2 h3))⟩,rfl⟩
  ·have nl:=kf hV.ord hl
   have d3:L 3=true:=hd _ rfl ⟨3,.data⟩ (by simp) rfl;obtain rfl:=(hV.c3 d3).symm;have hal:Below wx.heap.size wx (wx.alloc (.cells #[.string (aB s)] 9)):=bA;have hfs:=hV.fr.size;refine am _ rfl rfl (fun K' hK=> ?_)
   conv=>arg 2;whnf
   go_wp2_with fail
   exact⟨wx.heap.size,gn,cn,z16,z17,z18,.string (aB s),.slice (some ⟨(wx.heap.size),0,none⟩) 1 1,z21,z22,⟨kl nl,(kd (d3)),kq hV.p5_3,(fun _=>ak L 4),kq hV.p7_5,kc hV.c0,kc hV.c1,kc hV.c2,kc hV.c3,(fun _=>rfl),kc hV.c5,kc hV.c6,(AFr.old (hV.fr) hal),(fun h0=>Ps.old (hV.pa (kb h0)) hal),(fun h0=>Ps.old (hV.pb (kb h0)) hal),(aG.old (hV.c) hal),(fun h0=>aG.old (hV.x (kb h0)) hal),kl nl,(fun h0=>eY.old (hV.ra (kb h0)) hal),(kn hV.p5_4 hl),(fun _ _=>⟨aG.new wx (fp s) 9,by omega⟩),(fun b h1 h2 h3=>(hal.block b (by omega)).trans ((hV.gr) b h1 h2 h3))⟩,rfl⟩
  ·have nl:=kf hV.ord hl
   have d1:L 1=true:=hd _ rfl ⟨1,.data⟩ (by simp) rfl;obtain rfl:=(hV.c1 d1).symm;have d3:L 3=true:=hd _ rfl ⟨3,.chain⟩ (by simp) rfl;have d4:L 4=true:=hd _ rfl ⟨4,.data⟩ (by simp) rfl;obtain rfl:=(hV.c4 d4).symm;have d3:L 3=true:=hd _ rfl ⟨3,.chain⟩ (by simp) rfl;have hg4:=hV.g4 d4 hl;have hra:=hV.ra hl;have hfs:=hV.fr.size;refine am _ rfl rfl (fun K' hK=> ?_)
   conv=>arg 2;whnf
   refine uh wx _ _ rfl base S (.slice va S.length vc) rfl hra s nb 1 rfl hg4.1 hll (Nat.le_trans hbs hfs) ?_;intro g2 cap2 w2 hr2 hg2 ha2 hl2;have hrg:∀k,(Value.slice va S.length vc).ownBlock=some k→base≤k:=fun k e=>(hra.lt k e).1
   go_wp2_with fail
   exact⟨nb,g2,cap2,z16,.slice va S.length vc,z18,z19,.slice (some ⟨nb,0,none⟩) 1 1,.slice (some ⟨(g2),0,none⟩) (S.length+1) (cap2),z22,⟨kl nl,kq hV.p4_3,(kd (d3)),(kd (d4)),(fun _=>ak L 5),kc hV.c0,kc hV.c1,kc hV.c2,kc hV.c3,kc hV.c4,(fun _=>rfl),kc hV.c6,(hV.fr.grown hg2 hrg),(fun h=>by rw[aI L (by decide)]at h;rw[d3]at h;cases h),(fun _=>(hV.pb d3).grown hg2 hrg (by omega)),(hV.c.grew hg2 (fun e=>by have:=hrg _ e;omega)),(fun h=>(hV.x (kb h)).grew hg2 (fun e=>by have:=hrg _ e;omega)),kl nl,(ks),(fun _=>⟨hr2,by rcases ha2 with h|h;exact .inl h;exact .inr (by omega)⟩),(fun _=>ks),(fun b h1 h2 h3=>(hg2.block b (by omega) (fun e=>h3 e.symm)).trans (hV.gr b h1 h2 h3))⟩,rfl⟩
  ·have nl:=kf hV.ord hl
   refine am _ rfl rfl (fun K' hK=> ?_)
   conv=>arg 2;whnf
   go_wp2_with fail
   exact⟨nb,gn,cn,z16,z17,z18,z19,z20,z21,.pointer (some ⟨ob,2,none⟩),⟨kl nl,kq hV.p4_3,kq hV.p5_3,kq hV.p5_4,kq hV.p7_5,kc hV.c0,kc hV.c1,kc hV.c2,kc hV.c3,kc hV.c4,kc hV.c5,(fun _=>rfl),hV.fr,(fun h0=>hV.pa (kb h0)),kc hV.pb,hV.c,(fun h0=>hV.x (kb h0)),kl nl,(fun h0=>hV.ra (kb h0)),kc hV.rb,(fun h0=>fun h1=>hV.g4 (kb h0) (kb h1)),hV.gr⟩,rfl⟩
  ·have before:∀j,j<7→L j=true:=fun j hj=>by
    have hj:j=0∨j=1∨j=2∨j=3∨j=4∨j=5∨j=6:=by omega
    rcases hj with rfl|rfl|rfl|rfl|rfl|rfl|rfl
    ·exact hd _ rfl ⟨0,.phase⟩ (by simp) rfl
    ·exact hd _ rfl ⟨1,.phase⟩ (by simp) rfl
    ·exact hd _ rfl ⟨2,.phase⟩ (by simp) rfl
    ·exact hd _ rfl ⟨3,.phase⟩ (by simp) rfl
    ·exact hd _ rfl ⟨4,.phase⟩ (by simp) rfl
    ·exact hd _ rfl ⟨5,.data⟩ (by simp) rfl
    ·exact hd _ rfl ⟨6,.data⟩ (by simp) rfl
   have d5:L 5=true:=hd _ rfl ⟨5,.data⟩ (by simp) rfl;obtain rfl:=(hV.c5 d5).symm;have d6:L 6=true:=hd _ rfl ⟨6,.data⟩ (by simp) rfl;obtain rfl:=(hV.c6 d6).symm;have hx:=hV.x hl;have x1:=hx.at 2 _ rfl;have fx:=hx.fz 2;have hxl:=hx.lt;have b3:=before 3 (by decide);have b5:=before 5 (by decide);refine am _ rfl rfl (fun K' hK=> ?_)
   conv=>arg 2;whnf
   go_wp2_with fail
   exact⟨nb,gn,cn,z16,z17,z18,z19,z20,.slice (some ⟨gn,0,none⟩) (S.length+1) cn,.pointer (some ⟨ob,2,none⟩),⟨(fun _ j hj=>by rw[aI L (show j≠7 by omega)];exact before j hj),kq hV.p4_3,kq hV.p5_3,kq hV.p5_4,(kd (before 5 (by decide))),kc hV.c0,kc hV.c1,kc hV.c2,kc hV.c3,kc hV.c4,kc hV.c5,kc hV.c6,(hV.fr.set _ _),(fun h=>by rw[aI L (by decide)]at h;rw[b3]at h;cases h),(fun _=>(hV.pb b3).other (by omega) _ _),(hV.c.other (by omega) _ _),(ks),(fun _=>hx.set 2 (.slice (some ⟨gn,0,none⟩) (S.length+1) cn)),(fun h=>by rw[aI L (by decide)]at h;rw[b5]at h;cases h),(fun _=>⟨eY.low (hV.rb b5).1 hob _ _,(hV.rb b5).2⟩),(fun _ h=>by rw[aI L (by decide)]at h;rw[b5]at h;cases h),(fun b h1 h2 h3=>(Below.heap_setCell _ _ _ _ (show b≠ob by omega)).trans (hV.gr b h1 h2 h3))⟩,rfl⟩
 ·intro L act wx hI hall
  obtain⟨nb,gn,cn,z16,z17,z18,z19,z20,z21,z22,hV,rfl⟩:=hI;obtain rfl:=(hV.c0 (hall 0 (by decide))).symm;obtain rfl:=(hV.c1 (hall 1 (by decide))).symm;obtain rfl:=(hV.c2 (hall 2 (by decide))).symm;obtain rfl:=(hV.c3 (hall 3 (by decide))).symm;obtain rfl:=(hV.c4 (hall 4 (by decide))).symm;obtain rfl:=(hV.c5 (hall 5 (by decide))).symm;obtain rfl:=(hV.c6 (hall 6 (by decide))).symm;exact hM _ _ (Met.intro (hJ _ _ ⟨nb,gn,cn,⟨hV.fr,hV.pb (hall 3 (by decide)),hV.c,hV.x7 (hall 7 (by decide)),(hV.rb (hall 5 (by decide))).1,(hV.rb (hall 5 (by decide))).2,hV.gr⟩,rfl⟩))
structure jx (W:World)(p tb cb ob base:Nat)(nm:Bs)(pa:Option Addr)(pc:Nat)(pl:List Bs)(la:Option Addr)(lc:Nat)(ll:List Bs)(l:List Tk)(wx:World):Prop where
 fr:AFr p ob base W wx
 par:Ps wx p tb l
 c:aG wx cb [.pointer (some ⟨p,0,none⟩)] 64
 o:aG wx ob [.string (aB nm),.slice pa pl.length pc,.slice la ll.length lc,.slice none 0 0] 58
 rp:iE wx base pl (.slice pa pl.length pc)
 rl:iE wx base ll (.slice la ll.length lc)
 ap:∀g,(Value.slice pa pl.length pc).ownBlock=some g→(Value.slice la ll.length lc).ownBlock≠some g
 len:pl.length+ll.length+l.length≤1000000
section
variable {W:World} {p tb cb ob base:Nat} {nm:Bs} {pa:Option Addr} {pc:Nat} {pl:List Bs} {la:Option Addr} {lc:Nat} {ll:List Bs} {l r:List Tk} {wx w':World}
theorem jx.old(h:jx W p tb cb ob base nm pa pc pl la lc ll l wx)(hb:Below wx.heap.size wx w'):jx W p tb cb ob base nm pa pc pl la lc ll l w':=
 ⟨h.fr.old hb,h.par.old hb,h.c.old hb,h.o.old hb,h.rp.old hb,h.rl.old hb,h.ap,h.len⟩
theorem jx.next(h:jx W p tb cb ob base nm pa pc pl la lc ll l wx)(hn:jU p cb ob base W)(hf:SFr p wx w')(hp:Ps w' p tb r)(hl:r.length≤l.length):jx W p tb cb ob base nm pa pc pl la lc ll r w':=
 have h1:=hn.pc;have h2:=hn.co;have h3:=hn.ob
 ⟨h.fr.trans (AFr.of_sfr hf),hp,h.c.sfr hf (by omega),h.o.sfr hf (by omega),h.rp.sfr hf (by omega),h.rl.sfr hf (by omega),h.ap,by have:=h.len;omega⟩
end
theorem eY.gr {α:Type}{e:TypeId}{cf:α→List Value}{k:Nat}{w w':World}{base:Nat}{L:List α}{v:Value}(h:eY e cf k w base L v){v0:Value}(hk:∀b,b<w.heap.size→base≤b→v0.ownBlock≠some b→w'.heap[b]? =w.heap[b]?)(hne:∀g,v.ownBlock=some g→v0.ownBlock≠some g):eY e cf k w' base L v:=by
 refine⟨h.1,?_⟩;have hlt:=h.lt;rcases h.2 with hn|⟨g,cap,cur,rfl,hg,hh,r⟩
 ·exact .inl hn
 ·refine .inr ⟨g,cap,cur,rfl,hg,?_,r⟩
  rw[hk g (hlt g rfl).2 hg (hne g rfl)];exact hh
def i6(l:List Tk):PR Bs:=match aV [105,110,116] l with
 | .error e=> .error e
 | .ok r=>dK r
theorem oH {l r:List Tk}{s:Bs}(h:i6 l= .ok (s,r)):r.length<l.length:=by
 unfold i6 at h
 cases h1:aV [105,110,116] l with
 |error e=>rw[h1]at h;cases h
 |ok q=>rw[h1]at h;have:=bC h1;have:=fD h;omega
def OneR(W:World)(p tb cb ob base:Nat)(nm:Bs)(pl:List Bs)(la:Option Addr)(lc:Nat)(ll:List Bs)(R:PR Bs)(e:Ending)(w':World):Prop:=
 match R with
 | .ok (s,r)=>e= .returned (.tuple #[])∧∃gn cn,jx W p tb cb ob base nm (some ⟨gn,0,none⟩) cn (pl++[s]) la lc ll r w'
 | .error n=>e=az n∧AFr p ob base W w'
theorem fn1_any(W wx:World)(p tb cb ob base:Nat)(nm:Bs)(pa:Option Addr)(pc:Nat)(pl:List Bs)(la:Option Addr)(lc:Nat)(ll:List Bs)(l:List Tk)(hn:jU p cb ob base W)(h:jx W p tb cb ob base nm pa pc pl la lc ll l wx):
  Calls Zb 126 #[.pointer (some ⟨cb,0,none⟩),.pointer (some ⟨ob,0,none⟩)] wx (OneR W p tb cb ob base nm pl la lc ll (i6 l)):=by
 obtain⟨R,hR⟩:∃R,i6 l=R:=⟨_,rfl⟩;rw[hR];have HR:=Za hR;have c0:=h.c.at 0 _ rfl;have hba:Below wx.heap.size wx (wx.alloc (.cells #[.string ⟨#[105,110,116]⟩] 9)):=bA;have HA:=Za (h.old hba);have HWN:=Za (cM p tb l [105,110,116] _ (h.old hba).par wx.heap.size 1 ((aG.new wx [.string ⟨#[105,110,116]⟩] 9).at 0 _ rfl));have HN:=Za hn;clear hR h hba hn;go_enter Tryz.func126,Tryz.ntmps126
 go_wp2_with fail
 refine HWN.out.mono ?_;intro e w2 he
 cases hw:aV [105,110,116] l with
 |error n=>
  rw[hw]at he;obtain⟨hf,rfl⟩:=he;have HF:=Za (HA.out.fr.trans (AFr.of_sfr hf));have e1:R= .error n:=by rw[←HR.out];unfold i6;rw[hw]
  subst e1;clear hf hw;unfold az;go_wp2_with fail
  exact⟨rfl,rfl,HF.out⟩
 |ok r1=>
  rw[hw]at he;obtain⟨hf,rfl,hp⟩:=he;have HA2:=Za (HA.out.next HN.out hf hp (Nat.le_of_lt (bC hw)));have hR2:dK r1=R:=by rw[←HR.out];unfold i6;rw[hw]
  have hlw:=bC hw;have HLW:=Za hlw;clear hf hp hw hlw;go_upto_region 1 with(fail)
  have hbs:base≤w2.heap.size:=Nat.le_trans HN.out.bs HA2.out.fr.size;have hll:pl.length≤1000000:=by have:=HA2.out.len;omega
  have n1:=HN.out.pc;have n2:=HN.out.co;have n3:=HN.out.ob
  cases hy:dK r1 with
  |error n=>
   rw[hy]at hR2;subst hR2;refine wp_mono (Q:=Exit.then (Met (RY3 p tb cb ob base nm pa pc pl (.slice la ll.length lc) [] r1 [] (some n) w2 _ _ _)) _) (yR p tb cb ob base nm pa pc pl (.slice la ll.length lc) [] r1 [] (some n) w2 HA2.out.par HA2.out.c HA2.out.o HA2.out.rp n1 n2 n3 hbs hll (fun w1 h1=>by have h2:=dl p tb r1 w1 h1;rw[hy]at h2;exact h2.mono (fun e w2 h=>⟨h.2,h.1⟩)) (fun e a' w'=> ∃n',e= .panic [{v:= .iface 110 (.agg #[.int .i64 n']),recovered:=false}]∧n=n'∧a'.defers=[]∧AFr p ob base w2 w') (fun n' a' w' hn hd hf=>by injection hn with hn;exact⟨n',rfl,hn,hd,hf⟩) _ _ _ _ _ _ _ _ _ _ _ _ (fun _ _ q=>q) (fun _ _ q=>q)) ?_;intro e a' w' hq
   cases e with
   |normal=>
    obtain⟨nb,gn,cn,⟨_,hp,_⟩,_⟩:=(show RY3 p tb cb ob base nm pa pc pl (.slice la ll.length lc) [] r1 [] (some n) w2 _ _ _ a' w' from hq);exact hp.ends.elim
   |panic ch=>
    obtain⟨n2,he,rfl,hd,hf⟩:=hq;injection he with he
    subst he;exact⟨hd,rfl,HA2.out.fr.trans hf⟩
   |_=>
    obtain⟨n2,he,_⟩:=hq
    cases he
  |ok q=>
   obtain⟨s,r⟩:=q;rw[hy]at hR2;subst hR2;have hlr:=fD hy;refine wp_mono (Q:=Exit.then (Met (RY3 p tb cb ob base nm pa pc pl (.slice la ll.length lc) s r1 r none w2 _ _ _)) (fun _ _ _=>False)) (yR p tb cb ob base nm pa pc pl (.slice la ll.length lc) s r1 r none w2 HA2.out.par HA2.out.c HA2.out.o HA2.out.rp n1 n2 n3 hbs hll (fun w1 h1=>by have h2:=dl p tb r1 w1 h1;rw[hy]at h2;exact h2.mono (fun e w2 h=>by obtain⟨hf,v,rfl,hp,hv⟩:=h;have hv:v= .string (aB s):=hv;subst hv;exact⟨rfl,hf,hp⟩)) (fun _ _ _=>False) (fun n' a' w' hn=>by cases hn) _ _ _ _ _ _ _ _ _ _ _ _ (fun _ _ q=>q) (fun _ _ q=>q)) ?_;intro e a' w' hq
   cases e with
   |normal=>
    obtain⟨nb,gn,cn,⟨h1,h2,h3,h4,h5,h6,h7⟩,rfl⟩:=(show RY3 p tb cb ob base nm pa pc pl (.slice la ll.length lc) s r1 r none w2 _ _ _ a' w' from hq);have hl1:(pl++[s]).length=pl.length+1:=by simp
    have hrl:=HA2.out.rl.gr h7 (fun g e e2=>HA2.out.ap g e2 e);refine bodyPost_end (v:= .tuple #[]) (by simp [results,Tryz.results126,go_sem]) rfl ⟨rfl,gn,cn,HA2.out.fr.trans h1,h2,h3,?_,?_,hrl,?_,?_⟩
    ·rw[hl1];exact h4
    ·rw[hl1];exact h5
    ·intro g e e2
     rw[hl1]at e;have e:gn=g:=by injection e
     subst e;rcases h6 with h6|h6
     ·exact HA2.out.ap _ h6 e2
     ·have:=(HA2.out.rl.lt _ e2).2;omega
    ·rw[hl1];have:=HA2.out.len;omega
   |_=>exact False.elim hq
def oM(g:Nat)(a:List Bs)(l:List Tk):PR (List Bs):=match bF [44] l with
 |some r=>gL g a r
 |none=>match aV [41] l with
  | .error e=> .error e
  | .ok r=> .ok (a,r)
theorem lX {g:Nat}{a:List Bs}{l r:List Tk}{s:Bs}(h:i6 l= .ok (s,r)):gL (g+1) a l=oM g (a++[s]) r:=by
 unfold i6 at h;rw[gL]
 cases h1:aV [105,110,116] l with
 |error e=>rw[h1]at h;cases h
 |ok q=>rw[h1]at h;dsimp only at h ⊢;rw[h];rfl
theorem nz {g:Nat}{a:List Bs}{l:List Tk}{n:Int}(h:i6 l= .error n):gL (g+1) a l= .error n:=by
 unfold i6 at h;rw[gL]
 cases h1:aV [105,110,116] l with
 |error e=>rw[h1]at h;injection h with h;rw[h]
 |ok q=>rw[h1]at h;dsimp only at h ⊢;rw[h]
theorem mH:∀(f:Nat) (a:List Bs) (l:List Tk) (x:List Bs) (r:List Tk),gL f a l= .ok (x,r)→r.length<l.length
 |0,a,l,x,r,h=>by cases h
 |f+1,a,l,x,r,h=>by
  cases h1:i6 l with
  |error n=>rw[nz h1]at h;cases h
  |ok q=>
   obtain⟨s,q⟩:=q;rw[lX h1]at h;have k1:=oH h1;unfold oM at h
   cases h2:bF [44] q with
   |some z=>rw[h2]at h;have:=mH f _ _ _ _ h;have:=bW h2;omega
   |none=>
    rw[h2]at h;dsimp only at h
    cases h3:aV [41] q with
    |error e=>rw[h3]at h;cases h
    |ok z=>rw[h3]at h;injection h with h;injection h with _ h;subst h;have:=bC h3;omega
def f7(f:Nat)(l:List Tk):PR (List Bs):=match bF [41] l with|some r=> .ok ([],r)|none=>gL f [] l
def xj(W:World)(p tb cb ob base:Nat)(nm:Bs)(R:PR (List Bs))(e:Ending)(w':World):Prop:=
 match R with
 | .ok (a,r)=>e= .returned (.tuple #[])∧∃pa pc,jx W p tb cb ob base nm pa pc a none 0 [] r w'
 | .error n=>e=az n∧AFr p ob base W w'
def vw(ob cb:Nat):Value:= .func (.func 126) #[] #[.pointer (some ⟨cb,0,none⟩),.pointer (some ⟨ob,0,none⟩)]
theorem rH(f:Nat)(w:World)(p tb cb ob base:Nat)(nm:Bs)(t:Tk)(r:List Tk)(hn:jU p cb ob base w)(h:jx w p tb cb ob base nm none 0 [] none 0 [] (t::r) w)(y:isP [41] t=true):
  Calls Zb 125 #[.pointer (some ⟨p,0,none⟩),vw ob cb] w (xj w p tb cb ob base nm (f7 f (t::r))):=by
 have e1:f7 f (t::r)= .ok ([],r):=by unfold f7;rw[aQ y]
 rw[e1];have HT:=Za (bE p tb t r [41] w h.par y);have HA:=Za h;have HN:=Za hn;clear e1 y h hn;unfold vw;go_enter Tryz.func125,Tryz.ntmps125
 go_wp2_with fail
 refine HT.out.mono ?_;rintro e w1 ⟨rfl,hf,hp⟩;have HA1:=Za (HA.out.next HN.out hf hp (by simp));clear hf hp;go_wp2_with fail
 first
  |(refine bodyPost_ret (results_none rfl _ _ _) rfl ?_)
  |go_end0
 exact⟨rfl,none,0,HA1.out⟩
structure ParI (w:World)(p tb cb ob base:Nat)(nm:Bs)(R:PR (List Bs))(g:Nat)(pa:Option Addr)(pc:Nat)(pl:List Bs)(l:List Tk)(wr:World):Prop where
 arg:jx w p tb cb ob base nm pa pc pl none 0 [] l wr
 fuel:l.length≤g
 res:oM g pl l=R
theorem qk(f:Nat)(w:World)(p tb cb ob base:Nat)(nm:Bs)(t:Tk)(r:List Tk)(hn:jU p cb ob base w)(h:jx w p tb cb ob base nm none 0 [] none 0 [] (t::r) w)(hl:(t::r).length≤f)(n:isP [41] t=false):
  Calls Zb 125 #[.pointer (some ⟨p,0,none⟩),vw ob cb] w (xj w p tb cb ob base nm (f7 f (t::r))):=by
 have e1:f7 f (t::r)=gL f [] (t::r):=by unfold f7;rw[aH n]
 rw[e1];obtain⟨g,rfl⟩:∃g,f=g+1:=⟨f - 1,by rw[List.length_cons]at hl;omega⟩;obtain⟨R,hR⟩:∃R,gL (g+1) [] (t::r)=R:=⟨_,rfl⟩;rw[hR];have HR:=Za hR;have HT:=Za (aO p tb t r [41] w h.par n);have HA:=Za h;have HN:=Za hn;have HFU:=Za hl;clear e1 n h hn hR hl;unfold vw;go_enter Tryz.func125,Tryz.ntmps125
 go_wp2_with fail
 refine HT.out.mono ?_;rintro e w1 ⟨rfl,hb⟩;have HA1:=Za (HA.out.old hb);clear hb;have HX:Hid (∀(pa:Option Addr) (pc:Nat) (pl:List Bs) (l:List Tk) (wx:World),jx w p tb cb ob base nm pa pc pl none 0 [] l wx→Calls Zb 126 #[.pointer (some ⟨cb,0,none⟩),.pointer (some ⟨ob,0,none⟩)] wx (OneR w p tb cb ob base nm pl none 0 [] (i6 l))):=
  fun pa pc pl l wx ha=>fn1_any w wx p tb cb ob base nm pa pc pl none 0 [] l HN.out ha
 go_wp2_with fail
 refine(HX.out none 0 [] (t::r) w1 HA1.out).mono ?_;intro e w2 he
 cases hc:i6 (t::r)with
 |error n=>
  rw[hc]at he;obtain⟨rfl,hf⟩:=he;have e2:=HR.out;rw[nz hc]at e2;subst e2;have HF:=Za hf;clear hc hf;unfold az;go_wp2_with fail
  exact⟨rfl,rfl,HF.out⟩
 |ok q=>
  obtain⟨s,q⟩:=q;rw[hc]at he;obtain⟨rfl,gn,cn,ha⟩:=he;have e2:=HR.out;rw[lX hc]at e2;have hlen:=oH hc;have HI0:Hid (ParI w p tb cb ob base nm R g (some ⟨gn,0,none⟩) cn ([]++[s]) q w2):=⟨ha,by have:=HFU.out;omega,e2⟩;clear ha hc hlen e2;go_wp2_with fail
  go_loopw [] (fun wr=> ∃(g':Nat) (pa:Option Addr) (pc:Nat) (pl:List Bs) (l:List Tk),Hid (ParI w p tb cb ob base nm R g' pa pc pl l wr)) (fun wr=>cm p wr)
  case atStart=>exact⟨g,_,_,_,q,HI0⟩
  case round=>
   obtain⟨g',pa,pc,pl,l,HI⟩:=hrel;clear HI0;obtain⟨u,l,rfl⟩:=HI.out.arg.par.ends.ne
   cases hu:isP [44] u with
   |true=>
    have HTK:=Za (bE p tb u l [44] wr HI.out.arg.par hu);have hres:gL g' pl l=R:=by
     have:=HI.out.res;unfold oM at this;rw[aQ hu]at this;exact this
    clear hu;go_wp2_with fail
    refine HTK.out.mono ?_;rintro e w3 ⟨rfl,hf,hp⟩;have HA3:=Za (HI.out.arg.next HN.out hf hp (by simp));have hfu:=HI.out.fuel;rw[List.length_cons]at hfu;have hne:0<l.length:=by obtain⟨t2,r2,rfl⟩:=hp.ends.ne;simp
    clear hf hp;obtain⟨g2,hg2⟩:∃g2,g'=g2+1:=⟨g' - 1,by omega⟩;subst hg2;go_wp2_with fail
    refine(HX.out pa pc pl l w3 HA3.out).mono ?_;intro e w4 he
    cases hc:i6 l with
    |error n=>
     rw[hc]at he;obtain⟨rfl,hf⟩:=he;rw[nz hc]at hres;subst hres;have HF:=Za hf;clear hc hf;unfold az;go_wp2_with fail
     exact⟨rfl,rfl,HF.out⟩
    |ok q2=>
     obtain⟨s2,q2⟩:=q2;rw[hc]at he;obtain⟨rfl,gn2,cn2,ha⟩:=he;rw[lX hc]at hres;have hlen:=oH hc;have HI4:Hid (ParI w p tb cb ob base nm R g2 (some ⟨gn2,0,none⟩) cn2 (pl++[s2]) q2 w4):=⟨ha,by omega,hres⟩;have hm:cm p w4<cm p wr:=by
      rw[HI4.out.arg.par.len,HI.out.arg.par.len,List.length_cons];omega
     have HM:=Za hm;clear ha hc hlen hres hm hfu hne;go_wp2_with fail
     go_roundw
     case rel=>exact⟨g2,_,_,_,q2,HI4⟩
     case measure=>exact HM.out
   |false=>
    have HTK:=Za (aO p tb u l [44] wr HI.out.arg.par hu);have hres:(match aV [41] (u::l)with| .error e=> .error e| .ok r=> .ok (pl,r))=R:=by
     have:=HI.out.res;unfold oM at this;rw[aH hu]at this;exact this
    clear hu;go_wp2_with fail
    refine HTK.out.mono ?_;rintro e w3 ⟨rfl,hb⟩;have HA3:=Za (HI.out.arg.old hb);have hba:Below w3.heap.size w3 (w3.alloc (.cells #[.string ⟨#[41]⟩] 9)):=bA;have HA4:=Za (HA3.out.old hba);have HWN:=Za (cM p tb (u::l) [41] _ HA4.out.par w3.heap.size 1 ((aG.new w3 [.string ⟨#[41]⟩] 9).at 0 _ rfl));clear hb hba;go_wp2_with fail
    refine HWN.out.mono ?_;intro e w5 he
    cases hw:aV [41] (u::l)with
    |error n=>
     rw[hw]at he hres;obtain⟨hf,rfl⟩:=he;have HF:=Za (HA4.out.fr.trans (AFr.of_sfr hf));dsimp only at hres;subst hres;clear hf hw;unfold az;go_wp2_with fail
     exact⟨rfl,rfl,HF.out⟩
    |ok q3=>
     rw[hw]at he hres;obtain⟨hf,rfl,hp⟩:=he;have HA5:=Za (HA4.out.next HN.out hf hp (Nat.le_of_lt (bC hw)));dsimp only at hres;subst hres;clear hf hw hp;go_wp2_with fail
     first
      |go_end0
      |(refine bodyPost_ret (results_none rfl _ _ _) rfl ?_)
     exact⟨rfl,pa,pc,HA5.out⟩
end Go.Proofs.YtcfpfnoldgnloaaGreatDoor
