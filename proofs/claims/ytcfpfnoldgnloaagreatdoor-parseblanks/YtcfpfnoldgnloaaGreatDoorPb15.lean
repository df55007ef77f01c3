/-
  function: behind its name's parenthesis. Conditions: the parser lies in memory.
-/
import Derived.Test.YtcfpfnoldgnloaaGreatDoorPb14
set_option linter.unusedVariables false
set_option linter.unusedSimpArgs false
namespace Go.Proofs.YtcfpfnoldgnloaaGreatDoor
open Go.RowKit Go.Proofs.Tryz
set_option maxHeartbeats 20000000
set_option maxRecDepth 100000
open Go.Lib renaming hid→Za
open Go.Proofs.Tryz renaming prog→Zb
open List renaming length_cons→Zc,getElem?_eq_getElem→Zg,getD_eq_getElem?_getD→Zh
open Ae renaming new→Zd
open Below renaming refl→Ze
open Nat renaming le_trans→Zf
theorem gA {f:Nat}{l r:List Tk}{x:St}(h:Av f l=.ok (x,r)):r.length<l.length:=by
 have hE:=fun {lv:Int} {a b:List Tk} {y:Ex} (q:Bf f lv a=.ok (y,b))=>(Fd f).1 _ _ _ _ q
 have hA:=fun {a b:List Tk} {y:List Ex} (q:Hg f a=.ok (y,b))=>(Fd f).2.2.2.2.1 _ _ _ q
 unfold Av at h
 cases h1:Bp [98,114,101,97,107] l with
 |some q=>rw[h1]at h;injection h with h;injection h with _ h;subst h;exact Cm h1
 |none=>
 rw[h1]at h;dsimp only at h
 cases h2:Bp [99,111,110,116,105,110,117,101] l with
 |some q=>rw[h2]at h;injection h with h;injection h with _ h;subst h;exact Cm h2
 |none=>
 rw[h2]at h;dsimp only at h
 cases h3:Bp [114,101,116,117,114,110] l with
 |some q=>
  rw[h3]at h;dsimp only at h;have h0:=Cm h3
  cases h4:Bf f 1 q with
  |error e=>rw[h4]at h;cases h
  |ok z=>obtain⟨y,z⟩:=z;rw[h4]at h;injection h with h;injection h with _ h;subst h;have:=hE h4;omega
 |none=>
 rw[h3]at h;dsimp only at h
 cases h4:Bp [112,114,105,110,116] l with
 |some q=>
  rw[h4]at h;dsimp only at h;have h0:=Cm h4
  cases h5:Cr f q with
  |error e=>rw[h5]at h;cases h
  |ok z=>obtain⟨y,z⟩:=z;rw[h5]at h;injection h with h;injection h with _ h;subst h;have:=Ic h5;omega
 |none=>
 rw[h4]at h;dsimp only at h
 cases h5:Bp [116,114,97,112] l with
 |some q=>
  rw[h5]at h;dsimp only at h;have h0:=Cm h5
  cases h6:Cr f q with
  |error e=>rw[h6]at h;cases h
  |ok z=>obtain⟨y,z⟩:=z;rw[h6]at h;injection h with h;injection h with _ h;subst h;have:=Ic h6;omega
 |none=>
 rw[h5]at h;dsimp only at h
 cases h6:Fa l with
 |error e=>rw[h6]at h;cases h
 |ok z=>
 obtain⟨s,q⟩:=z;rw[h6]at h;dsimp only at h;have h0:=Ih h6
 cases h7:Bp [40] q with
 |some q2=>
  rw[h7]at h;dsimp only at h;have h8:=Cm h7
  cases h9:Hg f q2 with
  |error e=>rw[h9]at h;cases h
  |ok z=>obtain⟨y,z⟩:=z;rw[h9]at h;injection h with h;injection h with _ h;subst h;have:=hA h9;omega
 |none=>
 rw[h7]at h;dsimp only at h
 cases h8:Bp [91] q with
 |some q2=>
  rw[h8]at h;dsimp only at h;have k1:=Cm h8
  cases h9:Bf f 1 q2 with
  |error e=>rw[h9]at h;cases h
  |ok z=>
   obtain⟨y,z⟩:=z;rw[h9]at h;dsimp only at h;have k2:=hE h9
   cases g1:As [93] z with
   |error e=>rw[g1]at h;cases h
   |ok z2=>
    rw[g1]at h;dsimp only at h;have k3:=Bm g1
    cases g2:As [61] z2 with
    |error e=>rw[g2]at h;cases h
    |ok z3=>
     rw[g2]at h;dsimp only at h;have k4:=Bm g2
     cases g3:Bf f 1 z3 with
     |error e=>rw[g3]at h;cases h
     |ok z4=>obtain⟨y4,z4⟩:=z4;rw[g3]at h;injection h with h;injection h with _ h;subst h;have:=hE g3;omega
 |none=>
 rw[h8]at h;dsimp only at h
 cases g2:As [61] q with
 |error e=>rw[g2]at h;cases h
 |ok z3=>
  rw[g2]at h;dsimp only at h;have k4:=Bm g2
  cases g3:Bf f 1 z3 with
  |error e=>rw[g3]at h;cases h
  |ok z4=>obtain⟨y4,z4⟩:=z4;rw[g3]at h;injection h with h;injection h with _ h;subst h;have:=hE g3;omega
theorem Qm {f:Nat}(h:∀a l x r,Dr f a l=.ok (x,r)→r.length<l.length):∀l x r,Eo f l=.ok (x,r)→r.length<l.length:=by
 intro l x r hb;unfold Eo at hb
 cases h1:As [123] l with
 |error e=>rw[h1]at hb;cases hb
 |ok q=>rw[h1]at hb;have:=Bm h1;have:=h _ _ _ _ hb;omega
theorem Mt:∀f:Nat,(∀l x r,Dl f l=.ok (x,r)→r.length<l.length)∧(∀a l x r,Dr f a l=.ok (x,r)→r.length<l.length)
 |0=>⟨fun l x r h=>(by cases h),fun a l x r h=>(by cases h)⟩
 |f+1=>by
  obtain⟨i1,i2⟩:=Mt f;have ib:=Qm i2;refine⟨fun l x r h=>?_,fun a l x r h=>?_⟩
  ·cases l with
   |nil=>
    have:Dl (f+1) []=.error (Mf []):=by
     rw[Dl];dsimp only[Bp];have hs:Av f []=.error (Mf []):=rfl;rw[hs]
    rw[this]at h;cases h
   |cons t l=>
    cases h0:isP [105,102] t with
    |true=>
     rw[Pk h0]at h
     cases h1:Cr f l with
     |error e=>rw[h1]at h;cases h
     |ok q=>
      obtain⟨y,q⟩:=q;rw[h1]at h;dsimp only at h;have k1:=Ic h1
      cases h2:Eo f q with
      |error e=>rw[h2]at h;cases h
      |ok z=>
       obtain⟨a,z⟩:=z;rw[h2]at h;dsimp only at h;have k2:=ib _ _ _ h2
       cases h3:Bp [101,108,115,101] z with
       |none=>rw[h3]at h;injection h with h;injection h with _ h;subst h;rw[Zc];omega
       |some u=>
        rw[h3]at h;dsimp only at h;have k3:=Cm h3
        cases h4:Eo f u with
        |error e=>rw[h4]at h;cases h
        |ok v=>obtain⟨b,v⟩:=v;rw[h4]at h;injection h with h;injection h with _ h;subst h;have:=ib _ _ _ h4;rw[Zc];omega
    |false=>
     cases h1:isP [119,104,105,108,101] t with
     |true=>
      rw[Ni h0 h1]at h
      cases h2:Cr f l with
      |error e=>rw[h2]at h;cases h
      |ok q=>
       obtain⟨y,q⟩:=q;rw[h2]at h;dsimp only at h;have k1:=Ic h2
       cases h3:Eo f q with
       |error e=>rw[h3]at h;cases h
       |ok z=>obtain⟨a,z⟩:=z;rw[h3]at h;injection h with h;injection h with _ h;subst h;have:=ib _ _ _ h3;rw[Zc];omega
     |false=>
      rw[Ma h0 h1]at h
      cases h2:Av f (t::l)with
      |error e=>rw[h2]at h;cases h
      |ok q=>
       obtain⟨y,q⟩:=q;rw[h2]at h;dsimp only at h;have k1:=gA h2
       cases h3:As [59] q with
       |error e=>rw[h3]at h;cases h
       |ok z=>rw[h3]at h;injection h with h;injection h with _ h;subst h;have:=Bm h3;omega
  ·rw[Dr]at h
   cases h1:Bp [125] l with
   |some q=>rw[h1]at h;injection h with h;injection h with _ h;subst h;exact Cm h1
   |none=>
    rw[h1]at h;dsimp only at h
    cases h2:Dl f l with
    |error e=>rw[h2]at h;cases h
    |ok q=>obtain⟨y,q⟩:=q;rw[h2]at h;dsimp only at h;have:=i1 _ _ _ h2;have:=i2 _ _ _ _ h;omega
theorem Ae.newsY {w:World}{b:Nat}{cs:List Value}{T:TypeId}(h:Ae w b cs T):∀j u,cs[j]? =some u→w.cell? ((⟨b,0,none⟩:Addr).add j)=some u:=by
 intro j u hu;have h2:(⟨b,0,none⟩:Addr).add j=⟨b,j,none⟩:=by unfold Addr.add;split<;>simp_all
 rw[h2];exact h.at j u hu
theorem SFr.grown {p:Nat}{w w1 w2:World}(h:SFr p w w1){row:Option Nat}(hg:w1.grownBy w2 row)(hr:∀k,row=some k→w.heap.size≤k):SFr p w w2:=
 ⟨hg.os.trans h.os,hg.tape.trans h.tape,hg.output.trans h.output,Zf h.size hg.size,fun k hk hp=>(hg.block k (Nat.lt_of_lt_of_le hk h.size) (fun e=>by have:=hr k e.symm;omega)).trans (h.block k hk hp)⟩
theorem Dq.rowGe {w:World}{base:Nat}{ps:List StV}{v:Value}(h:Dq w base ps v):∀k,v.ownBlock=some k→base≤k:=fun k e=>(World.ownsRow.lt h.1 k e).1
structure StsI (w:World)(p tb:Nat)(f:Nat)(R:PR (List St))(g:Nat)(va:Option Addr)(vc:Nat)(ps:List StV)(l:List Tk)(wr:World):Prop where
 sfr:SFr p w wr
 par:Ps wr p tb l
 row:Dq wr w.heap.size ps (.slice va ps.length vc)
 len:ps.length+l.length≤1000000
 fuel:4*l.length+2≤g
 le:g≤f
 res:Dr g (ps.map (·.x)) l=R
theorem Pb(f:Nat)(ih:∀g,g<f→nM g):dU f:=by
 intro l w p tb hl h;obtain⟨R,hR⟩:∃R,Dr f [] l=R:=⟨_,rfl⟩;rw[hR];have hlen:l.length≤1000000:=by obtain⟨_,_,h2⟩:=h;exact h2.fit
 have HPW:=Za h.lt;have HI0:Hid (StsI w p tb f R f none 0 [] l w):=⟨SFr.refl p w,h,Dq.zero _ _,by simpa using hlen,hl,Nat.le_refl _,hR⟩;have IH:=Za ih;obtain⟨i0,hi,hz0,hz1,hz2⟩:=info_parts tU;have HIF:=Za hi;have HZ0:=Za hz0;have HZ1:=Za hz1;have HZ2:=Za hz2;clear hl h hR hlen ih hi hz0 hz1 hz2;go_enter func127,ntmps127
 go_wp2_with fail
 go_loopw [2] (fun s2 wr=> ∃(g:Nat) (va:Option Addr) (vc:Nat) (ps:List StV) (l:List Tk),s2=.slice va ps.length vc∧Hid (StsI w p tb f R g va vc ps l wr)) (fun _ wr=>Dv p wr)
 case atStart=>exact⟨f,none,0,[],l,rfl,HI0⟩
 case round=>
  obtain⟨g,va,vc,ps,l,rfl,HI⟩:=hrel;clear HI0;obtain⟨u,l,rfl⟩:=HI.o.par.ends.ne;obtain⟨g',hg'⟩:∃g',g=g'+1:=⟨g-1,by have:=HI.o.fuel;omega⟩;subst hg'
  cases hu:isP [125] u with
  |true=>
   have HTK:=Za (Bq p tb u l [125] wr HI.o.par hu);have hres:Except.ok (ps.map (·.x),l)=R:=by
    have h1:=HI.o.res;rw[Dr,An hu]at h1;exact h1
   subst hres;clear hu;go_wp2_with fail
   refine HTK.o.mono ?_;rintro e w3 ⟨rfl,hf,hp⟩;have HF:=Za (HI.o.sfr.trans hf);have HP:=Za hp;have HR:=Za ((HI.o.row.sfr hf HPW.o).sts (show ps.length≤140737488355328 by have:=HI.o.len;omega));clear hf hp;go_wp2_with fail
   go_ret
   exact⟨HF.o,_,rfl,HP.o,HR.o⟩
  |false=>
   have HTK:=Za (Aj p tb u l [125] wr HI.o.par hu);have hres:(match Dl g' (u::l)with|.error e=>.error e|.ok (x,r)=>Dr g' (ps.map (·.x)++[x]) r)=R:=by
    have h1:=HI.o.res;rw[Dr,Af hu]at h1;exact h1
   have HRES:=Za hres;clear hu hres;go_wp2_with fail
   refine HTK.o.mono ?_;rintro e w3 ⟨rfl,hb⟩;have HP3:=Za (HI.o.par.old hb);have HF3:=Za (HI.o.sfr.trans (SFr.of_below hb));have HR3:=Za (HI.o.row.sfr (SFr.of_below (s:=p) hb) HPW.o);have HC:=Za (IH.out g' (by have:=HI.o.le;omega) (u::l) w3 p tb (by have:=HI.o.fuel;omega) (HI.o.par.old hb));clear hb;go_wp2_with fail
   refine HC.o.mono ?_;intro e w4 he
   cases hA:Dl g' (u::l)with
   |error n=>
    rw[hA]at he;obtain⟨hf,rfl⟩:=he;have HF:=Za (HF3.o.trans hf);have e2:=HRES.o;rw[hA]at e2;dsimp only at e2;subst e2;clear hf hA;unfold Bk;go_wp2_with fail
    exact⟨rfl,HF.o,rfl⟩
   |ok q=>
    obtain⟨x,r⟩:=q;rw[hA]at he;obtain⟨hf,v,rfl,hp,xa,xt,xe,rfl,ha,ht,hE⟩:=he;obtain⟨a1,a2,rfl⟩:=ha.shape;obtain⟨t1,t2,rfl⟩:=ht.shape;obtain⟨e1,e2,rfl⟩:=hE.shape;have hr4:=HR3.o.sfr hf HPW.o;have hf4:=HF3.o.trans hf;have hlt3:∀k,(Value.slice va ps.length vc).ownBlock=some k→k<w3.heap.size:=fun k e=>(World.ownsRow.lt HR3.o.1 k e).2
    have hsz:=HF3.o.size;have hpar:Fi (fun b=>w.heap.size≤b∧(Value.slice va ps.length vc).ownBlock≠some b) w4 ⟨x,.slice a1 x.args.length a2,.slice t1 x.thn.length t2,.slice e1 x.els.length e2⟩:=by
     have hD:∀b,w3.heap.size≤b→w.heap.size≤b∧(Value.slice va ps.length vc).ownBlock≠some b:=fun b hb=>⟨by omega,fun e=>by have:=hlt3 b e;omega⟩
     exact⟨ha.mono hD,ht.mono hD,hE.mono hD⟩
    have hal:Below w4.heap.size w4 (w4.alloc (.cells #[.int .i64 x.kind,.string (Aa x.name),.slice a1 x.args.length a2,.slice t1 x.thn.length t2,.slice e1 x.els.length e2] 60)):=bA;have HR5:=Za (hr4.sfr (SFr.of_below (s:=p) hal) HPW.o);have HF5:=Za (hf4.trans (SFr.of_below hal));have HP5:=Za (hp.old hal);have HPR5:=Za (hpar.keep (Bh hal));have HNEW:=Za (Zd w4 (Hc x (.slice a1 x.args.length a2) (.slice t1 x.thn.length t2) (.slice e1 x.els.length e2)) 60);have hlen:=HI.o.len;rw[Zc]at hlen;have hless:=(Mt g').1 _ _ _ hA;rw[Zc]at hless;have hfu:=HI.o.fuel;rw[Zc]at hfu;have hRES:=HRES.o;rw[hA]at hRES;dsimp only at hRES;have HRS:=Za hRES;have HLE:Hid (g'≤f):=by show _≤_;have:=HI.o.le;omega
    have HFU:Hid (4*r.length+2≤g'):=by show _≤_;omega
    have HLN:Hid (ps.length+1+r.length≤1000000):=by show _≤_;omega
    have hps:ps.length≤1000000:=by omega
    have HLS:Hid (r.length<l.length+1):=hless;have HSZ:Hid (w.heap.size≤(w4.alloc (.cells #[.int .i64 x.kind,.string (Aa x.name),.slice a1 x.args.length a2,.slice t1 x.thn.length t2,.slice e1 x.els.length e2] 60)).heap.size):=HF5.o.size;clear hf hp ha ht hE hr4 hf4 hlt3 hsz hpar hal hlen hless hfu hRES hA;go_wp2_with (at_builtin;(refine wpList_append_lies (P:=Zb) _ rfl _ _ 56 rfl w.heap.size 60 i0 _ 5 96 underlying56 HIF.o HZ0.o HZ1.o HZ2.o rfl (by decide) (.slice va ps.length vc) ps.length (Jd ps) rfl HR5.o.1 ⟨w4.heap.size,0,none⟩ 1 1 (Hc x (.slice a1 x.args.length a2) (.slice t1 x.thn.length t2) (.slice e1 x.els.length e2)) rfl rfl HNEW.o.newsY (tV _ _ _ _ _ _ _ _ _ _) (by decide) (by unfold maxLen;omega) (by omega) HSZ.o _ rfl ?_;intro gb cap w11 hown hgrow hat hlt11;have HR11:=Za (HR5.o.snoc ⟨x,.slice a1 x.args.length a2,.slice t1 x.thn.length t2,.slice e1 x.els.length e2⟩ HPR5.o hown hgrow hat);have HF11:=Za (HF5.o.grown hgrow HR5.o.rowGe);have HP11:=Za (HP5.o.grown hgrow HR5.o.rowGe HPW.o);clear hown hgrow hat))
    have HI11:Hid (StsI w p tb f R g' (some ⟨gb,0,none⟩) cap (ps++[⟨x,.slice a1 x.args.length a2,.slice t1 x.thn.length t2,.slice e1 x.els.length e2⟩]) r w11):=⟨HF11.o,HP11.o,by have:=HR11.o;rw[List.length_append];exact this,by rw[List.length_append];exact HLN.o,HFU.o,HLE.o,by rw[List.map_append];exact HRS.o⟩;have hm:Dv p w11<Dv p wr:=by
     rw[HI11.o.par.len,HI.o.par.len,Zc];exact HLS.o
    have HM:=Za hm;clear hm;go_roundw
    case rel=>exact⟨g',_,_,_,r,by rw[List.length_append];rfl,HI11⟩
    case measure=>exact HM.o
theorem nQ:∀f:Nat,nM f∧dU f∧Tq f
 |0=>⟨fun l w p tb h=>by omega,Pb 0 (fun g hg=>by omega),fF 0 (Pb 0 (fun g hg=>by omega))⟩
 |f+1=>by
  have ih:∀g,g<f+1→nM g∧dU g∧Tq g:=fun g hg=>nQ g
  have h1:=Pb (f+1) (fun g hg=>(ih g hg).1);exact⟨jJ f (ih f (Nat.lt_succ_self _)).2.2 (Qm (Mt f).2),h1,fF (f+1) h1⟩
def Io {α:Type}(e:TypeId)(cf:α→List Value)(k:Nat)(w:World)(base:Nat)(L:List α)(v:Value):Prop:=w.ownsRow base e k v L.length (L.flatMap cf)
section
variable {α:Type} {e:TypeId} {cf:α→List Value} {k:Nat} {w w':World} {base:Nat} {L:List α} {v:Value}
theorem Io.zero(e:TypeId)(cf:α→List Value)(k:Nat)(w:World)(base:Nat):Io e cf k w base [] (.slice none 0 0):=World.ownsRow_nil _ _ _ _
theorem Io.lt(h:Io e cf k w base L v):∀g,v.ownBlock=some g→base≤g∧g<w.heap.size:=World.ownsRow.lt h
theorem Io.sfr(h:Io e cf k w base L v){p:Nat}(hf:SFr p w w')(hp:p<base):Io e cf k w' base L v:=by
 refine⟨h.1,?_⟩;rcases h.2 with hn|⟨g,cap,cur,rfl,hg,hh,r⟩
 ·exact .inl hn
 ·refine .inr ⟨g,cap,cur,rfl,hg,?_,r⟩
  rw[hf.block g (by
   rcases Nat.lt_or_ge g w.heap.size with h'|h'
   ·exact h'
   ·simp [Array.getElem?_eq_none h']at hh) (by omega)]
  exact hh
theorem Io.old(h:Io e cf k w base L v)(hb:Below w.heap.size w w'):Io e cf k w' base L v:=by
 refine⟨h.1,?_⟩;rcases h.2 with hn|⟨g,cap,cur,rfl,hg,hh,r⟩
 ·exact .inl hn
 ·refine .inr ⟨g,cap,cur,rfl,hg,?_,r⟩
  rw[hb.block g (by
   rcases Nat.lt_or_ge g w.heap.size with h'|h'
   ·exact h'
   ·simp [Array.getElem?_eq_none h']at hh)]
  exact hh
theorem Io.low(h:Io e cf k w base L v){b:Nat}(hb:b<base)(i:Nat)(x:Value):Io e cf k (w.setCell ⟨b,i,none⟩ x) base L v:=by
 refine⟨h.1,?_⟩;rcases h.2 with hn|⟨g,cap,cur,rfl,hg,hh,r⟩
 ·exact .inl hn
 ·refine .inr ⟨g,cap,cur,rfl,hg,?_,r⟩
  rw[Below.heap_setCell _ _ _ _ (show g≠b by omega)];exact hh
theorem Io.shape(h:Io e cf k w base L v):∃a cap,v=.slice a L.length cap:=by
 rcases h.2 with⟨h1,h2⟩|⟨g,cap,cur,rfl,_⟩
 ·exact⟨none,0,by rw[h1,h2]⟩
 ·exact⟨_,_,rfl⟩
end
section
variable (w:World) {o:Oper} {a:Act} {K:Act→World→Prop} {Q:Exit→Act→World→Prop}
theorem fA {α:Type}(s x:Operand)(t:TypeId)(ho:o.op=.call {callee:=.builtin .append,args:= #[s,x],argTypes:= #[t,t]})
  (e:TypeId) (ht:Tryz.prog.underlying t=some (.slice e)) (z:Value) (k bytes:Nat) (hinfo:(Tryz.prog.info? e).map (fun i=>(i.zero,i.size,i.bytes))=some (some z,k,bytes)) (hzs:z.cells.size=k) (hk:0<k)
  (cf:α→List Value) (hf:∀x,(cf x).length=k) (h1:∀x u,u∈cf x→u.oneCell'=true)
  (base:Nat) (L:List α) (v:Value) (hs:a.eval s=v) (hown:Io e cf k w base L v) (y:α) (b c:Nat) (hx:a.eval x=.slice (some ⟨b,0,none⟩) 1 c) (hnew:Ae w b (cf y) e)
  (hlen:(L.length+1)*bytes≤140737488355328) (hl2:L.length+1≤140737488355328) (hbase:base≤w.heap.size)
  (h:∀g cap w',Io e cf k w' base (L++[y]) (.slice (some ⟨g,0,none⟩) (L.length+1) cap)→w.grownBy w' v.ownBlock→(v.ownBlock=some g∨g=w.heap.size)→g<w'.heap.size→K (a.put o.dst (.slice (some ⟨g,0,none⟩) (L.length+1) cap)) w'):o.wp Zb a w K Q:=by
 obtain⟨i0,hi,hz0,hz1,hz2⟩:=info_parts hinfo;refine wp_append_lies (P:=Zb) w s x t ho base e i0 z k bytes ht hi hz0 hz1 hz2 hzs hk v L.length (L.flatMap cf) hs hown ⟨b,0,none⟩ 1 c (cf y) hx (by rw[hf,Nat.one_mul]) hnew.newsY (h1 y) (by decide) (by unfold maxLen;omega) hlen hbase _ rfl ?_;intro g cap w' hown' hg hat hlt;refine h g cap w' ?_ hg hat hlt;unfold Io;simpa using hown'
end
theorem infoYS:(Tryz.prog.info? 9).map (fun i=>(i.zero,i.size,i.bytes))=some (some (.string ⟨#[]⟩),1,16):=by kernel_rfl
theorem infoYA:(Tryz.prog.info? 85).map (fun i=>(i.zero,i.size,i.bytes))=some (some (.agg #[.string ⟨#[]⟩,.int .i64 0]),2,24):=by kernel_rfl
theorem infoYF:(Tryz.prog.info? 58).map (fun i=>(i.zero,i.size,i.bytes))=some (some (.agg #[.string ⟨#[]⟩,.slice none 0 0,.slice none 0 0,.slice none 0 0]),4,88):=by kernel_rfl
def Jx(s:Bs):List Value:=[.string (Aa s)]
def Jy(x:Ar):List Value:=[.string (Aa x.name),.int .i64 x.size]
abbrev Mc(w:World)(base:Nat)(L:List Bs)(v:Value):Prop:=Io 9 Jx 1 w base L v
abbrev Xa(w:World)(base:Nat)(L:List Ar)(v:Value):Prop:=Io 85 Jy 2 w base L v
theorem ys_one(x:Bs):∀u,u∈Jx x→u.oneCell'=true:=by
 intro u hu;simp only[Jx,List.mem_cons,List.not_mem_nil,or_false]at hu;subst hu;rfl
theorem ya_one(x:Ar):∀u,u∈Jy x→u.oneCell'=true:=by
 intro u hu;simp only[Jy,List.mem_cons,List.not_mem_nil,or_false]at hu;rcases hu with rfl|rfl<;>rfl
section
variable (w:World) {o:Oper} {a:Act} {K:Act→World→Prop} {Q:Exit→Act→World→Prop}
theorem nG(s x:Operand)(ho:o.op=.call {callee:=.builtin .append,args:= #[s,x],argTypes:= #[24,24]})
  (base:Nat) (L:List Bs) (v:Value) (hs:a.eval s=v) (hown:Mc w base L v) (y:Bs) (b c:Nat) (hx:a.eval x=.slice (some ⟨b,0,none⟩) 1 c) (hnew:Ae w b (Jx y) 9)
  (hlen:L.length≤1000000) (hbase:base≤w.heap.size)
  (h:∀g cap w',Mc w' base (L++[y]) (.slice (some ⟨g,0,none⟩) (L.length+1) cap)→w.grownBy w' v.ownBlock→(v.ownBlock=some g∨g=w.heap.size)→g<w'.heap.size→K (a.put o.dst (.slice (some ⟨g,0,none⟩) (L.length+1) cap)) w'):o.wp Zb a w K Q:=
 fA w s x _ ho 9 underlying24 _ 1 16 infoYS rfl (by decide) Jx (fun _=>rfl) ys_one base L v hs hown y b c hx hnew (by omega) (by omega) hbase h
theorem wp_yarr(s x:Operand)(ho:o.op=.call {callee:=.builtin .append,args:= #[s,x],argTypes:= #[31,31]})
  (base:Nat) (L:List Ar) (v:Value) (hs:a.eval s=v) (hown:Xa w base L v) (y:Ar) (b c:Nat) (hx:a.eval x=.slice (some ⟨b,0,none⟩) 1 c) (hnew:Ae w b (Jy y) 85)
  (hlen:L.length≤1000000) (hbase:base≤w.heap.size)
  (h:∀g cap w',Xa w' base (L++[y]) (.slice (some ⟨g,0,none⟩) (L.length+1) cap)→w.grownBy w' v.ownBlock→(v.ownBlock=some g∨g=w.heap.size)→g<w'.heap.size→K (a.put o.dst (.slice (some ⟨g,0,none⟩) (L.length+1) cap)) w'):o.wp Zb a w K Q:=
 fA w s x _ ho 85 underlying31 _ 2 24 infoYA rfl (by decide) Jy (fun _=>rfl) ya_one base L v hs hown y b c hx hnew (by omega) (by omega) hbase h
end
theorem Mu {α:Type}(f:α→List Value)(k:Nat)(hf:∀x,(f x).length=k):∀(l:List α) (i q:Nat) (p:α),l[i]? =some p→q<k→(l.flatMap f)[i*k+q]? =(f p)[q]?
 |[],i,q,p,h,_=>by simp at h
 |x::l,0,q,p,h,hq=>by
  simp at h;subst h;rw[List.flatMap_cons,List.getElem?_append_left (by rw[hf];omega)];simp
 |x::l,i+1,q,p,h,hq=>by
  simp at h;have:=Mu f k hf l i q p h hq;rw[List.flatMap_cons,List.getElem?_append_right (by rw[hf,Nat.succ_mul];omega),hf,←this];congr 1;rw[Nat.succ_mul];omega
theorem Mc.strs {w:World}{base:Nat}{L:List Bs}{v:Value}(h:Mc w base L v)(hl:L.length≤1000000):Ba (base≤ ·) w L v:=by
 obtain⟨a,cap,rfl⟩:=h.shape;rcases h.2 with⟨h1,h2⟩|⟨g,cap2,cur,hv,hg,hh,hc,r⟩
 ·injection h1 with h1 h3 h4
  exact⟨a,cap,0,0,rfl,by omega,by show _≤_;omega,.inl h2,fun i hi=>by omega⟩
 ·injection hv with hv1 _ hv3
  subst hv1 hv3;refine⟨_,cap,g,0,rfl,hc,by show _≤_;omega,.inr ⟨rfl,hg⟩,fun i hi=>?_⟩;have h1:=h.cellAt (i*1+0) (by omega);rw[Mu Jx 1 (fun _=>rfl) L i 0 L[i] (Zg hi) (by decide)]at h1;have e:(⟨g,i*1+0,none⟩:Addr)=⟨g,0+i,none⟩:=by simp
  rw[e]at h1;rw[h1];simp [Jx,Zh,Zg hi]
theorem Xa.ars {w:World}{base:Nat}{L:List Ar}{v:Value}(h:Xa w base L v)(hl:L.length≤1000000):Bt (base≤ ·) w L v:=by
 obtain⟨a,cap,rfl⟩:=h.shape;rcases h.2 with⟨h1,h2⟩|⟨g,cap2,cur,hv,hg,hh,hc,r⟩
 ·injection h1 with h1 h3 h4
  exact⟨a,cap,0,0,rfl,by omega,by show _≤_;omega,.inl h2,fun i hi=>by omega⟩
 ·injection hv with hv1 _ hv3
  subst hv1 hv3;refine⟨_,cap,g,0,rfl,hc,by show _≤_;omega,.inr ⟨rfl,hg⟩,fun i hi=>⟨?_,?_⟩⟩
  ·have h1:=h.cellAt (i*2+0) (by omega)
   rw[Mu Jy 2 (fun _=>rfl) L i 0 L[i] (Zg hi) (by decide)]at h1;have e:(⟨g,i*2+0,none⟩:Addr)=⟨g,0+i*2,none⟩:=by simp
   rw[e]at h1;rw[h1];simp [Jy,Kz,Zh,Zg hi]
  ·have h1:=h.cellAt (i*2+1) (by omega)
   rw[Mu Jy 2 (fun _=>rfl) L i 1 L[i] (Zg hi) (by decide)]at h1;have e:(⟨g,i*2+1,none⟩:Addr)=⟨g,0+i*2+1,none⟩:=by simp
   rw[e]at h1;rw[h1];simp [Jy,Kz,Zh,Zg hi]
structure VY3 (p tb cb ob base:Nat)(nm:Bs)(va:Option Addr)(vc:Nat)(S:List Bs)(ov:Value)(s:Bs)(l r:List Tk)(err:Option Int)(W:World)(L:Nat→Bool)(nb:Nat)(gn:Nat)(cn:Nat)(z5 z6 z7 z8 z9 z10 z11:Value)(wx:World):Prop where
 ord:L 7=true→∀j,j<7→L j=true
 p4_3:L 4=true→L 3=true
 p5_3:L 5=true→L 3=true
 p5_4:L 5=true→L 4=true
 p7_5:L 7=true→L 5=true
 c0:L 0=true→z5=.pointer (some ⟨ob,1,none⟩)
 c1:L 1=true→z6=.slice va S.length vc
 c2:L 2=true→z7=.pointer (some ⟨p,0,none⟩)
 c3:L 3=true→z8=.string (Aa s)
 c4:L 4=true→z9=.slice (some ⟨nb,0,none⟩) 1 1
 c5:L 5=true→z10=.slice (some ⟨gn,0,none⟩) (S.length+1) cn
 c6:L 6=true→z11=.pointer (some ⟨ob,1,none⟩)
 fr:AFr p ob base W wx
 pa:L 3=false→Ps wx p tb l
 pb:L 3=true→Ps wx p tb r
 c:Ae wx cb [.pointer (some ⟨p,0,none⟩)] 64
 x:L 7=false→Ae wx ob [.string (Aa nm),.slice va S.length vc,ov,.slice none 0 0] 58
 x7:L 7=true→Ae wx ob [.string (Aa nm),.slice (some ⟨gn,0,none⟩) (S.length+1) cn,ov,.slice none 0 0] 58
 ra:L 5=false→Mc wx base S (.slice va S.length vc)
 rb:L 5=true→Mc wx base (S++[s]) (.slice (some ⟨gn,0,none⟩) (S.length+1) cn)∧((Value.slice va S.length vc).ownBlock=some gn∨W.heap.size≤gn)
 g4:L 4=true→L 5=false→Ae wx nb (Jx s) 9∧base≤nb
 gr:∀b,b<W.heap.size→base≤b→(Value.slice va S.length vc).ownBlock≠some b→wx.heap[b]? =W.heap[b]?
def IY3(p tb cb ob base:Nat)(nm:Bs)(va:Option Addr)(vc:Nat)(S:List Bs)(ov:Value)(s:Bs)(l r:List Tk)(err:Option Int)(W:World)(q2 q3 q4:Value)(L:Nat→Bool)(a':Act)(w':World):Prop:=
 ∃nb:Nat,∃gn:Nat,∃cn:Nat,∃z5 z6 z7 z8 z9 z10 z11:Value,VY3 p tb cb ob base nm va vc S ov s l r err W L nb gn cn z5 z6 z7 z8 z9 z10 z11 w'∧a'=⟨[.pointer (some ⟨cb,0,none⟩),.pointer (some ⟨ob,0,none⟩),q2,q3,q4,z5,z6,z7,z8,z9,z10,z11].toArray,[]⟩
def RY3(p tb cb ob base:Nat)(nm:Bs)(va:Option Addr)(vc:Nat)(S:List Bs)(ov:Value)(s:Bs)(l r:List Tk)(err:Option Int)(W:World)(q2 q3 q4:Value)(a':Act)(w':World):Prop:=
 ∃nb:Nat,∃gn:Nat,∃cn:Nat,(AFr p ob base W w'∧Ps w' p tb r∧Ae w' cb [.pointer (some ⟨p,0,none⟩)] 64∧Ae w' ob [.string (Aa nm),.slice (some ⟨gn,0,none⟩) (S.length+1) cn,ov,.slice none 0 0] 58∧Mc w' base (S++[s]) (.slice (some ⟨gn,0,none⟩) (S.length+1) cn)∧((Value.slice va S.length vc).ownBlock=some gn∨W.heap.size≤gn)∧(∀b,b<W.heap.size→base≤b→(Value.slice va S.length vc).ownBlock≠some b→w'.heap[b]? =W.heap[b]?))∧a'=⟨[.pointer (some ⟨cb,0,none⟩),.pointer (some ⟨ob,0,none⟩),q2,q3,q4,.pointer (some ⟨ob,1,none⟩),.slice va S.length vc,.pointer (some ⟨p,0,none⟩),.string (Aa s),.slice (some ⟨nb,0,none⟩) 1 1,.slice (some ⟨gn,0,none⟩) (S.length+1) cn,.pointer (some ⟨ob,1,none⟩)].toArray,[]⟩
theorem rR(p tb cb ob base:Nat)(nm:Bs)(va:Option Addr)(vc:Nat)(S:List Bs)(ov:Value)(s:Bs)(l r:List Tk)(err:Option Int)(W:World)(hps:Ps W p tb l)(hc:Ae W cb [.pointer (some ⟨p,0,none⟩)] 64)(ho:Ae W ob [.string (Aa nm),.slice va S.length vc,ov,.slice none 0 0] 58)(hrow:Mc W base S (.slice va S.length vc))(hpc:p<cb)(hco:cb<ob)(hob:ob<base)(hbs:base≤W.heap.size)(hll:S.length≤1000000)(HNM:Hid (∀w1,Ps w1 p tb l→Calls Zb 65 #[.pointer (some ⟨p,0,none⟩)] w1 fun e w'=>match err with|some n=>e=Bk n∧SFr p w1 w'|none=>e=.returned (.string (Aa s))∧SFr p w1 w'∧Ps w' p tb r))(Q:Exit→Act→World→Prop)(hQ:∀n a' w',err=some n→a'.defers=[]→AFr p ob base W w'→Q (.panic [{v:=.iface 110 (.agg #[.int .i64 n]),recovered:=false}]) a' w')(q2 q3 q4 q5 q6 q7 q8 q9 q10 q11:Value)(J K':Act→World→Prop)(hJ:∀a' w',RY3 p tb cb ob base nm va vc S ov s l r err W q2 q3 q4 a' w'→J a' w')(hM:∀a' w',Met J a' w'→K' a' w'):
  Code.wp Zb ((Tryz.f126.body.bind (Ld 1)).getD .skip) (Exit.then K' Q) ⟨[.pointer (some ⟨cb,0,none⟩),.pointer (some ⟨ob,0,none⟩),q2,q3,q4,q5,q6,q7,q8,q9,q10,q11].toArray,[]⟩ W:=by
 have HPS:=Za hps;have HC:=Za hc;have HO:=Za ho;have HROW:=Za hrow;have HQ:=Za hQ;clear hps hc ho hrow hQ
 conv=>arg 2;whnf
 (try dsimp only);refine Fp (by kernel_rfl) (by kernel_rfl) (IY3 p tb cb ob base nm va vc S ov s l r err W q2 q3 q4) ?_ ?_ ?_
 ·exact⟨0,0,0,q5,q6,q7,q8,q9,q10,q11,⟨(fun h=>by cases h),(fun h=>by cases h),(fun h=>by cases h),(fun h=>by cases h),(fun h=>by cases h),(fun h=>by cases h),(fun h=>by cases h),(fun h=>by cases h),(fun h=>by cases h),(fun h=>by cases h),(fun h=>by cases h),(fun h=>by cases h),((AFr.refl p ob base W).old (Ze _ _).drew),(fun _=>HPS.o.old (Ze _ _).drew),(fun h=>by cases h),(HC.o.old (Ze _ _).drew),(fun _=>HO.o.old (Ze _ _).drew),(fun h=>by cases h),(fun _=>HROW.o.old (Ze _ _).drew),(fun h=>by cases h),(fun h=>fun _=>by cases h),(fun b _ _ _=>rfl)⟩,rfl⟩
 ·intro L act wx k hI hk hl hd
  obtain⟨nb,gn,cn,z5,z6,z7,z8,z9,z10,z11,hV,rfl⟩:=hI;have hk:k=0∨k=1∨k=2∨k=3∨k=4∨k=5∨k=6∨k=7:=by
   have:k<8:=hk;omega
  rcases hk with rfl|rfl|rfl|rfl|rfl|rfl|rfl|rfl
  ·have nl:=kf hV.ord hl
   refine Bc _ rfl rfl (fun K' hK=>?_)
   conv=>arg 2;whnf
   go_wp2_with fail
   exact⟨nb,gn,cn,.pointer (some ⟨ob,1,none⟩),z6,z7,z8,z9,z10,z11,⟨kl nl,kq hV.p4_3,kq hV.p5_3,kq hV.p5_4,kq hV.p7_5,(fun _=>rfl),kc hV.c1,kc hV.c2,kc hV.c3,kc hV.c4,kc hV.c5,kc hV.c6,hV.fr,(fun h0=>hV.pa (kb h0)),kc hV.pb,hV.c,(fun h0=>hV.x (kb h0)),kl nl,(fun h0=>hV.ra (kb h0)),kc hV.rb,(fun h0=>fun h1=>hV.g4 (kb h0) (kb h1)),hV.gr⟩,rfl⟩
  ·have nl:=kf hV.ord hl
   have d0:L 0=true:=hd _ rfl ⟨0,.data⟩ (by simp) rfl;obtain rfl:=(hV.c0 d0).symm;have l7:L 7=false:=nl;have ho:=hV.x l7;have x1:=ho.at 1 _ rfl;refine Bc _ rfl rfl (fun K' hK=>?_)
   conv=>arg 2;whnf
   go_wp2_with fail
   exact⟨nb,gn,cn,.pointer (some ⟨ob,1,none⟩),.slice va S.length vc,z7,z8,z9,z10,z11,⟨kl nl,kq hV.p4_3,kq hV.p5_3,kq hV.p5_4,kq hV.p7_5,kc hV.c0,(fun _=>rfl),kc hV.c2,kc hV.c3,kc hV.c4,kc hV.c5,kc hV.c6,hV.fr,(fun h0=>hV.pa (kb h0)),kc hV.pb,hV.c,(fun h0=>hV.x (kb h0)),kl nl,(fun h0=>hV.ra (kb h0)),kc hV.rb,(fun h0=>fun h1=>hV.g4 (kb h0) (kb h1)),hV.gr⟩,rfl⟩
  ·have nl:=kf hV.ord hl
   have hc0:=hV.c.at 0 _ rfl;refine Bc _ rfl rfl (fun K' hK=>?_)
   conv=>arg 2;whnf
   go_wp2_with fail
   exact⟨nb,gn,cn,z5,z6,.pointer (some ⟨p,0,none⟩),z8,z9,z10,z11,⟨kl nl,kq hV.p4_3,kq hV.p5_3,kq hV.p5_4,kq hV.p7_5,kc hV.c0,kc hV.c1,(fun _=>rfl),kc hV.c3,kc hV.c4,kc hV.c5,kc hV.c6,hV.fr,(fun h0=>hV.pa (kb h0)),kc hV.pb,hV.c,(fun h0=>hV.x (kb h0)),kl nl,(fun h0=>hV.ra (kb h0)),kc hV.rb,(fun h0=>fun h1=>hV.g4 (kb h0) (kb h1)),hV.gr⟩,rfl⟩
  ·have nl:=kf hV.ord hl
   have d2:L 2=true:=hd _ rfl ⟨2,.data⟩ (by simp) rfl;obtain rfl:=(hV.c2 d2).symm;have hps:=hV.pa hl;refine Bc _ rfl rfl (fun K' hK=>?_)
   conv=>arg 2;whnf
   have HPX:=Za hps;have HFX:=Za hV.fr;clear hps;go_wp2_with fail
   refine(HNM.o _ HPX.o).mono ?_;intro e w7 he
   cases err with
   |some n=>
    obtain⟨rfl,hf⟩:=he;unfold Bk;have HF:=Za (HFX.o.trans (AFr.of_sfr hf));clear hf hK hV;go_wp2_with fail
    exact HQ.o n _ _ rfl rfl HF.o
   |none=>
   obtain⟨rfl,hf7,hp7⟩:=he;go_wp2_with fail
   exact⟨nb,gn,cn,z5,z6,.pointer (some ⟨p,0,none⟩),.string (Aa s),z9,z10,z11,⟨kl nl,(fun _=>Bb L 3),(fun _=>Bb L 3),kq hV.p5_4,kq hV.p7_5,kc hV.c0,kc hV.c1,kc hV.c2,(fun _=>rfl),kc hV.c4,kc hV.c5,kc hV.c6,(hV.fr.trans (AFr.of_sfr hf7)),(ks),(fun _=>hp7),(hV.c.sfr hf7 (by omega)),(fun h=>(hV.x (kb h)).sfr hf7 (by omega)),kl nl,(fun h=>(hV.ra (kb h)).sfr hf7 (by omega)),(fun h=>⟨Io.sfr (hV.rb (kb h)).1 hf7 (by omega),(hV.rb (kb h)).2⟩),(fun h1 h2=>⟨Ae.sfr (hV.g4 (kb h1) (kb h2)).1 hf7 (by have:=(hV.g4 (kb h1) (kb h2)).2;omega),(hV.g4 (kb h1) (kb h2)).2⟩),(fun b h1 h2 h3=>(hf7.block b (by have:=hV.fr.size;omega) (by omega)).trans (hV.gr b h1 h2 h3))⟩,rfl⟩
  ·have nl:=kf hV.ord hl
   have d3:L 3=true:=hd _ rfl ⟨3,.data⟩ (by simp) rfl;obtain rfl:=(hV.c3 d3).symm;have hal:Below wx.heap.size wx (wx.alloc (.cells #[.string (Aa s)] 9)):=bA;have hfs:=hV.fr.size;refine Bc _ rfl rfl (fun K' hK=>?_)
   conv=>arg 2;whnf
   go_wp2_with fail
   exact⟨wx.heap.size,gn,cn,z5,z6,z7,.string (Aa s),.slice (some ⟨(wx.heap.size),0,none⟩) 1 1,z10,z11,⟨kl nl,(kd (d3)),kq hV.p5_3,(fun _=>Bb L 4),kq hV.p7_5,kc hV.c0,kc hV.c1,kc hV.c2,kc hV.c3,(fun _=>rfl),kc hV.c5,kc hV.c6,(AFr.old (hV.fr) hal),(fun h0=>Ps.old (hV.pa (kb h0)) hal),(fun h0=>Ps.old (hV.pb (kb h0)) hal),(Ae.old (hV.c) hal),(fun h0=>Ae.old (hV.x (kb h0)) hal),kl nl,(fun h0=>Io.old (hV.ra (kb h0)) hal),(kn hV.p5_4 hl),(fun _ _=>⟨Zd wx (Jx s) 9,by omega⟩),(fun b h1 h2 h3=>(hal.block b (by omega)).trans ((hV.gr) b h1 h2 h3))⟩,rfl⟩
  ·have nl:=kf hV.ord hl
   have d1:L 1=true:=hd _ rfl ⟨1,.data⟩ (by simp) rfl;obtain rfl:=(hV.c1 d1).symm;have d3:L 3=true:=hd _ rfl ⟨3,.chain⟩ (by simp) rfl;have d4:L 4=true:=hd _ rfl ⟨4,.data⟩ (by simp) rfl;obtain rfl:=(hV.c4 d4).symm;have d3:L 3=true:=hd _ rfl ⟨3,.chain⟩ (by simp) rfl;have hg4:=hV.g4 d4 hl;have hra:=hV.ra hl;have hfs:=hV.fr.size;refine Bc _ rfl rfl (fun K' hK=>?_)
   conv=>arg 2;whnf
   refine nG wx _ _ rfl base S (.slice va S.length vc) rfl hra s nb 1 rfl hg4.1 hll (Zf hbs hfs) ?_;intro g2 cap2 w2 hr2 hg2 ha2 hl2;have hrg:∀k,(Value.slice va S.length vc).ownBlock=some k→base≤k:=fun k e=>(hra.lt k e).1
   go_wp2_with fail
   exact⟨nb,g2,cap2,z5,.slice va S.length vc,z7,z8,.slice (some ⟨nb,0,none⟩) 1 1,.slice (some ⟨(g2),0,none⟩) (S.length+1) (cap2),z11,⟨kl nl,kq hV.p4_3,(kd (d3)),(kd (d4)),(fun _=>Bb L 5),kc hV.c0,kc hV.c1,kc hV.c2,kc hV.c3,kc hV.c4,(fun _=>rfl),kc hV.c6,(hV.fr.grown hg2 hrg),(fun h=>by rw[Ab L (by decide)]at h;rw[d3]at h;cases h),(fun _=>(hV.pb d3).grown hg2 hrg (by omega)),(hV.c.grew hg2 (fun e=>by have:=hrg _ e;omega)),(fun h=>(hV.x (kb h)).grew hg2 (fun e=>by have:=hrg _ e;omega)),kl nl,(ks),(fun _=>⟨hr2,by rcases ha2 with h|h;exact .inl h;exact .inr (by omega)⟩),(fun _=>ks),(fun b h1 h2 h3=>(hg2.block b (by omega) (fun e=>h3 e.symm)).trans (hV.gr b h1 h2 h3))⟩,rfl⟩
  ·have nl:=kf hV.ord hl
   refine Bc _ rfl rfl (fun K' hK=>?_)
   conv=>arg 2;whnf
   go_wp2_with fail
   exact⟨nb,gn,cn,z5,z6,z7,z8,z9,z10,.pointer (some ⟨ob,1,none⟩),⟨kl nl,kq hV.p4_3,kq hV.p5_3,kq hV.p5_4,kq hV.p7_5,kc hV.c0,kc hV.c1,kc hV.c2,kc hV.c3,kc hV.c4,kc hV.c5,(fun _=>rfl),hV.fr,(fun h0=>hV.pa (kb h0)),kc hV.pb,hV.c,(fun h0=>hV.x (kb h0)),kl nl,(fun h0=>hV.ra (kb h0)),kc hV.rb,(fun h0=>fun h1=>hV.g4 (kb h0) (kb h1)),hV.gr⟩,rfl⟩
  ·have before:∀j,j<7→L j=true:=fun j hj=>by
    have hj:j=0∨j=1∨j=2∨j=3∨j=4∨j=5∨j=6:=by omega
    rcases hj with rfl|rfl|rfl|rfl|rfl|rfl|rfl
    ·exact hd _ rfl ⟨0,.phase⟩ (by simp) rfl
    ·exact hd _ rfl ⟨1,.phase⟩ (by simp) rfl
    ·exact hd _ rfl ⟨2,.phase⟩ (by simp) rfl
    ·exact hd _ rfl ⟨3,.phase⟩ (by simp) rfl
    ·exact hd _ rfl ⟨4,.phase⟩ (by simp) rfl
    ·exact hd _ rfl ⟨5,.data⟩ (by simp) rfl
    ·exact hd _ rfl ⟨6,.data⟩ (by simp) rfl
   have d5:L 5=true:=hd _ rfl ⟨5,.data⟩ (by simp) rfl;obtain rfl:=(hV.c5 d5).symm;have d6:L 6=true:=hd _ rfl ⟨6,.data⟩ (by simp) rfl;obtain rfl:=(hV.c6 d6).symm;have hx:=hV.x hl;have x1:=hx.at 1 _ rfl;have fx:=hx.fz 1;have hxl:=hx.lt;have b3:=before 3 (by decide);have b5:=before 5 (by decide);refine Bc _ rfl rfl (fun K' hK=>?_)
   conv=>arg 2;whnf
   go_wp2_with fail
   exact⟨nb,gn,cn,z5,z6,z7,z8,z9,.slice (some ⟨gn,0,none⟩) (S.length+1) cn,.pointer (some ⟨ob,1,none⟩),⟨(fun _ j hj=>by rw[Ab L (show j≠7 by omega)];exact before j hj),kq hV.p4_3,kq hV.p5_3,kq hV.p5_4,(kd (before 5 (by decide))),kc hV.c0,kc hV.c1,kc hV.c2,kc hV.c3,kc hV.c4,kc hV.c5,kc hV.c6,(hV.fr.set _ _),(fun h=>by rw[Ab L (by decide)]at h;rw[b3]at h;cases h),(fun _=>(hV.pb b3).other (by omega) _ _),(hV.c.other (by omega) _ _),(ks),(fun _=>hx.set 1 (.slice (some ⟨gn,0,none⟩) (S.length+1) cn)),(fun h=>by rw[Ab L (by decide)]at h;rw[b5]at h;cases h),(fun _=>⟨Io.low (hV.rb b5).1 hob _ _,(hV.rb b5).2⟩),(fun _ h=>by rw[Ab L (by decide)]at h;rw[b5]at h;cases h),(fun b h1 h2 h3=>(Below.heap_setCell _ _ _ _ (show b≠ob by omega)).trans (hV.gr b h1 h2 h3))⟩,rfl⟩
 ·intro L act wx hI hall
  obtain⟨nb,gn,cn,z5,z6,z7,z8,z9,z10,z11,hV,rfl⟩:=hI;obtain rfl:=(hV.c0 (hall 0 (by decide))).symm;obtain rfl:=(hV.c1 (hall 1 (by decide))).symm;obtain rfl:=(hV.c2 (hall 2 (by decide))).symm;obtain rfl:=(hV.c3 (hall 3 (by decide))).symm;obtain rfl:=(hV.c4 (hall 4 (by decide))).symm;obtain rfl:=(hV.c5 (hall 5 (by decide))).symm;obtain rfl:=(hV.c6 (hall 6 (by decide))).symm;exact hM _ _ (Met.intro (hJ _ _ ⟨nb,gn,cn,⟨hV.fr,hV.pb (hall 3 (by decide)),hV.c,hV.x7 (hall 7 (by decide)),(hV.rb (hall 5 (by decide))).1,(hV.rb (hall 5 (by decide))).2,hV.gr⟩,rfl⟩))
structure VY4 (p tb cb ob base:Nat)(nm:Bs)(va:Option Addr)(vc:Nat)(S:List Bs)(ov:Value)(s:Bs)(l r:List Tk)(err:Option Int)(W:World)(L:Nat→Bool)(nb:Nat)(gn:Nat)(cn:Nat)(z16 z17 z18 z19 z20 z21 z22:Value)(wx:World):Prop where
 ord:L 7=true→∀j,j<7→L j=true
 p4_3:L 4=true→L 3=true
 p5_3:L 5=true→L 3=true
 p5_4:L 5=true→L 4=true
 p7_5:L 7=true→L 5=true
 c0:L 0=true→z16=.pointer (some ⟨ob,2,none⟩)
 c1:L 1=true→z17=.slice va S.length vc
 c2:L 2=true→z18=.pointer (some ⟨p,0,none⟩)
 c3:L 3=true→z19=.string (Aa s)
 c4:L 4=true→z20=.slice (some ⟨nb,0,none⟩) 1 1
 c5:L 5=true→z21=.slice (some ⟨gn,0,none⟩) (S.length+1) cn
 c6:L 6=true→z22=.pointer (some ⟨ob,2,none⟩)
 fr:AFr p ob base W wx
 pa:L 3=false→Ps wx p tb l
 pb:L 3=true→Ps wx p tb r
 c:Ae wx cb [.pointer (some ⟨p,0,none⟩)] 64
 x:L 7=false→Ae wx ob [.string (Aa nm),ov,.slice va S.length vc,.slice none 0 0] 58
 x7:L 7=true→Ae wx ob [.string (Aa nm),ov,.slice (some ⟨gn,0,none⟩) (S.length+1) cn,.slice none 0 0] 58
 ra:L 5=false→Mc wx base S (.slice va S.length vc)
 rb:L 5=true→Mc wx base (S++[s]) (.slice (some ⟨gn,0,none⟩) (S.length+1) cn)∧((Value.slice va S.length vc).ownBlock=some gn∨W.heap.size≤gn)
 g4:L 4=true→L 5=false→Ae wx nb (Jx s) 9∧base≤nb
 gr:∀b,b<W.heap.size→base≤b→(Value.slice va S.length vc).ownBlock≠some b→wx.heap[b]? =W.heap[b]?
def IY4(p tb cb ob base:Nat)(nm:Bs)(va:Option Addr)(vc:Nat)(S:List Bs)(ov:Value)(s:Bs)(l r:List Tk)(err:Option Int)(W:World)(q0 q1 q3 q4 q6 q7 q8 q9 q10 q11 q12 q13 q14 q15 q23 q24 q25 q26 q27 q28 q29:Value)(L:Nat→Bool)(a':Act)(w':World):Prop:=
 ∃nb:Nat,∃gn:Nat,∃cn:Nat,∃z16 z17 z18 z19 z20 z21 z22:Value,VY4 p tb cb ob base nm va vc S ov s l r err W L nb gn cn z16 z17 z18 z19 z20 z21 z22 w'∧a'=⟨[q0,q1,.pointer (some ⟨cb,0,none⟩),q3,q4,.pointer (some ⟨ob,0,none⟩),q6,q7,q8,q9,q10,q11,q12,q13,q14,q15,z16,z17,z18,z19,z20,z21,z22,q23,q24,q25,q26,q27,q28,q29].toArray,[]⟩
def RY4(p tb cb ob base:Nat)(nm:Bs)(va:Option Addr)(vc:Nat)(S:List Bs)(ov:Value)(s:Bs)(l r:List Tk)(err:Option Int)(W:World)(q0 q1 q3 q4 q6 q7 q8 q9 q10 q11 q12 q13 q14 q15 q23 q24 q25 q26 q27 q28 q29:Value)(a':Act)(w':World):Prop:=
 ∃nb:Nat,∃gn:Nat,∃cn:Nat,(AFr p ob base W w'∧Ps w' p tb r∧Ae w' cb [.pointer (some ⟨p,0,none⟩)] 64∧Ae w' ob [.string (Aa nm),ov,.slice (some ⟨gn,0,none⟩) (S.length+1) cn,.slice none 0 0] 58∧Mc w' base (S++[s]) (.slice (some ⟨gn,0,none⟩) (S.length+1) cn)∧((Value.slice va S.length vc).ownBlock=some gn∨W.heap.size≤gn)∧(∀b,b<W.heap.size→base≤b→(Value.slice va S.length vc).ownBlock≠some b→w'.heap[b]? =W.heap[b]?))∧a'=⟨[q0,q1,.pointer (some ⟨cb,0,none⟩),q3,q4,.pointer (some ⟨ob,0,none⟩),q6,q7,q8,q9,q10,q11,q12,q13,q14,q15,.pointer (some ⟨ob,2,none⟩),.slice va S.length vc,.pointer (some ⟨p,0,none⟩),.string (Aa s),.slice (some ⟨nb,0,none⟩) 1 1,.slice (some ⟨gn,0,none⟩) (S.length+1) cn,.pointer (some ⟨ob,2,none⟩),q23,q24,q25,q26,q27,q28,q29].toArray,[]⟩
theorem tQ(p tb cb ob base:Nat)(nm:Bs)(va:Option Addr)(vc:Nat)(S:List Bs)(ov:Value)(s:Bs)(l r:List Tk)(err:Option Int)(W:World)(hps:Ps W p tb l)(hc:Ae W cb [.pointer (some ⟨p,0,none⟩)] 64)(ho:Ae W ob [.string (Aa nm),ov,.slice va S.length vc,.slice none 0 0] 58)(hrow:Mc W base S (.slice va S.length vc))(hpc:p<cb)(hco:cb<ob)(hob:ob<base)(hbs:base≤W.heap.size)(hll:S.length≤1000000)(HNM:Hid (∀w1,Ps w1 p tb l→Calls Zb 65 #[.pointer (some ⟨p,0,none⟩)] w1 fun e w'=>match err with|some n=>e=Bk n∧SFr p w1 w'|none=>e=.returned (.string (Aa s))∧SFr p w1 w'∧Ps w' p tb r))(Q:Exit→Act→World→Prop)(hQ:∀n a' w',err=some n→a'.defers=[]→AFr p ob base W w'→Q (.panic [{v:=.iface 110 (.agg #[.int .i64 n]),recovered:=false}]) a' w')(q0 q1 q3 q4 q6 q7 q8 q9 q10 q11 q12 q13 q14 q15 q16 q17 q18 q19 q20 q21 q22 q23 q24 q25 q26 q27 q28 q29:Value)(J K':Act→World→Prop)(hJ:∀a' w',RY4 p tb cb ob base nm va vc S ov s l r err W q0 q1 q3 q4 q6 q7 q8 q9 q10 q11 q12 q13 q14 q15 q23 q24 q25 q26 q27 q28 q29 a' w'→J a' w')(hM:∀a' w',Met J a' w'→K' a' w'):
  Code.wp Zb ((Tryz.f68.body.bind (Ld 5)).getD .skip) (Exit.then K' Q) ⟨[q0,q1,.pointer (some ⟨cb,0,none⟩),q3,q4,.pointer (some ⟨ob,0,none⟩),q6,q7,q8,q9,q10,q11,q12,q13,q14,q15,q16,q17,q18,q19,q20,q21,q22,q23,q24,q25,q26,q27,q28,q29].toArray,[]⟩ W:=by
 have HPS:=Za hps;have HC:=Za hc;have HO:=Za ho;have HROW:=Za hrow;have HQ:=Za hQ;clear hps hc ho hrow hQ
 conv=>arg 2;whnf
 (try dsimp only);refine Fp (by kernel_rfl) (by kernel_rfl) (IY4 p tb cb ob base nm va vc S ov s l r err W q0 q1 q3 q4 q6 q7 q8 q9 q10 q11 q12 q13 q14 q15 q23 q24 q25 q26 q27 q28 q29) ?_ ?_ ?_
 ·exact⟨0,0,0,q16,q17,q18,q19,q20,q21,q22,⟨(fun h=>by cases h),(fun h=>by cases h),(fun h=>by cases h),(fun h=>by cases h),(fun h=>by cases h),(fun h=>by cases h),(fun h=>by cases h),(fun h=>by cases h),(fun h=>by cases h),(fun h=>by cases h),(fun h=>by cases h),(fun h=>by cases h),((AFr.refl p ob base W).old (Ze _ _).drew),(fun _=>HPS.o.old (Ze _ _).drew),(fun h=>by cases h),(HC.o.old (Ze _ _).drew),(fun _=>HO.o.old (Ze _ _).drew),(fun h=>by cases h),(fun _=>HROW.o.old (Ze _ _).drew),(fun h=>by cases h),(fun h=>fun _=>by cases h),(fun b _ _ _=>rfl)⟩,rfl⟩
 ·intro L act wx k hI hk hl hd
  obtain⟨nb,gn,cn,z16,z17,z18,z19,z20,z21,z22,hV,rfl⟩:=hI;have hk:k=0∨k=1∨k=2∨k=3∨k=4∨k=5∨k=6∨k=7:=by
   have:k<8:=hk;omega
  rcases hk with rfl|rfl|rfl|rfl|rfl|rfl|rfl|rfl
  ·have nl:=kf hV.ord hl
   refine Bc _ rfl rfl (fun K' hK=>?_)
   conv=>arg 2;whnf
   go_wp2_with fail
   exact⟨nb,gn,cn,.pointer (some ⟨ob,2,none⟩),z17,z18,z19,z20,z21,z22,⟨kl nl,kq hV.p4_3,kq hV.p5_3,kq hV.p5_4,kq hV.p7_5,(fun _=>rfl),kc hV.c1,kc hV.c2,kc hV.c3,kc hV.c4,kc hV.c5,kc hV.c6,hV.fr,(fun h0=>hV.pa (kb h0)),kc hV.pb,hV.c,(fun h0=>hV.x (kb h0)),kl nl,(fun h0=>hV.ra (kb h0)),kc hV.rb,(fun h0=>fun h1=>hV.g4 (kb h0) (kb h1)),hV.gr⟩,rfl⟩
  ·have nl:=kf hV.ord hl
   have d0:L 0=true:=hd _ rfl ⟨0,.data⟩ (by simp) rfl;obtain rfl:=(hV.c0 d0).symm;have l7:L 7=false:=nl;have ho:=hV.x l7;have x1:=ho.at 2 _ rfl;refine Bc _ rfl rfl (fun K' hK=>?_)
   conv=>arg 2;whnf
   go_wp2_with fail
   exact⟨nb,gn,cn,.pointer (some ⟨ob,2,none⟩),.slice va S.length vc,z18,z19,z20,z21,z22,⟨kl nl,kq hV.p4_3,kq hV.p5_3,kq hV.p5_4,kq hV.p7_5,kc hV.c0,(fun _=>rfl),kc hV.c2,kc hV.c3,kc hV.c4,kc hV.c5,kc hV.c6,hV.fr,(fun h0=>hV.pa (kb h0)),kc hV.pb,hV.c,(fun h0=>hV.x (kb h0)),kl nl,(fun h0=>hV.ra (kb h0)),kc hV.rb,(fun h0=>fun h1=>hV.g4 (kb h0) (kb h1)),hV.gr⟩,rfl⟩
  ·have nl:=kf hV.ord hl
   have hc0:=hV.c.at 0 _ rfl;refine Bc _ rfl rfl (fun K' hK=>?_)
   conv=>arg 2;whnf
   go_wp2_with fail
   exact⟨nb,gn,cn,z16,z17,.pointer (some ⟨p,0,none⟩),z19,z20,z21,z22,⟨kl nl,kq hV.p4_3,kq hV.p5_3,kq hV.p5_4,kq hV.p7_5,kc hV.c0,kc hV.c1,(fun _=>rfl),kc hV.c3,kc hV.c4,kc hV.c5,kc hV.c6,hV.fr,(fun h0=>hV.pa (kb h0)),kc hV.pb,hV.c,(fun h0=>hV.x (kb h0)),kl nl,(fun h0=>hV.ra (kb h0)),kc hV.rb,(fun h0=>fun h1=>hV.g4 (kb h0) (kb h1)),hV.gr⟩,rfl⟩
  ·have nl:=kf hV.ord hl
   have d2:L 2=true:=hd _ rfl ⟨2,.data⟩ (by simp) rfl;obtain rfl:=(hV.c2 d2).symm;have hps:=hV.pa hl;refine Bc _ rfl rfl (fun K' hK=>?_)
   conv=>arg 2;whnf
   have HPX:=Za hps;have HFX:=Za hV.fr;clear hps;go_wp2_with fail
   refine(HNM.o _ HPX.o).mono ?_;intro e w7 he
   cases err with
   |some n=>
    obtain⟨rfl,hf⟩:=he;unfold Bk;have HF:=Za (HFX.o.trans (AFr.of_sfr hf));clear hf hK hV;go_wp2_with fail
    exact HQ.o n _ _ rfl rfl HF.o
   |none=>
   obtain⟨rfl,hf7,hp7⟩:=he;go_wp2_with fail
   exact⟨nb,gn,cn,z16,z17,.pointer (some ⟨p,0,none⟩),.string (Aa s),z20,z21,z22,⟨kl nl,(fun _=>Bb L 3),(fun _=>Bb L 3),kq hV.p5_4,kq hV.p7_5,kc hV.c0,kc hV.c1,kc hV.c2,(fun _=>rfl),kc hV.c4,kc hV.c5,kc hV.c6,(hV.fr.trans (AFr.of_sfr hf7)),(ks),(fun _=>hp7),(hV.c.sfr hf7 (by omega)),(fun h=>(hV.x (kb h)).sfr hf7 (by omega)),kl nl,(fun h=>(hV.ra (kb h)).sfr hf7 (by omega)),(fun h=>⟨Io.sfr (hV.rb (kb h)).1 hf7 (by omega),(hV.rb (kb h)).2⟩),(fun h1 h2=>⟨Ae.sfr (hV.g4 (kb h1) (kb h2)).1 hf7 (by have:=(hV.g4 (kb h1) (kb h2)).2;omega),(hV.g4 (kb h1) (kb h2)).2⟩),(fun b h1 h2 h3=>(hf7.block b (by have:=hV.fr.size;omega) (by omega)).trans (hV.gr b h1 h2 h3))⟩,rfl⟩
  ·have nl:=kf hV.ord hl
   have d3:L 3=true:=hd _ rfl ⟨3,.data⟩ (by simp) rfl;obtain rfl:=(hV.c3 d3).symm;have hal:Below wx.heap.size wx (wx.alloc (.cells #[.string (Aa s)] 9)):=bA;have hfs:=hV.fr.size;refine Bc _ rfl rfl (fun K' hK=>?_)
   conv=>arg 2;whnf
   go_wp2_with fail
   exact⟨wx.heap.size,gn,cn,z16,z17,z18,.string (Aa s),.slice (some ⟨(wx.heap.size),0,none⟩) 1 1,z21,z22,⟨kl nl,(kd (d3)),kq hV.p5_3,(fun _=>Bb L 4),kq hV.p7_5,kc hV.c0,kc hV.c1,kc hV.c2,kc hV.c3,(fun _=>rfl),kc hV.c5,kc hV.c6,(AFr.old (hV.fr) hal),(fun h0=>Ps.old (hV.pa (kb h0)) hal),(fun h0=>Ps.old (hV.pb (kb h0)) hal),(Ae.old (hV.c) hal),(fun h0=>Ae.old (hV.x (kb h0)) hal),kl nl,(fun h0=>Io.old (hV.ra (kb h0)) hal),(kn hV.p5_4 hl),(fun _ _=>⟨Zd wx (Jx s) 9,by omega⟩),(fun b h1 h2 h3=>(hal.block b (by omega)).trans ((hV.gr) b h1 h2 h3))⟩,rfl⟩
  ·have nl:=kf hV.ord hl
   have d1:L 1=true:=hd _ rfl ⟨1,.data⟩ (by simp) rfl;obtain rfl:=(hV.c1 d1).symm;have d3:L 3=true:=hd _ rfl ⟨3,.chain⟩ (by simp) rfl;have d4:L 4=true:=hd _ rfl ⟨4,.data⟩ (by simp) rfl;obtain rfl:=(hV.c4 d4).symm;have d3:L 3=true:=hd _ rfl ⟨3,.chain⟩ (by simp) rfl;have hg4:=hV.g4 d4 hl;have hra:=hV.ra hl;have hfs:=hV.fr.size;refine Bc _ rfl rfl (fun K' hK=>?_)
   conv=>arg 2;whnf
   refine nG wx _ _ rfl base S (.slice va S.length vc) rfl hra s nb 1 rfl hg4.1 hll (Zf hbs hfs) ?_;intro g2 cap2 w2 hr2 hg2 ha2 hl2;have hrg:∀k,(Value.slice va S.length vc).ownBlock=some k→base≤k:=fun k e=>(hra.lt k e).1
   go_wp2_with fail
   exact⟨nb,g2,cap2,z16,.slice va S.length vc,z18,z19,.slice (some ⟨nb,0,none⟩) 1 1,.slice (some ⟨(g2),0,none⟩) (S.length+1) (cap2),z22,⟨kl nl,kq hV.p4_3,(kd (d3)),(kd (d4)),(fun _=>Bb L 5),kc hV.c0,kc hV.c1,kc hV.c2,kc hV.c3,kc hV.c4,(fun _=>rfl),kc hV.c6,(hV.fr.grown hg2 hrg),(fun h=>by rw[Ab L (by decide)]at h;rw[d3]at h;cases h),(fun _=>(hV.pb d3).grown hg2 hrg (by omega)),(hV.c.grew hg2 (fun e=>by have:=hrg _ e;omega)),(fun h=>(hV.x (kb h)).grew hg2 (fun e=>by have:=hrg _ e;omega)),kl nl,(ks),(fun _=>⟨hr2,by rcases ha2 with h|h;exact .inl h;exact .inr (by omega)⟩),(fun _=>ks),(fun b h1 h2 h3=>(hg2.block b (by omega) (fun e=>h3 e.symm)).trans (hV.gr b h1 h2 h3))⟩,rfl⟩
  ·have nl:=kf hV.ord hl
   refine Bc _ rfl rfl (fun K' hK=>?_)
   conv=>arg 2;whnf
   go_wp2_with fail
   exact⟨nb,gn,cn,z16,z17,z18,z19,z20,z21,.pointer (some ⟨ob,2,none⟩),⟨kl nl,kq hV.p4_3,kq hV.p5_3,kq hV.p5_4,kq hV.p7_5,kc hV.c0,kc hV.c1,kc hV.c2,kc hV.c3,kc hV.c4,kc hV.c5,(fun _=>rfl),hV.fr,(fun h0=>hV.pa (kb h0)),kc hV.pb,hV.c,(fun h0=>hV.x (kb h0)),kl nl,(fun h0=>hV.ra (kb h0)),kc hV.rb,(fun h0=>fun h1=>hV.g4 (kb h0) (kb h1)),hV.gr⟩,rfl⟩
  ·have before:∀j,j<7→L j=true:=fun j hj=>by
    have hj:j=0∨j=1∨j=2∨j=3∨j=4∨j=5∨j=6:=by omega
    rcases hj with rfl|rfl|rfl|rfl|rfl|rfl|rfl
    ·exact hd _ rfl ⟨0,.phase⟩ (by simp) rfl
    ·exact hd _ rfl ⟨1,.phase⟩ (by simp) rfl
    ·exact hd _ rfl ⟨2,.phase⟩ (by simp) rfl
    ·exact hd _ rfl ⟨3,.phase⟩ (by simp) rfl
    ·exact hd _ rfl ⟨4,.phase⟩ (by simp) rfl
    ·exact hd _ rfl ⟨5,.data⟩ (by simp) rfl
    ·exact hd _ rfl ⟨6,.data⟩ (by simp) rfl
   have d5:L 5=true:=hd _ rfl ⟨5,.data⟩ (by simp) rfl;obtain rfl:=(hV.c5 d5).symm;have d6:L 6=true:=hd _ rfl ⟨6,.data⟩ (by simp) rfl;obtain rfl:=(hV.c6 d6).symm;have hx:=hV.x hl;have x1:=hx.at 2 _ rfl;have fx:=hx.fz 2;have hxl:=hx.lt;have b3:=before 3 (by decide);have b5:=before 5 (by decide);refine Bc _ rfl rfl (fun K' hK=>?_)
   conv=>arg 2;whnf
   go_wp2_with fail
   exact⟨nb,gn,cn,z16,z17,z18,z19,z20,.slice (some ⟨gn,0,none⟩) (S.length+1) cn,.pointer (some ⟨ob,2,none⟩),⟨(fun _ j hj=>by rw[Ab L (show j≠7 by omega)];exact before j hj),kq hV.p4_3,kq hV.p5_3,kq hV.p5_4,(kd (before 5 (by decide))),kc hV.c0,kc hV.c1,kc hV.c2,kc hV.c3,kc hV.c4,kc hV.c5,kc hV.c6,(hV.fr.set _ _),(fun h=>by rw[Ab L (by decide)]at h;rw[b3]at h;cases h),(fun _=>(hV.pb b3).other (by omega) _ _),(hV.c.other (by omega) _ _),(ks),(fun _=>hx.set 2 (.slice (some ⟨gn,0,none⟩) (S.length+1) cn)),(fun h=>by rw[Ab L (by decide)]at h;rw[b5]at h;cases h),(fun _=>⟨Io.low (hV.rb b5).1 hob _ _,(hV.rb b5).2⟩),(fun _ h=>by rw[Ab L (by decide)]at h;rw[b5]at h;cases h),(fun b h1 h2 h3=>(Below.heap_setCell _ _ _ _ (show b≠ob by omega)).trans (hV.gr b h1 h2 h3))⟩,rfl⟩
 ·intro L act wx hI hall
  obtain⟨nb,gn,cn,z16,z17,z18,z19,z20,z21,z22,hV,rfl⟩:=hI;obtain rfl:=(hV.c0 (hall 0 (by decide))).symm;obtain rfl:=(hV.c1 (hall 1 (by decide))).symm;obtain rfl:=(hV.c2 (hall 2 (by decide))).symm;obtain rfl:=(hV.c3 (hall 3 (by decide))).symm;obtain rfl:=(hV.c4 (hall 4 (by decide))).symm;obtain rfl:=(hV.c5 (hall 5 (by decide))).symm;obtain rfl:=(hV.c6 (hall 6 (by decide))).symm;exact hM _ _ (Met.intro (hJ _ _ ⟨nb,gn,cn,⟨hV.fr,hV.pb (hall 3 (by decide)),hV.c,hV.x7 (hall 7 (by decide)),(hV.rb (hall 5 (by decide))).1,(hV.rb (hall 5 (by decide))).2,hV.gr⟩,rfl⟩))
structure Qe (W:World)(p tb cb ob base:Nat)(nm:Bs)(pa:Option Addr)(pc:Nat)(pl:List Bs)(la:Option Addr)(lc:Nat)(ll:List Bs)(l:List Tk)(wx:World):Prop where
 fr:AFr p ob base W wx
 par:Ps wx p tb l
 c:Ae wx cb [.pointer (some ⟨p,0,none⟩)] 64
 o:Ae wx ob [.string (Aa nm),.slice pa pl.length pc,.slice la ll.length lc,.slice none 0 0] 58
 rp:Mc wx base pl (.slice pa pl.length pc)
 rl:Mc wx base ll (.slice la ll.length lc)
 ap:∀g,(Value.slice pa pl.length pc).ownBlock=some g→(Value.slice la ll.length lc).ownBlock≠some g
 len:pl.length+ll.length+l.length≤1000000
section
variable {W:World} {p tb cb ob base:Nat} {nm:Bs} {pa:Option Addr} {pc:Nat} {pl:List Bs} {la:Option Addr} {lc:Nat} {ll:List Bs} {l r:List Tk} {wx w':World}
theorem Qe.old(h:Qe W p tb cb ob base nm pa pc pl la lc ll l wx)(hb:Below wx.heap.size wx w'):Qe W p tb cb ob base nm pa pc pl la lc ll l w':=
 ⟨h.fr.old hb,h.par.old hb,h.c.old hb,h.o.old hb,h.rp.old hb,h.rl.old hb,h.ap,h.len⟩
theorem Qe.next(h:Qe W p tb cb ob base nm pa pc pl la lc ll l wx)(hn:Ot p cb ob base W)(hf:SFr p wx w')(hp:Ps w' p tb r)(hl:r.length≤l.length):Qe W p tb cb ob base nm pa pc pl la lc ll r w':=
 have h1:=hn.pc;have h2:=hn.co;have h3:=hn.ob
 ⟨h.fr.trans (AFr.of_sfr hf),hp,h.c.sfr hf (by omega),h.o.sfr hf (by omega),h.rp.sfr hf (by omega),h.rl.sfr hf (by omega),h.ap,by have:=h.len;omega⟩
end
theorem Io.gr {α:Type}{e:TypeId}{cf:α→List Value}{k:Nat}{w w':World}{base:Nat}{L:List α}{v:Value}(h:Io e cf k w base L v){v0:Value}(hk:∀b,b<w.heap.size→base≤b→v0.ownBlock≠some b→w'.heap[b]? =w.heap[b]?)(hne:∀g,v.ownBlock=some g→v0.ownBlock≠some g):Io e cf k w' base L v:=by
 refine⟨h.1,?_⟩;have hlt:=h.lt;rcases h.2 with hn|⟨g,cap,cur,rfl,hg,hh,r⟩
 ·exact .inl hn
 ·refine .inr ⟨g,cap,cur,rfl,hg,?_,r⟩
  rw[hk g (hlt g rfl).2 hg (hne g rfl)];exact hh
def Nw(l:List Tk):PR Bs:=match As [105,110,116] l with
 |.error e=>.error e
 |.ok r=>Fa r
theorem Yh {l r:List Tk}{s:Bs}(h:Nw l=.ok (s,r)):r.length<l.length:=by
 unfold Nw at h
 cases h1:As [105,110,116] l with
 |error e=>rw[h1]at h;cases h
 |ok q=>rw[h1]at h;have:=Bm h1;have:=Ih h;omega
def OneR(W:World)(p tb cb ob base:Nat)(nm:Bs)(pl:List Bs)(la:Option Addr)(lc:Nat)(ll:List Bs)(R:PR Bs)(e:Ending)(w':World):Prop:=
 match R with
 |.ok (s,r)=>e=.returned (.tuple #[])∧∃gn cn,Qe W p tb cb ob base nm (some ⟨gn,0,none⟩) cn (pl++[s]) la lc ll r w'
 |.error n=>e=Bk n∧AFr p ob base W w'
theorem fn1_any(W wx:World)(p tb cb ob base:Nat)(nm:Bs)(pa:Option Addr)(pc:Nat)(pl:List Bs)(la:Option Addr)(lc:Nat)(ll:List Bs)(l:List Tk)(hn:Ot p cb ob base W)(h:Qe W p tb cb ob base nm pa pc pl la lc ll l wx):
  Calls Zb 126 #[.pointer (some ⟨cb,0,none⟩),.pointer (some ⟨ob,0,none⟩)] wx (OneR W p tb cb ob base nm pl la lc ll (Nw l)):=by
 obtain⟨R,hR⟩:∃R,Nw l=R:=⟨_,rfl⟩;rw[hR];have HR:=Za hR;have c0:=h.c.at 0 _ rfl;have hba:Below wx.heap.size wx (wx.alloc (.cells #[.string ⟨#[105,110,116]⟩] 9)):=bA;have HA:=Za (h.old hba);have HWN:=Za (De p tb l [105,110,116] _ (h.old hba).par wx.heap.size 1 ((Zd wx [.string ⟨#[105,110,116]⟩] 9).at 0 _ rfl));have HN:=Za hn;clear hR h hba hn;go_enter func126,ntmps126
 go_wp2_with fail
 refine HWN.o.mono ?_;intro e w2 he
 cases hw:As [105,110,116] l with
 |error n=>
  rw[hw]at he;obtain⟨hf,rfl⟩:=he;have HF:=Za (HA.o.fr.trans (AFr.of_sfr hf));have e1:R=.error n:=by rw[←HR.o];unfold Nw;rw[hw]
  subst e1;clear hf hw;unfold Bk;go_wp2_with fail
  exact⟨rfl,rfl,HF.o⟩
 |ok r1=>
  rw[hw]at he;obtain⟨hf,rfl,hp⟩:=he;have HA2:=Za (HA.o.next HN.o hf hp (Nat.le_of_lt (Bm hw)));have hR2:Fa r1=R:=by rw[←HR.o];unfold Nw;rw[hw]
  have hlw:=Bm hw;have HLW:=Za hlw;clear hf hp hw hlw;go_upto_region 1 with(fail)
  have hbs:base≤w2.heap.size:=Zf HN.o.bs HA2.o.fr.size;have hll:pl.length≤1000000:=by have:=HA2.o.len;omega
  have n1:=HN.o.pc;have n2:=HN.o.co;have n3:=HN.o.ob
  cases hy:Fa r1 with
  |error n=>
   rw[hy]at hR2;subst hR2;refine wp_mono (Q:=Exit.then (Met (RY3 p tb cb ob base nm pa pc pl (.slice la ll.length lc) [] r1 [] (some n) w2 _ _ _)) _) (rR p tb cb ob base nm pa pc pl (.slice la ll.length lc) [] r1 [] (some n) w2 HA2.o.par HA2.o.c HA2.o.o HA2.o.rp n1 n2 n3 hbs hll (fun w1 h1=>by have h2:=Gd p tb r1 w1 h1;rw[hy]at h2;exact h2.mono (fun e w2 h=>⟨h.2,h.1⟩)) (fun e a' w'=> ∃n',e=.panic [{v:=.iface 110 (.agg #[.int .i64 n']),recovered:=false}]∧n=n'∧a'.defers=[]∧AFr p ob base w2 w') (fun n' a' w' hn hd hf=>by injection hn with hn;exact⟨n',rfl,hn,hd,hf⟩) _ _ _ _ _ _ _ _ _ _ _ _ (fun _ _ q=>q) (fun _ _ q=>q)) ?_;intro e a' w' hq
   cases e with
   |normal=>
    obtain⟨nb,gn,cn,⟨_,hp,_⟩,_⟩:=(show RY3 p tb cb ob base nm pa pc pl (.slice la ll.length lc) [] r1 [] (some n) w2 _ _ _ a' w' from hq);exact hp.ends.elim
   |panic ch=>
    obtain⟨n2,he,rfl,hd,hf⟩:=hq;injection he with he
    subst he;exact⟨hd,rfl,HA2.o.fr.trans hf⟩
   |_=>
    obtain⟨n2,he,_⟩:=hq
    cases he
  |ok q=>
   obtain⟨s,r⟩:=q;rw[hy]at hR2;subst hR2;have hlr:=Ih hy;refine wp_mono (Q:=Exit.then (Met (RY3 p tb cb ob base nm pa pc pl (.slice la ll.length lc) s r1 r none w2 _ _ _)) (fun _ _ _=>False)) (rR p tb cb ob base nm pa pc pl (.slice la ll.length lc) s r1 r none w2 HA2.o.par HA2.o.c HA2.o.o HA2.o.rp n1 n2 n3 hbs hll (fun w1 h1=>by have h2:=Gd p tb r1 w1 h1;rw[hy]at h2;exact h2.mono (fun e w2 h=>by obtain⟨hf,v,rfl,hp,hv⟩:=h;have hv:v=.string (Aa s):=hv;subst hv;exact⟨rfl,hf,hp⟩)) (fun _ _ _=>False) (fun n' a' w' hn=>by cases hn) _ _ _ _ _ _ _ _ _ _ _ _ (fun _ _ q=>q) (fun _ _ q=>q)) ?_;intro e a' w' hq
   cases e with
   |normal=>
    obtain⟨nb,gn,cn,⟨h1,h2,h3,h4,h5,h6,h7⟩,rfl⟩:=(show RY3 p tb cb ob base nm pa pc pl (.slice la ll.length lc) s r1 r none w2 _ _ _ a' w' from hq);have hl1:(pl++[s]).length=pl.length+1:=by simp
    have hrl:=HA2.o.rl.gr h7 (fun g e e2=>HA2.o.ap g e2 e);refine bodyPost_end (v:=.tuple #[]) (by simp [results,results126,go_sem]) rfl ⟨rfl,gn,cn,HA2.o.fr.trans h1,h2,h3,?_,?_,hrl,?_,?_⟩
    ·rw[hl1];exact h4
    ·rw[hl1];exact h5
    ·intro g e e2
     rw[hl1]at e;have e:gn=g:=by injection e
     subst e;rcases h6 with h6|h6
     ·exact HA2.o.ap _ h6 e2
     ·have:=(HA2.o.rl.lt _ e2).2;omega
    ·rw[hl1];have:=HA2.o.len;omega
   |_=>exact False.elim hq
def Xk(g:Nat)(a:List Bs)(l:List Tk):PR (List Bs):=match Bp [44] l with
 |some r=>Kr g a r
 |none=>match As [41] l with
  |.error e=>.error e
  |.ok r=>.ok (a,r)
theorem Ub {g:Nat}{a:List Bs}{l r:List Tk}{s:Bs}(h:Nw l=.ok (s,r)):Kr (g+1) a l=Xk g (a++[s]) r:=by
 unfold Nw at h;rw[Kr]
 cases h1:As [105,110,116] l with
 |error e=>rw[h1]at h;cases h
 |ok q=>rw[h1]at h;dsimp only at h ⊢;rw[h];rfl
theorem Yp {g:Nat}{a:List Bs}{l:List Tk}{n:Int}(h:Nw l=.error n):Kr (g+1) a l=.error n:=by
 unfold Nw at h;rw[Kr]
 cases h1:As [105,110,116] l with
 |error e=>rw[h1]at h;injection h with h;rw[h]
 |ok q=>rw[h1]at h;dsimp only at h ⊢;rw[h]
theorem Ss:∀(f:Nat) (a:List Bs) (l:List Tk) (x:List Bs) (r:List Tk),Kr f a l=.ok (x,r)→r.length<l.length
 |0,a,l,x,r,h=>by cases h
 |f+1,a,l,x,r,h=>by
  cases h1:Nw l with
  |error n=>rw[Yp h1]at h;cases h
  |ok q=>
   obtain⟨s,q⟩:=q;rw[Ub h1]at h;have k1:=Yh h1;unfold Xk at h
   cases h2:Bp [44] q with
   |some z=>rw[h2]at h;have:=Ss f _ _ _ _ h;have:=Cm h2;omega
   |none=>
    rw[h2]at h;dsimp only at h
    cases h3:As [41] q with
    |error e=>rw[h3]at h;cases h
    |ok z=>rw[h3]at h;injection h with h;injection h with _ h;subst h;have:=Bm h3;omega
def Kg(f:Nat)(l:List Tk):PR (List Bs):=match Bp [41] l with|some r=>.ok ([],r)|none=>Kr f [] l
def vP(W:World)(p tb cb ob base:Nat)(nm:Bs)(R:PR (List Bs))(e:Ending)(w':World):Prop:=
 match R with
 |.ok (a,r)=>e=.returned (.tuple #[])∧∃pa pc,Qe W p tb cb ob base nm pa pc a none 0 [] r w'
 |.error n=>e=Bk n∧AFr p ob base W w'
def oT(ob cb:Nat):Value:=.func (.func 126) #[] #[.pointer (some ⟨cb,0,none⟩),.pointer (some ⟨ob,0,none⟩)]
theorem gO(f:Nat)(w:World)(p tb cb ob base:Nat)(nm:Bs)(t:Tk)(r:List Tk)(hn:Ot p cb ob base w)(h:Qe w p tb cb ob base nm none 0 [] none 0 [] (t::r) w)(y:isP [41] t=true):
  Calls Zb 125 #[.pointer (some ⟨p,0,none⟩),oT ob cb] w (vP w p tb cb ob base nm (Kg f (t::r))):=by
 have e1:Kg f (t::r)=.ok ([],r):=by unfold Kg;rw[An y]
 rw[e1];have HT:=Za (Bq p tb t r [41] w h.par y);have HA:=Za h;have HN:=Za hn;clear e1 y h hn;unfold oT;go_enter func125,ntmps125
 go_wp2_with fail
 refine HT.o.mono ?_;rintro e w1 ⟨rfl,hf,hp⟩;have HA1:=Za (HA.o.next HN.o hf hp (by simp));clear hf hp;go_wp2_with fail
 first
  |(refine bodyPost_ret (results_none rfl _ _ _) rfl ?_)
  |go_end0
 exact⟨rfl,none,0,HA1.o⟩
structure ParI (w:World)(p tb cb ob base:Nat)(nm:Bs)(R:PR (List Bs))(g:Nat)(pa:Option Addr)(pc:Nat)(pl:List Bs)(l:List Tk)(wr:World):Prop where
 arg:Qe w p tb cb ob base nm pa pc pl none 0 [] l wr
 fuel:l.length≤g
 res:Xk g pl l=R
theorem eC(f:Nat)(w:World)(p tb cb ob base:Nat)(nm:Bs)(t:Tk)(r:List Tk)(hn:Ot p cb ob base w)(h:Qe w p tb cb ob base nm none 0 [] none 0 [] (t::r) w)(hl:(t::r).length≤f)(n:isP [41] t=false):
  Calls Zb 125 #[.pointer (some ⟨p,0,none⟩),oT ob cb] w (vP w p tb cb ob base nm (Kg f (t::r))):=by
 have e1:Kg f (t::r)=Kr f [] (t::r):=by unfold Kg;rw[Af n]
 rw[e1];obtain⟨g,rfl⟩:∃g,f=g+1:=⟨f-1,by rw[Zc]at hl;omega⟩;obtain⟨R,hR⟩:∃R,Kr (g+1) [] (t::r)=R:=⟨_,rfl⟩;rw[hR];have HR:=Za hR;have HT:=Za (Aj p tb t r [41] w h.par n);have HA:=Za h;have HN:=Za hn;have HFU:=Za hl;clear e1 n h hn hR hl;unfold oT;go_enter func125,ntmps125
 go_wp2_with fail
 refine HT.o.mono ?_;rintro e w1 ⟨rfl,hb⟩;have HA1:=Za (HA.o.old hb);clear hb;have HX:Hid (∀(pa:Option Addr) (pc:Nat) (pl:List Bs) (l:List Tk) (wx:World),Qe w p tb cb ob base nm pa pc pl none 0 [] l wx→Calls Zb 126 #[.pointer (some ⟨cb,0,none⟩),.pointer (some ⟨ob,0,none⟩)] wx (OneR w p tb cb ob base nm pl none 0 [] (Nw l))):=
  fun pa pc pl l wx ha=>fn1_any w wx p tb cb ob base nm pa pc pl none 0 [] l HN.o ha
 go_wp2_with fail
 refine(HX.o none 0 [] (t::r) w1 HA1.o).mono ?_;intro e w2 he
 cases hc:Nw (t::r)with
 |error n=>
  rw[hc]at he;obtain⟨rfl,hf⟩:=he;have e2:=HR.o;rw[Yp hc]at e2;subst e2;have HF:=Za hf;clear hc hf;unfold Bk;go_wp2_with fail
  exact⟨rfl,rfl,HF.o⟩
 |ok q=>
  obtain⟨s,q⟩:=q;rw[hc]at he;obtain⟨rfl,gn,cn,ha⟩:=he;have e2:=HR.o;rw[Ub hc]at e2;have hlen:=Yh hc;have HI0:Hid (ParI w p tb cb ob base nm R g (some ⟨gn,0,none⟩) cn ([]++[s]) q w2):=⟨ha,by have:=HFU.o;omega,e2⟩;clear ha hc hlen e2;go_wp2_with fail
  go_loopw [] (fun wr=> ∃(g':Nat) (pa:Option Addr) (pc:Nat) (pl:List Bs) (l:List Tk),Hid (ParI w p tb cb ob base nm R g' pa pc pl l wr)) (fun wr=>Dv p wr)
  case atStart=>exact⟨g,_,_,_,q,HI0⟩
  case round=>
   obtain⟨g',pa,pc,pl,l,HI⟩:=hrel;clear HI0;obtain⟨u,l,rfl⟩:=HI.o.arg.par.ends.ne
   cases hu:isP [44] u with
   |true=>
    have HTK:=Za (Bq p tb u l [44] wr HI.o.arg.par hu);have hres:Kr g' pl l=R:=by
     have:=HI.o.res;unfold Xk at this;rw[An hu]at this;exact this
    clear hu;go_wp2_with fail
    refine HTK.o.mono ?_;rintro e w3 ⟨rfl,hf,hp⟩;have HA3:=Za (HI.o.arg.next HN.o hf hp (by simp));have hfu:=HI.o.fuel;rw[Zc]at hfu;have hne:0<l.length:=by obtain⟨t2,r2,rfl⟩:=hp.ends.ne;simp
    clear hf hp;obtain⟨g2,hg2⟩:∃g2,g'=g2+1:=⟨g'-1,by omega⟩;subst hg2;go_wp2_with fail
    refine(HX.o pa pc pl l w3 HA3.o).mono ?_;intro e w4 he
    cases hc:Nw l with
    |error n=>
     rw[hc]at he;obtain⟨rfl,hf⟩:=he;rw[Yp hc]at hres;subst hres;have HF:=Za hf;clear hc hf;unfold Bk;go_wp2_with fail
     exact⟨rfl,rfl,HF.o⟩
    |ok q2=>
     obtain⟨s2,q2⟩:=q2;rw[hc]at he;obtain⟨rfl,gn2,cn2,ha⟩:=he;rw[Ub hc]at hres;have hlen:=Yh hc;have HI4:Hid (ParI w p tb cb ob base nm R g2 (some ⟨gn2,0,none⟩) cn2 (pl++[s2]) q2 w4):=⟨ha,by omega,hres⟩;have hm:Dv p w4<Dv p wr:=by
      rw[HI4.o.arg.par.len,HI.o.arg.par.len,Zc];omega
     have HM:=Za hm;clear ha hc hlen hres hm hfu hne;go_wp2_with fail
     go_roundw
     case rel=>exact⟨g2,_,_,_,q2,HI4⟩
     case measure=>exact HM.o
   |false=>
    have HTK:=Za (Aj p tb u l [44] wr HI.o.arg.par hu);have hres:(match As [41] (u::l)with|.error e=>.error e|.ok r=>.ok (pl,r))=R:=by
     have:=HI.o.res;unfold Xk at this;rw[Af hu]at this;exact this
    clear hu;go_wp2_with fail
    refine HTK.o.mono ?_;rintro e w3 ⟨rfl,hb⟩;have HA3:=Za (HI.o.arg.old hb);have hba:Below w3.heap.size w3 (w3.alloc (.cells #[.string ⟨#[41]⟩] 9)):=bA;have HA4:=Za (HA3.o.old hba);have HWN:=Za (De p tb (u::l) [41] _ HA4.o.par w3.heap.size 1 ((Zd w3 [.string ⟨#[41]⟩] 9).at 0 _ rfl));clear hb hba;go_wp2_with fail
    refine HWN.o.mono ?_;intro e w5 he
    cases hw:As [41] (u::l)with
    |error n=>
     rw[hw]at he hres;obtain⟨hf,rfl⟩:=he;have HF:=Za (HA4.o.fr.trans (AFr.of_sfr hf));dsimp only at hres;subst hres;clear hf hw;unfold Bk;go_wp2_with fail
     exact⟨rfl,rfl,HF.o⟩
    |ok q3=>
     rw[hw]at he hres;obtain⟨hf,rfl,hp⟩:=he;have HA5:=Za (HA4.o.next HN.o hf hp (Nat.le_of_lt (Bm hw)));dsimp only at hres;subst hres;clear hf hw hp;go_wp2_with fail
     first
      |go_end0
      |(refine bodyPost_ret (results_none rfl _ _ _) rfl ?_)
     exact⟨rfl,pa,pc,HA5.o⟩
def FuH(B:Nat)(x:Fu)(v:Value)(w:World):Prop:= ∃pv lv bv,v=.agg #[.string (Aa x.name),pv,lv,bv]∧Ba (B≤ ·) w x.params pv∧Ba (B≤ ·) w x.locals lv∧Ax (B≤ ·) w x.body bv
def Qn(f g:Nat)(s:Bs)(ps ll:List Bs)(l:List Tk):PR Fu:=match Hq g ll l with
 |.error e=>.error e
 |.ok (ls,r)=>match Dr f [] r with
  |.error e=>.error e
  |.ok (b,r)=>.ok (⟨s,ps,ls,b⟩,r)
theorem Ui(f:Nat)(s:Bs)(l:List Tk):Gm f s l=match Kg f l with
  |.error e=>.error e
  |.ok (ps,r)=>match As [123] r with
   |.error e=>.error e
   |.ok r=>Qn f f s ps [] r:=rfl
theorem gW {f g:Nat}{s:Bs}{ps ll:List Bs}{u:Tk}{l r:List Tk}{x:Bs}(y:isP [105,110,116] u=true)(hn:Fa l=.ok (x,r)):Qn f (g+1) s ps ll (u::l)=match As [59] r with
  |.error e=>.error e
  |.ok r=>Qn f g s ps (ll++[x]) r:=by
 unfold Qn;rw[Hq,An y];dsimp only;rw[hn];dsimp only
 cases As [59] r with
 |error e=>rfl
 |ok q=>rfl
theorem kH {f g:Nat}{s:Bs}{ps ll:List Bs}{u:Tk}{l:List Tk}{n:Int}(y:isP [105,110,116] u=true)(hn:Fa l=.error n):Qn f (g+1) s ps ll (u::l)=.error n:=by
 unfold Qn;rw[Hq,An y];dsimp only;rw[hn]
theorem jY {f g:Nat}{s:Bs}{ps ll:List Bs}{u:Tk}{l:List Tk}(y:isP [105,110,116] u=false):Qn f (g+1) s ps ll (u::l)=match Dr f [] (u::l)with
  |.error e=>.error e
  |.ok (b,r)=>.ok (⟨s,ps,ll,b⟩,r):=by
 unfold Qn;rw[Hq,Af y]
structure LocI (W:World)(p tb cb ob base f:Nat)(nm:Bs)(pa:Option Addr)(pc:Nat)(pl:List Bs)(R:PR Fu)(g:Nat)(la:Option Addr)(lc:Nat)(ll:List Bs)(l:List Tk)(wr:World):Prop where
 arg:Qe W p tb cb ob base nm pa pc pl la lc ll l wr
 fuel:l.length≤g
 st:4*l.length+2≤f
 res:Qn f g nm pl ll l=R
theorem Rx(f:Nat)(s:Bs)(l:List Tk)(w:World)(p tb:Nat)(hl:4*l.length+2≤f)(h:Ps w p tb l):
  Calls Zb 68 #[.pointer (some ⟨p,0,none⟩),.string (Aa s)] w (Gu (FuH w.heap.size) w p tb (Gm f s l)):=by
 have hmf:∀(fn:Fn) (first cap:Array Value) (w:World),(Instr.makeFunc fn first cap).run Zb w=.ok (.func fn first cap) w:=fun _ _ _ _=>rfl
 obtain⟨W,hW⟩:∃W,((w.alloc (.cells #[.pointer (some ⟨p,0,none⟩)] 64)).alloc (.cells #[.string ⟨#[]⟩,.slice none 0 0,.slice none 0 0,.slice none 0 0] 58)).alloc (.cells #[.string (Aa s),.slice none 0 0,.slice none 0 0,.slice none 0 0] 58)=W:=⟨_,rfl⟩;have hb1:Below w.heap.size w W:=hW ▸ ((bA).alloc (by simp) _).alloc (by simp;omega) _;have hws:W.heap.size=w.heap.size+3:=by rw[←hW];simp
 have hc1:Ae W w.heap.size [.pointer (some ⟨p,0,none⟩)] 64:=hW ▸ ((Zd w [.pointer (some ⟨p,0,none⟩)] 64).alloc _).alloc _;have hr1:Ae W (w.heap.size+1) [.string ⟨#[]⟩,.slice none 0 0,.slice none 0 0,.slice none 0 0] 58:=by
  have:=(Zd (w.alloc (.cells #[.pointer (some ⟨p,0,none⟩)] 64)) [.string ⟨#[]⟩,.slice none 0 0,.slice none 0 0,.slice none 0 0] 58).alloc (.cells #[.string (Aa s),.slice none 0 0,.slice none 0 0,.slice none 0 0] 58);rw[show(w.alloc (.cells #[.pointer (some ⟨p,0,none⟩)] 64)).heap.size=w.heap.size+1 by simp]at this;exact hW ▸ this
 have ho1:Ae W (w.heap.size+2) [.string (Aa s),.slice none 0 0,.slice none 0 0,.slice none 0 0] 58:=by
  have:=Zd ((w.alloc (.cells #[.pointer (some ⟨p,0,none⟩)] 64)).alloc (.cells #[.string ⟨#[]⟩,.slice none 0 0,.slice none 0 0,.slice none 0 0] 58)) [.string (Aa s),.slice none 0 0,.slice none 0 0,.slice none 0 0] 58;rw[show((w.alloc (.cells #[.pointer (some ⟨p,0,none⟩)] 64)).alloc (.cells #[.string ⟨#[]⟩,.slice none 0 0,.slice none 0 0,.slice none 0 0] 58)).heap.size=w.heap.size+2 by simp]at this;exact hW ▸ this
 have hpl:=h.lt;have hlen:l.length≤1000000:=by obtain⟨_,_,h2⟩:=h;exact h2.fit
 have hno:Ot p w.heap.size (w.heap.size+2) (w.heap.size+3) W:=⟨hpl,by omega,by omega,by omega⟩;have hat:Qe W p tb w.heap.size (w.heap.size+2) (w.heap.size+3) s none 0 [] none 0 [] l W:=⟨AFr.refl _ _ _ _,h.old hb1,hc1,ho1,Io.zero _ _ _ _ _,Io.zero _ _ _ _ _,(fun g e=>by cases e),by simpa using hlen⟩;have key:Calls Zb 125 #[.pointer (some ⟨p,0,none⟩),oT (w.heap.size+2) w.heap.size] W (vP W p tb w.heap.size (w.heap.size+2) (w.heap.size+3) s (Kg f l)):=by
  obtain⟨t,r,rfl⟩:=h.ends.ne
  cases y:isP [41] t with
  |true=>exact gO f W p tb _ _ _ s t r hno hat y
  |false=>exact eC f W p tb _ _ _ s t r hno hat (by omega) y
 obtain⟨R,hR⟩:∃R,Gm f s l=R:=⟨_,rfl⟩;rw[hR];rw[Ui]at hR;have HR:=Za hR;have HK:=Za key;have HB:=Za hb1;have HWS:=Za hws;have HRB:=Za hr1;have HN:=Za hno;have HPW:=Za hpl;have HL:=Za hl;have hc0:=hc1.at 0 _ rfl;have hwl:w.heap.size<W.heap.size:=by omega
 have HSF:Hid (∀w1,AFr p (w.heap.size+2) (w.heap.size+3) W w1→SFr p w w1):=fun w1 hf=>Vo (SFr.of_below hb1) hf (by omega) (by omega)
 unfold oT at HK;have HW:=Za hW;clear hR key hb1 hws hr1 ho1 hc1 hno hat hpl hlen hl h hW;go_enter func68,ntmps68
 go_upto_region 2 with(fail)
 rw[HW.o];rw[show w.heap.size+1+1=w.heap.size+2 from rfl];clear HW;go_wp2_with fail
 refine HK.o.mono ?_;intro e w1 he
 cases hh:Kg f l with
 |error n=>
  rw[hh]at he;obtain⟨rfl,hf⟩:=he;have e2:=HR.o;rw[hh]at e2;dsimp only at e2;subst e2;have HF:=Za (HSF.o _ hf);clear hh hf;unfold Bk;go_wp2_with fail
  exact⟨rfl,HF.o,rfl⟩
 |ok q=>
 obtain⟨pl,q⟩:=q;rw[hh]at he;obtain⟨rfl,pa,pc,ha⟩:=he;have e2:=HR.o;rw[hh]at e2;dsimp only at e2;have HR1:=Za e2;have hql:q.length<l.length:=by
  unfold Kg at hh
  cases ht:Bp [41] l with
  |some r=>rw[ht]at hh;injection hh with hh;injection hh with _ hh;subst hh;exact Cm ht
  |none=>
   rw[ht]at hh;exact Ss _ _ _ _ _ hh
 have HQL:=Za hql;have HA1:=Za ha;have c1:=ha.c.at 0 _ rfl;have hba:Below w1.heap.size w1 (w1.alloc (.cells #[.string ⟨#[123]⟩] 9)):=bA;have HA2:=Za (ha.old hba);have HWN:=Za (De p tb q [123] _ (ha.old hba).par w1.heap.size 1 ((Zd w1 [.string ⟨#[123]⟩] 9).at 0 _ rfl));have HRX:=HR;clear hh e2 hql ha hba hc0 hwl;go_wp2_with fail
 refine HWN.o.mono ?_;intro e w3 he
 cases hw:As [123] q with
 |error n=>
  rw[hw]at he;obtain⟨hf,rfl⟩:=he;have e2:=HR1.o;rw[hw]at e2;dsimp only at e2;subst e2;have HF:=Za (HSF.o _ (HA2.o.fr.trans (AFr.of_sfr hf)));clear hw hf;unfold Bk;go_wp2_with fail
  exact⟨rfl,HF.o,rfl⟩
 |ok q2=>
 rw[hw]at he;obtain⟨hf,rfl,hp⟩:=he;have HA3:=Za (HA2.o.next HN.o hf hp (Nat.le_of_lt (Bm hw)));have e2:=HR1.o;rw[hw]at e2;dsimp only at e2;have hlw:=Bm hw;have HI0:Hid (LocI W p tb w.heap.size (w.heap.size+2) (w.heap.size+3) f s pa pc pl R f none 0 [] q2 w3):=⟨HA3.o,by have:=HQL.o;have:=HL.o;omega,by have:=HQL.o;have:=HL.o;omega,e2⟩;clear hf hp hw e2 hlw c1 HWN HRX HR HR1 HK;go_wp2_with fail
 go_loopw [] (fun wr=> ∃(g:Nat) (la:Option Addr) (lc:Nat) (ll:List Bs) (l:List Tk),Hid (LocI W p tb w.heap.size (w.heap.size+2) (w.heap.size+3) f s pa pc pl R g la lc ll l wr)) (fun wr=>Dv p wr)
 case atStart=>exact⟨f,none,0,[],q2,HI0⟩
 case round=>
  obtain⟨g,la,lc,ll,l5,HI⟩:=hrel;clear HI0 HA1 HA2 HA3;obtain⟨u,l5,rfl⟩:=HI.o.arg.par.ends.ne;obtain⟨g2,hg2⟩:∃g2,g=g2+1:=⟨g-1,by have:=HI.o.fuel;rw[Zc]at this;omega⟩;subst hg2;have c5:=HI.o.arg.c.at 0 _ rfl
  cases hu:isP [105,110,116] u with
  |true=>
   have HTK:=Za (Bq p tb u l5 [105,110,116] wr HI.o.arg.par hu);have HU:=Za hu;clear hu;go_wp2_with fail
   refine HTK.o.mono ?_;rintro e w4 ⟨rfl,hf,hp⟩;have HA4:=Za (HI.o.arg.next HN.o hf hp (by simp));clear hf hp c5;go_upto_region 5 with(fail)
   have hbs:w.heap.size+3≤w4.heap.size:=Zf HN.o.bs HA4.o.fr.size;have hll:ll.length≤1000000:=by have:=HA4.o.len;omega
   have n1:=HN.o.pc;have n2:=HN.o.co;have n3:=HN.o.ob
   cases hy:Fa l5 with
   |error n=>
    have e2:=HI.o.res;rw[kH HU.o hy]at e2;subst e2;refine wp_mono (Q:=Exit.then (Met (RY4 p tb w.heap.size (w.heap.size+2) (w.heap.size+3) s la lc ll (.slice pa pl.length pc) [] l5 [] (some n) w4 _ _ _ _ _ _ _ _ _ _ _ _ _ _ _ _ _ _ _ _ _)) _) (tQ p tb w.heap.size (w.heap.size+2) (w.heap.size+3) s la lc ll (.slice pa pl.length pc) [] l5 [] (some n) w4 HA4.o.par HA4.o.c HA4.o.o HA4.o.rl n1 n2 n3 hbs hll (fun w1 h1=>by have h2:=Gd p tb l5 w1 h1;rw[hy]at h2;exact h2.mono (fun e w2 h=>⟨h.2,h.1⟩)) (fun e a' w'=> ∃n',e=.panic [{v:=.iface 110 (.agg #[.int .i64 n']),recovered:=false}]∧n=n'∧a'.defers=[]∧AFr p (w.heap.size+2) (w.heap.size+3) w4 w') (fun n' a' w' hn hd hf=>by injection hn with hn;exact⟨n',rfl,hn,hd,hf⟩) _ _ _ _ _ _ _ _ _ _ _ _ _ _ _ _ _ _ _ _ _ _ _ _ _ _ _ _ _ _ (fun _ _ q=>q) (fun _ _ q=>q)) ?_;intro e a' w' hq
    cases e with
    |normal=>
     obtain⟨nb,gn,cn,⟨_,hp,_⟩,_⟩:=(show RY4 p tb w.heap.size (w.heap.size+2) (w.heap.size+3) s la lc ll (.slice pa pl.length pc) [] l5 [] (some n) w4 _ _ _ _ _ _ _ _ _ _ _ _ _ _ _ _ _ _ _ _ _ a' w' from hq);exact hp.ends.elim
    |panic ch=>
     obtain⟨n2,he,rfl,hd,hf⟩:=hq;injection he with he
     subst he;exact⟨hd,HSF.o _ (HA4.o.fr.trans hf),rfl⟩
    |_=>
     obtain⟨n2,he,_⟩:=hq
     cases he
   |ok q5=>
    obtain⟨x,r5⟩:=q5;have e2:=HI.o.res;rw[gW HU.o hy]at e2;have HR5:=Za e2;have hlr:=Ih hy;have HLR:=Za hlr;refine wp_cut (fun a' w'=>RY4 p tb w.heap.size (w.heap.size+2) (w.heap.size+3) s la lc ll (.slice pa pl.length pc) x l5 r5 none w4 _ _ _ _ _ _ _ _ _ _ _ _ _ _ _ _ _ _ _ _ _ a' w') ?rest (fun J K' hJ hM=>tQ p tb w.heap.size (w.heap.size+2) (w.heap.size+3) s la lc ll (.slice pa pl.length pc) x l5 r5 none w4 HA4.o.par HA4.o.c HA4.o.o HA4.o.rl n1 n2 n3 hbs hll (fun w1 h1=>by have h2:=Gd p tb l5 w1 h1;rw[hy]at h2;exact h2.mono (fun e w2 h=>by obtain⟨hf,v,rfl,hp,hv⟩:=h;have hv:v=.string (Aa x):=hv;subst hv;exact⟨rfl,hf,hp⟩)) _ (fun n' a' w' hn=>by cases hn) _ _ _ _ _ _ _ _ _ _ _ _ _ _ _ _ _ _ _ _ _ _ _ _ _ _ _ _ J K' hJ hM)
    case rest=>
     rintro a' w6 ⟨nb,gn,cn,⟨h1,h2,h3,h4,h5,h6,h7⟩,rfl⟩;have hl1:(ll++[x]).length=ll.length+1:=by simp
     have hrl:=HA4.o.rp.gr h7 (fun g e e2=>HA4.o.ap g e e2);have HA6:Hid (Qe W p tb w.heap.size (w.heap.size+2) (w.heap.size+3) s pa pc pl (some ⟨gn,0,none⟩) cn (ll++[x]) r5 w6):=by
      refine⟨HA4.o.fr.trans h1,h2,h3,?_,hrl,?_,?_,?_⟩
      ·rw[hl1];exact h4
      ·rw[hl1];exact h5
      ·intro g e e2
       rw[hl1]at e2;have e2:gn=g:=by injection e2
       subst e2;rcases h6 with h6|h6
       ·exact HA4.o.ap _ e h6
       ·have:=(HA4.o.rp.lt _ e).2;omega
      ·rw[hl1];have:=HA4.o.len;omega
     have c6:=HA6.o.c.at 0 _ rfl;have hba:Below w6.heap.size w6 (w6.alloc (.cells #[.string ⟨#[59]⟩] 9)):=bA;have HA7:=Za (HA6.o.old hba);have HWN:=Za (De p tb r5 [59] _ (HA6.o.old hba).par w6.heap.size 1 ((Zd w6 [.string ⟨#[59]⟩] 9).at 0 _ rfl));clear h1 h2 h3 h4 h5 h6 h7 hl1 hrl hba hy e2 hlr hbs hll n1 n2 n3;go_wp2_with fail
     refine HWN.o.mono ?_;intro e w8 he
     cases hw:As [59] r5 with
     |error n=>
      rw[hw]at he;obtain⟨hf,rfl⟩:=he;have e2:=HR5.o;rw[hw]at e2;dsimp only at e2;subst e2;have HF:=Za (HSF.o _ (HA7.o.fr.trans (AFr.of_sfr hf)));clear hw hf;unfold Bk;go_wp2_with fail
      exact⟨rfl,HF.o,rfl⟩
     |ok r8=>
      rw[hw]at he;obtain⟨hf,rfl,hp⟩:=he;have hlw:=Bm hw;have HA8:=Za (HA7.o.next HN.o hf hp (Nat.le_of_lt hlw));have e2:=HR5.o;rw[hw]at e2;dsimp only at e2;have HI8:Hid (LocI W p tb w.heap.size (w.heap.size+2) (w.heap.size+3) f s pa pc pl R g2 (some ⟨gn,0,none⟩) cn (ll++[x]) r8 w8):=⟨HA8.o,by have:=HLR.o;have:=HI.o.fuel;rw[Zc]at this;omega,by have:=HLR.o;have:=HI.o.st;rw[Zc]at this;omega,e2⟩;have hm:Dv p w8<Dv p wr:=by
       rw[HI8.o.arg.par.len,HI.o.arg.par.len,Zc];have:=HLR.o;omega
      have HM:=Za hm;clear hf hp hw e2 hlw hm c6;go_wp2_with fail
      go_roundw
      case rel=>exact⟨g2,_,_,_,r8,HI8⟩
      case measure=>exact HM.o
  |false=>
   have HTK:=Za (Aj p tb u l5 [105,110,116] wr HI.o.arg.par hu);have e2:=HI.o.res;rw[jY hu]at e2;have HR5:=Za e2;clear hu e2;go_wp2_with fail
   refine HTK.o.mono ?_;rintro e w4 ⟨rfl,hb⟩;have HA4:=Za (HI.o.arg.old hb);have c6:=HA4.o.c.at 0 _ rfl;have HS:=Za ((nQ f).2.1 (u::l5) w4 p tb HI.o.st HA4.o.par);clear hb c5;go_wp2_with fail
   refine HS.o.mono ?_;intro e w6 he
   cases hs:Dr f [] (u::l5)with
   |error n=>
    rw[hs]at he;obtain⟨hf,rfl⟩:=he;have e2:=HR5.o;rw[hs]at e2;dsimp only at e2;subst e2;have HF:=Za (HSF.o _ (HA4.o.fr.trans (AFr.of_sfr hf)));clear hs hf;unfold Bk;go_wp2_with fail
    exact⟨rfl,HF.o,rfl⟩
   |ok q6=>
    obtain⟨b,r6⟩:=q6;rw[hs]at he;obtain⟨hf,v,rfl,hp,hv⟩:=he;have hv:Ax (w4.heap.size≤ ·) w6 b v:=hv;obtain⟨b1,b2,rfl⟩:=hv.shape;have e2:=HR5.o;rw[hs]at e2;dsimp only at e2;subst e2;have HA6:=Za (HA4.o.next HN.o hf hp (Nat.le_of_lt ((Mt f).2 _ _ _ _ hs)));have hbs:w.heap.size+3≤w4.heap.size:=Zf HN.o.bs HA4.o.fr.size;have HV:=Za (hv.up hbs);have hro:=HRB.o.afr HA6.o.fr (by omega) (by have:=HPW.o;omega) (by omega);have HRO:=Za hro;have o0:=HA6.o.o.at 0 _ rfl;have o1:=HA6.o.o.at 1 _ rfl;have o2:=HA6.o.o.at 2 _ rfl;have o3:=HA6.o.o.at 3 _ rfl;have of3:=HA6.o.o.fz 3;have olt:=HA6.o.o.lt;clear hf hp hv hs c6 hbs hro HI HTK HA4 HS;go_upto_region 8 with(fail)
    have HO7:=Za (HA6.o.o.set 3 (.slice b1 b.length b2));have HR7:=Za (HRO.o.other (show w.heap.size+1≠w.heap.size+2 by omega) 3 (.slice b1 b.length b2));have HF7:=Za ((HSF.o _ HA6.o.fr).setNew (show w.heap.size≤w.heap.size+2 by omega) 3 (.slice b1 b.length b2));have HP7:=Za (HA6.o.par.other (show p<w.heap.size+2 by have:=HPW.o;omega) 3 (.slice b1 b.length b2));have hkp:Ed (w.heap.size+3≤ ·) w6 (w6.setCell ⟨w.heap.size+2,3,none⟩ (.slice b1 b.length b2)):=Ai w6 (by show ¬w.heap.size+3≤w.heap.size+2;omega) 3 _;have hpl2:pl.length≤1000000:=by have:=HA6.o.len;omega
    have hll2:ll.length≤1000000:=by have:=HA6.o.len;omega
    have HSP:=Za ((HA6.o.rp.strs hpl2).keep hkp);have HSL:=Za ((HA6.o.rl.strs hll2).keep hkp);have HSV:=Za (HV.o.keep hkp);clear o0 o1 o2 o3 of3 olt hkp hpl2 hll2 HA6 HV HRO;generalize w6.setCell ⟨w.heap.size+2,3,none⟩ (.slice b1 b.length b2)=V at*;have o0:=HO7.o.at 0 _ rfl;have o1:=HO7.o.at 1 _ rfl;have o2:=HO7.o.at 2 _ rfl;have o3:=HO7.o.at 3 _ rfl;have x0:=HR7.o.at 0 _ rfl;have x1:=HR7.o.at 1 _ rfl;have x2:=HR7.o.at 2 _ rfl;have x3:=HR7.o.at 3 _ rfl;have z0:=HR7.o.fz 0;have z1:=HR7.o.fz 1;have z2:=HR7.o.fz 2;have z3:=HR7.o.fz 3;have xlt:=HR7.o.lt;go_wp2_with fail
    have HR8:=Za ((((HR7.o.set 0 (.string (Aa s))).set 1 (.slice pa pl.length pc)).set 2 (.slice la ll.length lc)).set 3 (.slice b1 b.length b2));have d0:=HR8.o.at 0 _ rfl;have d1:=HR8.o.at 1 _ rfl;have d2:=HR8.o.at 2 _ rfl;have d3:=HR8.o.at 3 _ rfl;have hk:∀(V:World) (i:Nat) (x:Value),Ed (w.heap.size+3≤ ·) V (V.setCell ⟨w.heap.size+1,i,none⟩ x):=fun V i x=>Ai V (by show ¬w.heap.size+3≤w.heap.size+1;omega) i x
    have hk4:=(((hk V 0 (.string (Aa s))).trans (hk _ 1 (.slice pa pl.length pc))).trans (hk _ 2 (.slice la ll.length lc))).trans (hk _ 3 (.slice b1 b.length b2));have up:∀b,w.heap.size+3≤b→w.heap.size≤b:=fun b hb=>by omega
    have hpr:p<w.heap.size+1:=by have:=HPW.o;omega
    exact bodyPost_ret (v:=.agg #[.string (Aa s),.slice pa pl.length pc,.slice la ll.length lc,.slice b1 b.length b2]) (by simp [results,results68,go_sem,d0,d1,d2,d3]) rfl ⟨(((HF7.o.setNew (by omega) _ _).setNew (by omega) _ _).setNew (by omega) _ _).setNew (by omega) _ _,_,rfl,(((HP7.o.other hpr _ _).other hpr _ _).other hpr _ _).other hpr _ _,_,_,_,rfl,(HSP.o.keep hk4).mono up,(HSL.o.keep hk4).mono up,(HSV.o.keep hk4).mono up⟩
end Go.Proofs.YtcfpfnoldgnloaaGreatDoor
