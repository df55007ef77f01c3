/-
  prog: a program.
-/
import Derived.Test.YtcfpfnoldgnloaaGreatDoorBk09
import Derived.Defers
import Derived.Recover
import Derived.Laws.Pointers
set_option linter.unusedVariables false
set_option linter.unusedSimpArgs false
namespace Go.Proofs.YtcfpfnoldgnloaaGreatDoor
open Go.RowKit
set_option maxHeartbeats 20000000
set_option maxRecDepth 100000
open Go.Lib renaming hid→Za
open Below renaming refl→Zb
open aG renaming new→Zc
open Go.Proofs.Tryz renaming prog→Zd
open List renaming length_cons→Ze
def PrH(B:Nat)(x:Pr)(v:Value)(w:World):Prop:= ∃av fv,v= .agg #[av,fv]∧bK (B≤ ·) w x.arrays av∧bM (B≤ ·) w x.funcs fv
theorem mZ:∀(f:Nat) (a:List Bs) (l:List Tk) (x:List Bs) (r:List Tk),eU f a l= .ok (x,r)→r.length≤l.length
 |0,a,l,x,r,h=>by cases h
 |f+1,a,l,x,r,h=>by
  rw[eU]at h
  cases h1:bF [105,110,116] l with
  |none=>rw[h1]at h;injection h with h;injection h with _ h;subst h;exact Nat.le_refl _
  |some q=>
   rw[h1]at h;dsimp only at h
   cases h2:dK q with
   |error e=>rw[h2]at h;cases h
   |ok z=>
    obtain⟨s,z⟩:=z;rw[h2]at h;dsimp only at h
    cases h3:aV [59] z with
    |error e=>rw[h3]at h;cases h
    |ok y=>rw[h3]at h;have:=mZ f _ _ _ _ h;have:=bW h1;have:=fD h2;have:=bC h3;omega
theorem wQ {f:Nat}{l r:List Tk}{x:List Bs}(h:f7 f l= .ok (x,r)):r.length<l.length:=by
 unfold f7 at h
 cases ht:bF [41] l with
 |some q=>rw[ht]at h;injection h with h;injection h with _ h;subst h;exact bW ht
 |none=>rw[ht]at h;exact mH _ _ _ _ _ h
theorem j6 {f:Nat}{s:Bs}{l r:List Tk}{x:Fu}(h:dw f s l= .ok (x,r)):r.length<l.length:=by
 rw[mW]at h
 cases h1:f7 f l with
 |error e=>rw[h1]at h;cases h
 |ok q=>
  obtain⟨ps,q⟩:=q;rw[h1]at h;dsimp only at h
  cases h2:aV [123] q with
  |error e=>rw[h2]at h;cases h
  |ok z=>
   rw[h2]at h;dsimp only at h;unfold kA at h
   cases h3:eU f [] z with
   |error e=>rw[h3]at h;cases h
   |ok y=>
    obtain⟨ls,y⟩:=y;rw[h3]at h;dsimp only at h
    cases h4:cV f [] y with
    |error e=>rw[h4]at h;cases h
    |ok v=>
     obtain⟨b,v⟩:=v;rw[h4]at h;injection h with h;injection h with _ h;subst h
     have:=wQ h1;have:=bC h2;have:=mZ _ _ _ _ _ h3;have:=(iZ f).2 _ _ _ _ h4;omega
structure PgI (W:World)(p tb ob base f:Nat)(R:PR Pr)(g:Nat)(aa:Option Addr)(ac:Nat)(as0:List Ar)(fa:Option Addr)(fc:Nat)(ps:List YFv)(l:List Tk)(wr:World):Prop where
 fr:AFr p ob base W wr
 par:Ps wr p tb l
 o:aG wr ob [.slice aa as0.length ac,.slice fa ps.length fc] 34
 ra:nQ wr base as0 (.slice aa as0.length ac)
 rf:ed wr base ps (.slice fa ps.length fc)
 ap:∀g,(Value.slice aa as0.length ac).ownBlock=some g→(Value.slice fa ps.length fc).ownBlock≠some g
 nf:ps=[]→fa=none∧fc=0
 len:as0.length+ps.length+l.length≤1000000
 fuel:4*l.length+4≤g
 le:g≤f
 res:dd g ⟨as0,ps.map (·.x)⟩ l=R
structure PgS (W:World)(p tb ob base:Nat)(aa:Option Addr)(ac:Nat)(as0:List Ar)(fa:Option Addr)(fc:Nat)(ps:List YFv)(l:List Tk)(wr:World):Prop where
 fr:AFr p ob base W wr
 par:Ps wr p tb l
 o:aG wr ob [.slice aa as0.length ac,.slice fa ps.length fc] 34
 ra:nQ wr base as0 (.slice aa as0.length ac)
 rf:ed wr base ps (.slice fa ps.length fc)
 ap:∀g,(Value.slice aa as0.length ac).ownBlock=some g→(Value.slice fa ps.length fc).ownBlock≠some g
 nf:ps=[]→fa=none∧fc=0
 len:as0.length+ps.length+l.length≤1000000
section
variable {W:World} {p tb ob base:Nat} {aa:Option Addr} {ac:Nat} {as0:List Ar} {fa:Option Addr} {fc:Nat} {ps:List YFv} {l r:List Tk} {wx w':World}
theorem PgS.old(h:PgS W p tb ob base aa ac as0 fa fc ps l wx)(hb:Below wx.heap.size wx w'):PgS W p tb ob base aa ac as0 fa fc ps l w':=
 ⟨h.fr.old hb,h.par.old hb,h.o.old hb,h.ra.old hb,h.rf.old hb,h.ap,h.nf,h.len⟩
theorem PgS.next(h:PgS W p tb ob base aa ac as0 fa fc ps l wx)(h1:p<ob)(h2:ob<base)(hf:SFr p wx w')(hp:Ps w' p tb r)(hl:r.length≤l.length):PgS W p tb ob base aa ac as0 fa fc ps r w':=
 ⟨h.fr.trans (AFr.of_sfr hf),hp,h.o.sfr hf (by omega),h.ra.sfr hf (by omega),h.rf.sfr hf (by omega),h.ap,h.nf,by have:=h.len;omega⟩
end
theorem xO {f:Nat}{p:Pr}{t:Tk}{r:List Tk}(hk:t.kind=5):dd (f+1) p (t::r)= .ok (p,t::r):=by
 rw[dd];have:((t::r).head?.map (·.kind)).getD 0=t.kind:=rfl;rw[this,if_pos hk]
theorem v8 {f:Nat}{p:Pr}{t:Tk}{r:List Tk}(hk:t.kind≠5):dd (f+1) p (t::r)=match i6 (t::r)with
  | .error e=> .error e
  | .ok (s,r)=>match(if p.funcs.isEmpty=true then bF [91] r else none)with
   |some r=>(match gx 3 r with
    | .error e=> .error e
    | .ok (t,r)=>match ev [93] [59] r with
     | .error e=> .error e
     | .ok r=>dd f {p with arrays:=p.arrays++[⟨s,t.num⟩]} r)
   |none=>match aV [40] r with
    | .error e=> .error e
    | .ok r=>match dw f s r with
     | .error e=> .error e
     | .ok (x,r)=>dd f {p with funcs:=p.funcs++[x]} r:=by
 rw[dd];have:((t::r).head?.map (·.kind)).getD 0=t.kind:=rfl;rw[this,if_neg hk];unfold i6
 cases aV [105,110,116] (t::r)with
 |error e=>rfl
 |ok q=>
  dsimp only
  cases dK q with
  |error e=>rfl
  |ok z=>
   obtain⟨s,z⟩:=z;dsimp only
   cases(if p.funcs.isEmpty=true then bF [91] z else none)with
   |some y=>
    dsimp only
    cases gx 3 y with
    |error e=>rfl
    |ok v=>
     obtain⟨t,v⟩:=v;dsimp only;unfold ev
     cases aV [93] v with
     |error e=>rfl
     |ok u=>rfl
   |none=>rfl
theorem uP {s u:Bs}{l r:List Tk}(h:ev s u l= .ok r):r.length<l.length:=by
 unfold ev at h
 cases h1:aV s l with
 |error e=>rw[h1]at h;cases h
 |ok q=>rw[h1]at h;have:=bC h1;have:=bC h;omega
theorem wv(f:Nat)(l:List Tk)(w:World)(p tb:Nat)(hl:4*l.length+4≤f)(h:Ps w p tb l):
  Calls Zd 30 #[.pointer (some ⟨p,0,none⟩)] w (eH (PrH w.heap.size) w p tb (dd f ⟨[],[]⟩ l)):=by
 obtain⟨R,hR⟩:∃R,dd f ⟨[],[]⟩ l=R:=⟨_,rfl⟩;rw[hR];have hb0:Below w.heap.size w (w.alloc (.cells #[.slice none 0 0,.slice none 0 0] 34)):=bA;have ho:=Zc w [.slice none 0 0,.slice none 0 0] 34;have hlen:l.length≤1000000:=by obtain⟨_,_,h2⟩:=h;exact h2.fit
 have hpo:=h.lt;have hp0:=h.old hb0;have hws:(w.alloc (.cells #[.slice none 0 0,.slice none 0 0] 34)).heap.size=w.heap.size+1:=by simp
 have HI0:Hid (PgI (w.alloc (.cells #[.slice none 0 0,.slice none 0 0] 34)) p tb w.heap.size (w.heap.size+1) f R f none 0 [] none 0 [] l (w.alloc (.cells #[.slice none 0 0,.slice none 0 0] 34))):=
  ⟨AFr.refl _ _ _ _,hp0,ho,eY.zero _ _ _ _ _,ed.zero _ _,(fun g e=>by cases e),fun _=>⟨rfl,rfl⟩,by simpa using hlen,hl,Nat.le_refl _,hR⟩
 have HPO:=Za hpo;have HWS:=Za hws;have HSF:Hid (∀w1,AFr p w.heap.size (w.heap.size+1) (w.alloc (.cells #[.slice none 0 0,.slice none 0 0] 34)) w1→SFr p w w1):=fun w1 hf=>mz (SFr.of_below hb0) hf (by omega) (Nat.le_refl _)
 clear hR ho hlen hp0 hl h hb0 hws;go_enter Tryz.func30,Tryz.ntmps30
 go_wp2_with fail
 obtain⟨W,hW⟩:∃W,w.alloc (.cells #[.slice none 0 0,.slice none 0 0] 34)=W:=⟨_,rfl⟩;rw[hW]at HI0 HWS HSF ⊢;clear hW
 go_loopw [] (fun wr=> ∃(g:Nat) (aa:Option Addr) (ac:Nat) (as0:List Ar) (fa:Option Addr) (fc:Nat) (ps:List YFv) (l:List Tk),Hid (PgI W p tb w.heap.size (w.heap.size+1) f R g aa ac as0 fa fc ps l wr)) (fun wr=>cm p wr)
 case atStart=>exact⟨f,none,0,[],none,0,[],l,HI0⟩
 case round=>
  obtain⟨g,aa,ac,as0,fa,fc,ps,l,HI⟩:=hrel;clear HI0;obtain⟨t,r,rfl⟩:=HI.out.par.ends.ne;obtain⟨g2,hg2⟩:∃g2,g=g2+1:=⟨g - 1,by have:=HI.out.fuel;omega⟩;subst hg2;have HNX:=Za (eI p tb t r wr HI.out.par)
  by_cases hk:t.kind=5
  ·have hres:Except.ok (⟨as0,ps.map (·.x)⟩,t::r)=R:=by
    rw[←HI.out.res,xO hk]
   subst hres;have k1:(t.kind !=5)=false:=by simp [hk]
   have k2:(t.kind==5)=true:=by simp [hk]
   clear hk;go_wp2_with fail
   refine HNX.out.mono ?_;rintro e w3 ⟨rfl,hb⟩;unfold tkV;have HF:=Za (HSF.out _ (HI.out.fr.old hb));have HP:=Za (HI.out.par.old hb);have hla:as0.length≤1000000:=by have:=HI.out.len;omega
   have hlp:ps.length≤1000000:=by have:=HI.out.len;omega
   have HA:=Za (nQ.ars (HI.out.ra.old hb) hla);have HU:=Za ((HI.out.rf.old hb).fus hlp);have ho:=HI.out.o.old hb;have x0:=ho.at 0 _ rfl;have x1:=ho.at 1 _ rfl;clear hb ho hla hlp;go_wp2_with fail
   have up:∀b,w.heap.size+1≤b→w.heap.size≤b:=fun b hb=>by omega
   exact bodyPost_ret (v:= .agg #[.slice aa as0.length ac,.slice fa ps.length fc]) (by simp [results,Tryz.results30,go_sem,x0,x1]) rfl ⟨HF.out,_,rfl,HP.out,_,_,rfl,by
    obtain⟨a,cap,b,off,hv,h1,h2,h3,h4⟩:=HA.out;exact⟨a,cap,b,off,hv,h1,h2,h3.imp id (fun q=>⟨q.1,up _ q.2⟩),h4⟩,by
    obtain⟨a,cap,b,off,pv,lv,bv,hv,h1,h2,h3,h4⟩:=HU.out;exact⟨a,cap,b,off,pv,lv,bv,hv,h1,h2,h3.imp id (fun q=>⟨q.1,up _ q.2⟩),fun i hi=>⟨(h4 i hi).1,(h4 i hi).2.1.mono up,(h4 i hi).2.2.1.mono up,(h4 i hi).2.2.2.mono up⟩⟩⟩
  ·have hres:=HI.out.res
   rw[v8 hk]at hres;have HRES:=Za hres;have k1:(t.kind !=5)=true:=by simp [hk]
   have k2:(t.kind==5)=false:=by simp [hk]
   have HK5:=Za hk;have HS:Hid (PgS W p tb w.heap.size (w.heap.size+1) aa ac as0 fa fc ps (t::r) wr):=⟨HI.out.fr,HI.out.par,HI.out.o,HI.out.ra,HI.out.rf,HI.out.ap,HI.out.nf,HI.out.len⟩;have hob:w.heap.size<w.heap.size+1:=Nat.lt_succ_self _;have hfu:=HI.out.fuel;have HFU:=Za hfu;have HLE:Hid (g2+1≤f):=HI.out.le;have HML:=Za HI.out.par.len;clear hk hres hfu HI;go_wp2_with fail
   refine HNX.out.mono ?_;rintro e w3 ⟨rfl,hb⟩;unfold tkV;have HS3:=Za (HS.out.old hb);have hba:Below w3.heap.size w3 (w3.alloc (.cells #[.string ⟨#[105,110,116]⟩] 9)):=bA;have HS4:=Za (HS3.out.old hba);have HWN:=Za (cM p tb (t::r) [105,110,116] _ HS4.out.par w3.heap.size 1 ((Zc w3 [.string ⟨#[105,110,116]⟩] 9).at 0 _ rfl));clear hb hba;go_wp2_with fail
   refine HWN.out.mono ?_;intro e w5 he
   cases hw:aV [105,110,116] (t::r)with
   |error n=>
    rw[hw]at he;obtain⟨hf,rfl⟩:=he;have e2:=HRES.out;unfold i6 at e2;rw[hw]at e2;dsimp only at e2;subst e2;have HF:=Za (HSF.out _ (HS4.out.fr.trans (AFr.of_sfr hf)));clear hw hf;unfold az;go_wp2_with fail
    exact⟨rfl,HF.out,rfl⟩
   |ok r1=>
   rw[hw]at he;obtain⟨hf,rfl,hp⟩:=he;have hlw:=bC hw;have HS5:=Za (HS4.out.next HPO.out hob hf hp (Nat.le_of_lt hlw));have HNM:=Za (dl p tb r1 w5 hp);have HLW:=Za hlw;have HW1:=Za hw;clear hf hp hw hlw HWN HS3 HS4;go_wp2_with fail
   refine HNM.out.mono ?_;intro e w6 he
   cases hn:dK r1 with
   |error n=>
    rw[hn]at he;obtain⟨hf,rfl⟩:=he;have e2:=HRES.out;unfold i6 at e2;rw[HW1.out]at e2;dsimp only at e2;rw[hn]at e2;dsimp only at e2;subst e2;have HF:=Za (HSF.out _ (HS5.out.fr.trans (AFr.of_sfr hf)));clear hn hf;unfold az;go_wp2_with fail
    exact⟨rfl,HF.out,rfl⟩
   |ok q=>
   obtain⟨s,r2⟩:=q;rw[hn]at he;obtain⟨hf,v,rfl,hp,hv⟩:=he;have hv:v= .string (aB s):=hv;subst hv;have hln:=fD hn;have HS6:=Za (HS5.out.next HPO.out hob hf hp (Nat.le_of_lt hln));have e2:=HRES.out;unfold i6 at e2;rw[HW1.out]at e2;dsimp only at e2;rw[hn]at e2;dsimp only at e2;have HRES2:=Za e2;have hlr:r2.length+2≤(t::r).length:=by have:=HLW.out;omega
   have HLR:=Za hlr;clear hf hp hn e2 hlr hln HRES HW1 HLW HNM;obtain⟨u,r3,rfl⟩:=HS6.out.par.ends.ne;have o0:=HS6.out.o.at 0 _ rfl;have o1:=HS6.out.o.at 1 _ rfl
   by_cases hz:ps=[]
   ·subst hz
    obtain⟨rfl,rfl⟩:=HS6.out.nf rfl
    cases hu:isP [91] u with
    |true=>
     have HTK:=Za (bE p tb u r3 [91] w6 HS6.out.par hu);have e2:=HRES2.out;rw[if_pos (by rfl),aQ hu]at e2;dsimp only at e2;have HR3:=Za e2;clear hu e2;go_wp2_with fail
     refine HTK.out.mono ?_;rintro e w7 ⟨rfl,hf,hp⟩;have HS7:=Za (HS6.out.next HPO.out hob hf hp (by simp));clear hf hp o0 o1;go_upto_region 5 with(fail)
     have hbs:w.heap.size+1≤w7.heap.size:=by have:=HS7.out.fr.size;have:=HWS.out;omega
     have hll:as0.length≤1000000:=by have:=HS7.out.len;omega
     have hpo:=HPO.out
     cases hy:gx 3 r3 with
     |error n=>
      have e2:=HR3.out;rw[hy]at e2;dsimp only at e2;subst e2;refine wp_mono (Q:=Exit.then (Met (RY5 p tb w.heap.size (w.heap.size+1) s aa ac as0 (.slice none 0 0) t r3 [] (some n) w7 _ _ _ _ _ _ _ _ _ _ _ _ _ _ _ _ _ _ _ _ _ _ _ _ _ _ _ _ _ _ _ _)) _) (yZ p tb w.heap.size (w.heap.size+1) s aa ac as0 (.slice none 0 0) t r3 [] (some n) w7 HS7.out.par HS7.out.o HS7.out.ra hpo hob hbs hll (fun w1 h1=>by have h2:=ip p tb r3 3 (by decide) w1 h1;rw[hy]at h2;exact h2.mono (fun e w2 h=>⟨h.2,h.1⟩)) (fun e a' w'=> ∃n',e= .panic [{v:= .iface 110 (.agg #[.int .i64 n']),recovered:=false}]∧n=n'∧a'.defers=[]∧AFr p w.heap.size (w.heap.size+1) w7 w') (fun n' a' w' hn hd hf=>by injection hn with hn;exact⟨n',rfl,hn,hd,hf⟩) _ _ _ _ _ _ _ _ _ _ _ _ _ _ _ _ _ _ _ _ _ _ _ _ _ _ _ _ _ _ _ _ _ _ _ _ _ _ _ _ _ _ _ _ (fun _ _ q=>q) (fun _ _ q=>q)) ?_;intro e a' w' hq
      cases e with
      |normal=>
       obtain⟨nb,gn,cn,⟨_,hp,_⟩,_⟩:=(show RY5 p tb w.heap.size (w.heap.size+1) s aa ac as0 (.slice none 0 0) t r3 [] (some n) w7 _ _ _ _ _ _ _ _ _ _ _ _ _ _ _ _ _ _ _ _ _ _ _ _ _ _ _ _ _ _ _ _ a' w' from hq);exact hp.ends.elim
      |panic ch=>
       obtain⟨n2,he,rfl,hd,hf⟩:=hq;injection he with he
       subst he;exact⟨hd,HSF.out _ (HS7.out.fr.trans hf),rfl⟩
      |_=>
       obtain⟨n2,he,_⟩:=hq
       cases he
     |ok q=>
      obtain⟨t4,r4⟩:=q;have e2:=HR3.out;rw[hy]at e2;dsimp only at e2;have HR4:=Za e2;have hl4:=ou hy;have HL4:=Za hl4;refine wp_cut (fun a' w'=>RY5 p tb w.heap.size (w.heap.size+1) s aa ac as0 (.slice none 0 0) t4 r3 r4 none w7 _ _ _ _ _ _ _ _ _ _ _ _ _ _ _ _ _ _ _ _ _ _ _ _ _ _ _ _ _ _ _ _ a' w') ?rest (fun J K' hJ hM=>yZ p tb w.heap.size (w.heap.size+1) s aa ac as0 (.slice none 0 0) t4 r3 r4 none w7 HS7.out.par HS7.out.o HS7.out.ra hpo hob hbs hll (fun w1 h1=>by have h2:=ip p tb r3 3 (by decide) w1 h1;rw[hy]at h2;exact h2.mono (fun e w2 h=>by obtain⟨hf,v,rfl,hp,hv⟩:=h;have hv:v=tkV t4:=hv;subst hv;exact⟨rfl,hf,hp⟩)) _ (fun n' a' w' hn=>by cases hn) _ _ _ _ _ _ _ _ _ _ _ _ _ _ _ _ _ _ _ _ _ _ _ _ _ _ _ _ _ _ _ _ _ _ _ _ _ _ _ _ _ _ J K' hJ hM)
      case rest=>
       rintro a' w8 ⟨nb,gn,cn,⟨h1,h2,h3,h4⟩,rfl⟩;have hl1:(as0++[(⟨s,t4.num⟩:Ar)]).length=as0.length+1:=by simp
       have HS8:Hid (PgS W p tb w.heap.size (w.heap.size+1) (some ⟨gn,0,none⟩) cn (as0++[(⟨s,t4.num⟩:Ar)]) none 0 [] r4 w8):=by
        refine⟨HS7.out.fr.trans h1,h2,?_,?_,ed.zero _ _,?_,fun _=>⟨rfl,rfl⟩,?_⟩
        ·rw[hl1];exact h3
        ·rw[hl1];exact h4
        ·intro g _ e2;cases e2
        ·have:=HS7.out.len
         simp only[List.length_nil]at this ⊢;rw[hl1];omega
       have hba:Below w8.heap.size w8 (w8.alloc (.cells #[.string ⟨#[93]⟩,.string ⟨#[59]⟩] 9)):=bA;have HS9:=Za (HS8.out.old hba);have hwp:w8.heap.size≠p:=by have:=HS8.out.par.lt;omega
       have HWN:=Za (kP p tb r4 [93] [59] _ (HS8.out.old hba).par w8.heap.size 2 ((Zc w8 [.string ⟨#[93]⟩,.string ⟨#[59]⟩] 9).at 0 _ rfl) ((Zc w8 [.string ⟨#[93]⟩,.string ⟨#[59]⟩] 9).at 1 _ rfl) hwp);clear h1 h2 h3 h4 hl1 hba hwp hy e2 hl4 hbs hll hpo;go_wp2_with fail
       refine HWN.out.mono ?_;intro e w10 he
       cases hw:ev [93] [59] r4 with
       |error n=>
        rw[hw]at he;obtain⟨hf,rfl⟩:=he;have e2:=HR4.out;rw[hw]at e2;dsimp only at e2;subst e2;have HF:=Za (HSF.out _ (HS9.out.fr.trans (AFr.of_sfr hf)));clear hw hf;unfold az;go_wp2_with fail
        exact⟨rfl,HF.out,rfl⟩
       |ok r5=>
        rw[hw]at he;obtain⟨hf,rfl,hp⟩:=he;have hl5:=uP hw;have hS:=HS9.out.next HPO.out hob hf hp (Nat.le_of_lt hl5);have e2:=HR4.out;rw[hw]at e2;dsimp only at e2;have HI9:Hid (PgI W p tb w.heap.size (w.heap.size+1) f R g2 (some ⟨gn,0,none⟩) cn (as0++[(⟨s,t4.num⟩:Ar)]) none 0 [] r5 w10):=⟨hS.fr,hS.par,hS.o,hS.ra,hS.rf,hS.ap,hS.nf,hS.len,by have:=HFU.out;have:=HLR.out;have:=HL4.out;simp only[Ze]at*;omega,Nat.le_of_succ_le HLE.out,e2⟩;have hm:cm p w10<cm p wr:=by
         rw[HI9.out.par.len,HML.out];have:=HLR.out;have:=HL4.out;simp only[Ze]at*;omega
        have HM:=Za hm;clear hf hp hw hl5 hS e2 hm;go_wp2_with fail
        go_roundw
        case rel=>exact⟨g2,_,_,_,_,_,_,r5,HI9⟩
        case measure=>exact HM.out
    |false=>
     have HTK:=Za (aO p tb u r3 [91] w6 HS6.out.par hu);have e2:=HRES2.out;rw[if_pos (by rfl),aH hu]at e2;dsimp only at e2;have HR3:=Za e2;clear hu e2;go_wp2_with fail
     refine HTK.out.mono ?_;rintro e w7 ⟨rfl,hb⟩;have HS7:=Za (HS6.out.old hb);clear hb o0 o1;have hba:Below w7.heap.size w7 (w7.alloc (.cells #[.string ⟨#[40]⟩] 9)):=bA;have HS8:=Za (HS7.out.old hba);have HWN:=Za (cM p tb (u::r3) [40] _ (HS7.out.old hba).par w7.heap.size 1 ((Zc w7 [.string ⟨#[40]⟩] 9).at 0 _ rfl));clear hba;go_wp2_with fail
     refine HWN.out.mono ?_;intro e w9 he
     cases hw:aV [40] (u::r3)with
     |error n=>
      rw[hw]at he;obtain⟨hf,rfl⟩:=he;have e2:=HR3.out;rw[hw]at e2;dsimp only at e2;subst e2;have HF:=Za (HSF.out _ (HS8.out.fr.trans (AFr.of_sfr hf)));clear hw hf;unfold az;go_wp2_with fail
      exact⟨rfl,HF.out,rfl⟩
     |ok r4=>
     rw[hw]at he;obtain⟨hf,rfl,hp⟩:=he;have hl4:=bC hw;have HS9:=Za (HS8.out.next HPO.out hob hf hp (Nat.le_of_lt hl4));have e2:=HR3.out;rw[hw]at e2;dsimp only at e2;have HR4:=Za e2;have HL4:=Za hl4;clear hf hp hw e2 hl4 HWN HS8;go_upto_region 8 with(fail)
     have hbs:w.heap.size+1≤w9.heap.size:=by have:=HS9.out.fr.size;have:=HWS.out;omega
     have hll:([]:List YFv).length≤1000000:=by have:=HS9.out.len;omega
     have hpo:=HPO.out;have hfn:4*r4.length+2≤g2:=by have:=HFU.out;have:=HLR.out;have:=HL4.out;simp only[Ze]at*;omega
     cases hy:dw g2 s r4 with
     |error n=>
      have e2:=HR4.out;rw[hy]at e2;dsimp only at e2;subst e2;refine wp_mono (Q:=Exit.then (Met (RY8 p tb w.heap.size (w.heap.size+1) s none 0 ([]:List YFv) (.slice aa as0.length ac) ⟨[],[],[],[]⟩ r4 [] (some n) w9 _ _ _ _ _ _ _ _ _ _ _ _ _ _ _ _ _ _ _ _ _ _ _ _ _ _ _ _ _ _ _ _ _ _)) _) (p8 p tb w.heap.size (w.heap.size+1) s none 0 ([]:List YFv) (.slice aa as0.length ac) ⟨[],[],[],[]⟩ r4 [] (some n) w9 HS9.out.par HS9.out.o HS9.out.rf hpo hob hbs hll (fun w1 h1=>by have h2:=lL g2 s r4 w1 p tb hfn h1;rw[hy]at h2;exact h2.mono (fun e w2 h=>⟨h.2,h.1⟩)) (fun e a' w'=> ∃n',e= .panic [{v:= .iface 110 (.agg #[.int .i64 n']),recovered:=false}]∧n=n'∧a'.defers=[]∧AFr p w.heap.size (w.heap.size+1) w9 w') (fun n' a' w' hn hd hf=>by injection hn with hn;exact⟨n',rfl,hn,hd,hf⟩) _ _ _ _ _ _ _ _ _ _ _ _ _ _ _ _ _ _ _ _ _ _ _ _ _ _ _ _ _ _ _ _ _ _ _ _ _ _ _ _ _ _ _ _ (fun _ _ q=>q) (fun _ _ q=>q)) ?_;intro e a' w' hq
      cases e with
      |normal=>
       obtain⟨_,_,_,_,_,_,nb,gn,cn,⟨_,hp,_⟩,_⟩:=(show RY8 p tb w.heap.size (w.heap.size+1) s none 0 ([]:List YFv) (.slice aa as0.length ac) ⟨[],[],[],[]⟩ r4 [] (some n) w9 _ _ _ _ _ _ _ _ _ _ _ _ _ _ _ _ _ _ _ _ _ _ _ _ _ _ _ _ _ _ _ _ _ _ a' w' from hq);exact hp.ends.elim
      |panic ch=>
       obtain⟨n2,he,rfl,hd,hf⟩:=hq;injection he with he
       subst he;exact⟨hd,HSF.out _ (HS9.out.fr.trans hf),rfl⟩
      |_=>
       obtain⟨n2,he,_⟩:=hq
       cases he
     |ok q=>
      obtain⟨x,r5⟩:=q;have e2:=HR4.out;rw[hy]at e2;dsimp only at e2;have HR5:=Za e2;have hl5:=j6 hy;have HL5:=Za hl5;refine wp_mono (Q:=Exit.then (Met (RY8 p tb w.heap.size (w.heap.size+1) s none 0 ([]:List YFv) (.slice aa as0.length ac) x r4 r5 none w9 _ _ _ _ _ _ _ _ _ _ _ _ _ _ _ _ _ _ _ _ _ _ _ _ _ _ _ _ _ _ _ _ _ _)) (fun _ _ _=>False)) (p8 p tb w.heap.size (w.heap.size+1) s none 0 ([]:List YFv) (.slice aa as0.length ac) x r4 r5 none w9 HS9.out.par HS9.out.o HS9.out.rf hpo hob hbs hll (fun w1 h1=>by have h2:=lL g2 s r4 w1 p tb hfn h1;rw[hy]at h2;exact h2.mono (fun e w2 h=>by obtain⟨hf,v,rfl,hp,pv,lv,bv,rfl,i1,i2,i3⟩:=h;exact⟨pv,lv,bv,rfl,hf,hp,i1,i2,i3⟩)) (fun _ _ _=>False) (fun n' a' w' hn=>by cases hn) _ _ _ _ _ _ _ _ _ _ _ _ _ _ _ _ _ _ _ _ _ _ _ _ _ _ _ _ _ _ _ _ _ _ _ _ _ _ _ _ _ _ _ _ (fun _ _ q=>q) (fun _ _ q=>q)) ?_;intro e a' w10 hq
      cases e with
      |normal=>
       obtain⟨p1,p2,l1,l2,b1,b2,nb,gn,cn,⟨h1,h2,h3,h4,h5,h6⟩,rfl⟩:=(show RY8 p tb w.heap.size (w.heap.size+1) s none 0 ([]:List YFv) (.slice aa as0.length ac) x r4 r5 none w9 _ _ _ _ _ _ _ _ _ _ _ _ _ _ _ _ _ _ _ _ _ _ _ _ _ _ _ _ _ _ _ _ _ _ a' w10 from hq);have hl1:(([]:List YFv)++[(⟨x,.slice p1 x.params.length p2,.slice l1 x.locals.length l2,.slice b1 x.body.length b2⟩:YFv)]).length=([]:List YFv).length+1:=by simp
       have hra:=HS9.out.ra.gr h6 (fun g e e2=>HS9.out.ap g e e2);have HI10:Hid (PgI W p tb w.heap.size (w.heap.size+1) f R g2 aa ac as0 (some ⟨gn,0,none⟩) cn (([]:List YFv)++[(⟨x,.slice p1 x.params.length p2,.slice l1 x.locals.length l2,.slice b1 x.body.length b2⟩:YFv)]) r5 w10):=by
        refine⟨HS9.out.fr.trans h1,h2,?_,hra,?_,?_,?_,?_,?_,Nat.le_of_succ_le HLE.out,?_⟩
        ·rw[hl1];exact h3
        ·rw[hl1];exact h4
        ·intro g e e2
         rw[hl1]at e2;have e2:gn=g:=by injection e2
         subst e2;rcases h5 with h5|h5
         ·exact HS9.out.ap _ e h5
         ·have:=(HS9.out.ra.lt _ e).2;omega
        ·intro e
         exact absurd e (by simp)
        ·have:=HS9.out.len
         rw[hl1];omega
        ·have:=HFU.out;have:=HLR.out;have:=HL4.out;simp only[Ze]at*;omega
        ·rw[List.map_append];exact HR5.out
       have hm:cm p w10<cm p wr:=by
        rw[HI10.out.par.len,HML.out];have:=HLR.out;have:=HL4.out;simp only[Ze]at*;omega
       have HM:=Za hm;clear hq h1 h2 h3 h4 h5 h6 hl1 hra hy e2 hl5 hbs hll hpo hm hfn;go_wp2_with fail
       go_roundw
       case rel=>exact⟨g2,_,_,_,_,_,_,r5,HI10⟩
       case measure=>exact HM.out
      |_=>exact False.elim hq
   ·have hzl:¬ps.length=0:=fun e=>hz (List.length_eq_zero_iff.1 e)
    have hzI:((ps.length:Int)==0)=false:=by simp [hz]
    have hzJ:¬(ps.length:Int)=0:=by omega
    have e2:=HRES2.out;rw[if_neg (by rw[List.isEmpty_iff,List.map_eq_nil_iff];exact hz)]at e2;dsimp only at e2;have HR3:=Za e2;have HS7:=HS6;obtain⟨w7,hw7⟩:∃w7,w7=w6:=⟨_,rfl⟩;subst hw7;clear e2 hz;have hba:Below w7.heap.size w7 (w7.alloc (.cells #[.string ⟨#[40]⟩] 9)):=bA;have HS8:=Za (HS7.out.old hba);have HWN:=Za (cM p tb (u::r3) [40] _ (HS7.out.old hba).par w7.heap.size 1 ((Zc w7 [.string ⟨#[40]⟩] 9).at 0 _ rfl));clear hba;go_wp2_with fail
    refine HWN.out.mono ?_;intro e w9 he
    cases hw:aV [40] (u::r3)with
    |error n=>
     rw[hw]at he;obtain⟨hf,rfl⟩:=he;have e2:=HR3.out;rw[hw]at e2;dsimp only at e2;subst e2;have HF:=Za (HSF.out _ (HS8.out.fr.trans (AFr.of_sfr hf)));clear hw hf;unfold az;go_wp2_with fail
     exact⟨rfl,HF.out,rfl⟩
    |ok r4=>
    rw[hw]at he;obtain⟨hf,rfl,hp⟩:=he;have hl4:=bC hw;have HS9:=Za (HS8.out.next HPO.out hob hf hp (Nat.le_of_lt hl4));have e2:=HR3.out;rw[hw]at e2;dsimp only at e2;have HR4:=Za e2;have HL4:=Za hl4;clear hf hp hw e2 hl4 HWN HS8;go_upto_region 8 with(fail)
    have hbs:w.heap.size+1≤w9.heap.size:=by have:=HS9.out.fr.size;have:=HWS.out;omega
    have hll:ps.length≤1000000:=by have:=HS9.out.len;omega
    have hpo:=HPO.out;have hfn:4*r4.length+2≤g2:=by have:=HFU.out;have:=HLR.out;have:=HL4.out;simp only[Ze]at*;omega
    cases hy:dw g2 s r4 with
    |error n=>
     have e2:=HR4.out;rw[hy]at e2;dsimp only at e2;subst e2;refine wp_mono (Q:=Exit.then (Met (RY8 p tb w.heap.size (w.heap.size+1) s fa fc ps (.slice aa as0.length ac) ⟨[],[],[],[]⟩ r4 [] (some n) w9 _ _ _ _ _ _ _ _ _ _ _ _ _ _ _ _ _ _ _ _ _ _ _ _ _ _ _ _ _ _ _ _ _ _)) _) (p8 p tb w.heap.size (w.heap.size+1) s fa fc ps (.slice aa as0.length ac) ⟨[],[],[],[]⟩ r4 [] (some n) w9 HS9.out.par HS9.out.o HS9.out.rf hpo hob hbs hll (fun w1 h1=>by have h2:=lL g2 s r4 w1 p tb hfn h1;rw[hy]at h2;exact h2.mono (fun e w2 h=>⟨h.2,h.1⟩)) (fun e a' w'=> ∃n',e= .panic [{v:= .iface 110 (.agg #[.int .i64 n']),recovered:=false}]∧n=n'∧a'.defers=[]∧AFr p w.heap.size (w.heap.size+1) w9 w') (fun n' a' w' hn hd hf=>by injection hn with hn;exact⟨n',rfl,hn,hd,hf⟩) _ _ _ _ _ _ _ _ _ _ _ _ _ _ _ _ _ _ _ _ _ _ _ _ _ _ _ _ _ _ _ _ _ _ _ _ _ _ _ _ _ _ _ _ (fun _ _ q=>q) (fun _ _ q=>q)) ?_;intro e a' w' hq
     cases e with
     |normal=>
      obtain⟨_,_,_,_,_,_,nb,gn,cn,⟨_,hp,_⟩,_⟩:=(show RY8 p tb w.heap.size (w.heap.size+1) s fa fc ps (.slice aa as0.length ac) ⟨[],[],[],[]⟩ r4 [] (some n) w9 _ _ _ _ _ _ _ _ _ _ _ _ _ _ _ _ _ _ _ _ _ _ _ _ _ _ _ _ _ _ _ _ _ _ a' w' from hq);exact hp.ends.elim
     |panic ch=>
      obtain⟨n2,he,rfl,hd,hf⟩:=hq;injection he with he
      subst he;exact⟨hd,HSF.out _ (HS9.out.fr.trans hf),rfl⟩
     |_=>
      obtain⟨n2,he,_⟩:=hq
      cases he
    |ok q=>
     obtain⟨x,r5⟩:=q;have e2:=HR4.out;rw[hy]at e2;dsimp only at e2;have HR5:=Za e2;have hl5:=j6 hy;have HL5:=Za hl5;refine wp_mono (Q:=Exit.then (Met (RY8 p tb w.heap.size (w.heap.size+1) s fa fc ps (.slice aa as0.length ac) x r4 r5 none w9 _ _ _ _ _ _ _ _ _ _ _ _ _ _ _ _ _ _ _ _ _ _ _ _ _ _ _ _ _ _ _ _ _ _)) (fun _ _ _=>False)) (p8 p tb w.heap.size (w.heap.size+1) s fa fc ps (.slice aa as0.length ac) x r4 r5 none w9 HS9.out.par HS9.out.o HS9.out.rf hpo hob hbs hll (fun w1 h1=>by have h2:=lL g2 s r4 w1 p tb hfn h1;rw[hy]at h2;exact h2.mono (fun e w2 h=>by obtain⟨hf,v,rfl,hp,pv,lv,bv,rfl,i1,i2,i3⟩:=h;exact⟨pv,lv,bv,rfl,hf,hp,i1,i2,i3⟩)) (fun _ _ _=>False) (fun n' a' w' hn=>by cases hn) _ _ _ _ _ _ _ _ _ _ _ _ _ _ _ _ _ _ _ _ _ _ _ _ _ _ _ _ _ _ _ _ _ _ _ _ _ _ _ _ _ _ _ _ (fun _ _ q=>q) (fun _ _ q=>q)) ?_;intro e a' w10 hq
     cases e with
     |normal=>
      obtain⟨p1,p2,l1,l2,b1,b2,nb,gn,cn,⟨h1,h2,h3,h4,h5,h6⟩,rfl⟩:=(show RY8 p tb w.heap.size (w.heap.size+1) s fa fc ps (.slice aa as0.length ac) x r4 r5 none w9 _ _ _ _ _ _ _ _ _ _ _ _ _ _ _ _ _ _ _ _ _ _ _ _ _ _ _ _ _ _ _ _ _ _ a' w10 from hq);have hl1:(ps++[(⟨x,.slice p1 x.params.length p2,.slice l1 x.locals.length l2,.slice b1 x.body.length b2⟩:YFv)]).length=ps.length+1:=by simp
      have hra:=HS9.out.ra.gr h6 (fun g e e2=>HS9.out.ap g e e2);have HI10:Hid (PgI W p tb w.heap.size (w.heap.size+1) f R g2 aa ac as0 (some ⟨gn,0,none⟩) cn (ps++[(⟨x,.slice p1 x.params.length p2,.slice l1 x.locals.length l2,.slice b1 x.body.length b2⟩:YFv)]) r5 w10):=by
       refine⟨HS9.out.fr.trans h1,h2,?_,hra,?_,?_,?_,?_,?_,Nat.le_of_succ_le HLE.out,?_⟩
       ·rw[hl1];exact h3
       ·rw[hl1];exact h4
       ·intro g e e2
        rw[hl1]at e2;have e2:gn=g:=by injection e2
        subst e2;rcases h5 with h5|h5
        ·exact HS9.out.ap _ e h5
        ·have:=(HS9.out.ra.lt _ e).2;omega
       ·intro e
        exact absurd e (by simp)
       ·have:=HS9.out.len
        rw[hl1];omega
       ·have:=HFU.out;have:=HLR.out;have:=HL4.out;simp only[Ze]at*;omega
       ·rw[List.map_append];exact HR5.out
      have hm:cm p w10<cm p wr:=by
       rw[HI10.out.par.len,HML.out];have:=HLR.out;have:=HL4.out;simp only[Ze]at*;omega
      have HM:=Za hm;clear hq h1 h2 h3 h4 h5 h6 hl1 hra hy e2 hl5 hbs hll hpo hm hfn;go_wp2_with fail
      go_roundw
      case rel=>exact⟨g2,_,_,_,_,_,_,r5,HI10⟩
      case measure=>exact HM.out
     |_=>exact False.elim hq
section
variable {P:Program} {Q:Exit→Act→List Frame→World→Prop} {a:Act} {cs:List Frame} {w:World}
def nL(P:Program)(Q:Exit→Act→List Frame→World→Prop):List Oper→Act→List Frame→World→Prop
 |[],a,cs,w=>Q .normal a cs w
 |o::rest,a,cs,w=>o.guard=none∧match(execOp a.eval o).run P w with
  | .ok .recover w'=>(match recoverD cs with
   |some (v,cs')=>nL P Q rest (a.put o.dst v) cs' w'
   |none=>nL P Q rest (a.put o.dst .nilIface) cs w')
  |r=>o.upon P a (fun a' w'=>nL P Q rest a' cs w') (fun e a' w'=>Q e a' cs w') r
theorem wh {o:Oper}{a:Act}{K K':Act→World→Prop}{Q':Exit→Act→World→Prop}(hk:∀a w,K a w→K' a w){r:Result Next}(h:o.upon P a K Q' r):o.upon P a K' Q' r:=by
 unfold Oper.upon at h ⊢;split at h
 ·exact hk _ _ h
 ·exact hk _ _ h
 ·exact hk _ _ h
 ·refine Calls.mono h ?_
  intro e w' q
  cases e with
  |returned v=>exact hk _ _ q
  |panicked c=>exact q
  |outgrown=>exact q
 ·exact Rows.mono h (fun v w' q=>hk _ _ q)
 ·exact h
 ·exact h
theorem pO {ops:Array Oper}:∀(n k:Nat),k+n=ops.size→∀(a:Act) (cs:List Frame) (w:World),nL P Q (ops.toList.drop k) a cs w→wpOpsS P ops Q (List.range' k n) a cs w
 |0,k,hk,a,cs,w,h=>by
  rw[List.drop_of_length_le (by rw[Array.length_toList];omega)]at h;exact h
 |n+1,k,hk,a,cs,w,h=>by
  have hlt:k<ops.toList.length:=by rw[Array.length_toList];omega
  rw[List.drop_eq_getElem_cons hlt]at h;obtain⟨hg,h⟩:=h;have ho:ops[k]? =some (ops.toList[k]):=by rw[←Array.getElem?_toList,List.getElem?_eq_getElem hlt]
  have ih:=pO (ops:=ops) n (k+1) (by omega);rw[List.range'_succ,wpOpsS,ho];simp only[Region.wanted,hg,if_true];split at h
  ·rename_i w' hr
   rw[hr];dsimp only;split at h
   ·rename_i v cs' hc
    rw[hc];exact ih _ _ _ h
   ·rename_i hc
    rw[hc];exact ih _ _ _ h
  ·rename_i r hn
   split
   ·rename_i w' hr
    exact absurd hr (hn w')
   ·exact wh (fun a w q=>ih _ _ _ q) h
theorem lI {id:Nat}{ops:Array Oper}{l:List Oper}(hl:ops.toList=l)(h:nL P Q l a cs w):(Code.region id ops false).wpS P Q a cs w:=by
 apply wpS_region
 rw[List.range_eq_range'];exact pO ops.size 0 (by omega) a cs w (by rw[List.drop_zero,hl];exact h)
theorem m6 {o:Oper}{rest:List Oper}(hg:o.guard=none)(h:∀K':Act→World→Prop,(∀a w,nL P Q rest a cs w→K' a w)→o.wp P a w K' (fun e a' w'=>Q e a' cs w')):nL P Q (o::rest) a cs w:=by
 refine⟨hg,?_⟩;have h1:=h _ (fun _ _ q=>q);unfold Oper.wp at h1;split
 ·rename_i w' hr
  rw[hr]at h1;exact h1.elim
 ·exact h1
theorem uu {o:Oper}{rest:List Oper}(hg:o.guard=none)(hr:(execOp a.eval o).run P w= .ok .recover w){v:Value}{cs':List Frame}(hc:recoverD cs=some (v,cs'))(h:nL P Q rest (a.put o.dst v) cs' w):nL P Q (o::rest) a cs w:=by
 refine⟨hg,?_⟩;rw[hr];dsimp only;rw[hc];exact h
theorem vD {o:Oper}{rest:List Oper}(hg:o.guard=none)(hr:(execOp a.eval o).run P w= .ok .recover w)(hc:recoverD cs=none)(h:nL P Q rest (a.put o.dst .nilIface) cs w):nL P Q (o::rest) a cs w:=by
 refine⟨hg,?_⟩;rw[hr];dsimp only;rw[hc];exact h
end
@[go_sem] theorem assert_nil (w:World):(Instr.typeAssert .nilIface 20 110 true).run Zd w= .ok (.tuple #[.agg #[.int .i64 0],.bool false]) w:=by kernel_rfl
@[go_sem] theorem assert_wrong (v:Value) (w:World):(Instr.typeAssert (.iface 110 v) 20 110 true).run Zd w= .ok (.tuple #[v,.bool true]) w:=by kernel_rfl
def iM(n:Int):Value:= .iface 110 (.agg #[.int .i64 n])
structure VCE (b0 b1 b2 T0 T1 B:Nat)(n x1 x2:Int)(a0 a1 a2 a3 a4:Value)(W:World)(L:Nat→Bool)(z12 z13 z14:Value)(wx:World):Prop where
 ord:L 5=true→∀j,j<5→L j=true
 p4_3:L 4=true→L 3=true
 c0:L 0=true→z12= .agg #[.int .i64 0,.int .i64 0,.int .i64 0,.string ⟨#[]⟩,.slice none 0 0]
 c1:L 1=true→z13= .pointer (some ⟨T0,0,none⟩)
 c2:L 2=true→z14= .int .i64 n
 fr:Below B W wx
 o0:L 3=false→aG wx b0 [a0,a1,a2,a3,a4] 27
 o0t:L 3=true→aG wx b0 [.int .i64 0,.int .i64 0,.int .i64 0,.string ⟨#[]⟩,.slice none 0 0] 27
 o1:L 4=false→aG wx b1 [.int .i64 x1] 28
 o1t:L 4=true→aG wx b1 [.int .i64 40] 28
 o2:L 5=false→aG wx b2 [.int .i64 x2] 3
 o2t:L 5=true→aG wx b2 [.int .i64 n] 3
 wr:aG wx T0 [.int .i64 n] 110
 nn:aG wx T1 [.int .i64 0,.int .i64 0,.int .i64 0,.string ⟨#[]⟩,.slice none 0 0] 27
def ICE(b0 b1 b2 T0 T1 B:Nat)(n x1 x2:Int)(a0 a1 a2 a3 a4:Value)(W:World)(q4 q6 q7 q8 q9 q10 q11:Value)(L:Nat→Bool)(a':Act)(w':World):Prop:=
 ∃z12 z13 z14:Value,VCE b0 b1 b2 T0 T1 B n x1 x2 a0 a1 a2 a3 a4 W L z12 z13 z14 w'∧a'=⟨[.pointer (some ⟨b0,0,none⟩),.pointer (some ⟨b1,0,none⟩),.pointer (some ⟨b2,0,none⟩),.pointer (some ⟨T0,0,none⟩),q4,.pointer (some ⟨T1,0,none⟩),q6,q7,q8,q9,q10,q11,z12,z13,z14].toArray,[]⟩
def RCE(b0 b1 b2 T0 T1 B:Nat)(n x1 x2:Int)(a0 a1 a2 a3 a4:Value)(W:World)(q4 q6 q7 q8 q9 q10 q11:Value)(a':Act)(w':World):Prop:=
 (Below B W w'∧aG w' b0 [.int .i64 0,.int .i64 0,.int .i64 0,.string ⟨#[]⟩,.slice none 0 0] 27∧aG w' b1 [.int .i64 40] 28∧aG w' b2 [.int .i64 n] 3)∧a'=⟨[.pointer (some ⟨b0,0,none⟩),.pointer (some ⟨b1,0,none⟩),.pointer (some ⟨b2,0,none⟩),.pointer (some ⟨T0,0,none⟩),q4,.pointer (some ⟨T1,0,none⟩),q6,q7,q8,q9,q10,q11,.agg #[.int .i64 0,.int .i64 0,.int .i64 0,.string ⟨#[]⟩,.slice none 0 0],.pointer (some ⟨T0,0,none⟩),.int .i64 n].toArray,[]⟩
theorem reg_CE(b0 b1 b2 T0 T1 B:Nat)(n x1 x2:Int)(a0 a1 a2 a3 a4:Value)(W:World)(h0:aG W b0 [a0,a1,a2,a3,a4] 27)(h1:aG W b1 [.int .i64 x1] 28)(h2:aG W b2 [.int .i64 x2] 3)(hw:aG W T0 [.int .i64 n] 110)(hn:aG W T1 [.int .i64 0,.int .i64 0,.int .i64 0,.string ⟨#[]⟩,.slice none 0 0] 27)(h01:b0<b1)(h12:b1<b2)(h2t:b2<T0)(htt:T0<T1)(hB:B≤b0)(q4 q6 q7 q8 q9 q10 q11 q12 q13 q14:Value)(J K':Act→World→Prop)(hJ:∀a' w',RCE b0 b1 b2 T0 T1 B n x1 x2 a0 a1 a2 a3 a4 W q4 q6 q7 q8 q9 q10 q11 a' w'→J a' w')(hM:∀a' w',Met J a' w'→K' a' w'):
  Code.wp Zd ((Tryz.f57.body.bind (gZ 3)).getD .skip) (Exit.then K' (fun _ _ _=>False)) ⟨[.pointer (some ⟨b0,0,none⟩),.pointer (some ⟨b1,0,none⟩),.pointer (some ⟨b2,0,none⟩),.pointer (some ⟨T0,0,none⟩),q4,.pointer (some ⟨T1,0,none⟩),q6,q7,q8,q9,q10,q11,q12,q13,q14].toArray,[]⟩ W:=by
 have H0:=Za h0;have H1:=Za h1;have H2:=Za h2;have HW:=Za hw;have HN:=Za hn;clear h0 h1 h2 hw hn
 conv=>arg 2;whnf
 (try dsimp only);refine db (by kernel_rfl) (by kernel_rfl) (ICE b0 b1 b2 T0 T1 B n x1 x2 a0 a1 a2 a3 a4 W q4 q6 q7 q8 q9 q10 q11) ?_ ?_ ?_
 ·exact⟨q12,q13,q14,⟨(fun h=>by cases h),(fun h=>by cases h),(fun h=>by cases h),(fun h=>by cases h),(fun h=>by cases h),((Zb _ _).drew),(fun _=>H0.out.old (Zb _ _).drew),(fun h=>by cases h),(fun _=>H1.out.old (Zb _ _).drew),(fun h=>by cases h),(fun _=>H2.out.old (Zb _ _).drew),(fun h=>by cases h),(HW.out.old (Zb _ _).drew),(HN.out.old (Zb _ _).drew)⟩,rfl⟩
 ·intro L act wx k hI hk hl hd
  obtain⟨z12,z13,z14,hV,rfl⟩:=hI;have hk:k=0∨k=1∨k=2∨k=3∨k=4∨k=5:=by
   have:k<6:=hk;omega
  rcases hk with rfl|rfl|rfl|rfl|rfl|rfl
  ·have nl:=kf hV.ord hl
   have hn:=hV.nn;have n0:=hn.at 0 _ rfl;have nf0:=hn.fz 0;have n1:=hn.at 1 _ rfl;have nf1:=hn.fz 1;have n2:=hn.at 2 _ rfl;have nf2:=hn.fz 2;have n3:=hn.at 3 _ rfl;have nf3:=hn.fz 3;have n4:=hn.at 4 _ rfl;have nf4:=hn.fz 4;have nlt:=hn.lt;refine am _ rfl rfl (fun K' hK=> ?_)
   conv=>arg 2;whnf
   go_wp2_with fail
   exact⟨.agg #[.int .i64 0,.int .i64 0,.int .i64 0,.string ⟨#[]⟩,.slice none 0 0],z13,z14,⟨kl nl,kq hV.p4_3,(fun _=>rfl),kc hV.c1,kc hV.c2,hV.fr,(fun h0=>hV.o0 (kb h0)),kc hV.o0t,(fun h0=>hV.o1 (kb h0)),kc hV.o1t,(fun h0=>hV.o2 (kb h0)),kl nl,hV.wr,hV.nn⟩,rfl⟩
  ·have nl:=kf hV.ord hl
   refine am _ rfl rfl (fun K' hK=> ?_)
   conv=>arg 2;whnf
   go_wp2_with fail
   exact⟨z12,.pointer (some ⟨T0,0,none⟩),z14,⟨kl nl,kq hV.p4_3,kc hV.c0,(fun _=>rfl),kc hV.c2,hV.fr,(fun h0=>hV.o0 (kb h0)),kc hV.o0t,(fun h0=>hV.o1 (kb h0)),kc hV.o1t,(fun h0=>hV.o2 (kb h0)),kl nl,hV.wr,hV.nn⟩,rfl⟩
  ·have nl:=kf hV.ord hl
   have d1:L 1=true:=hd _ rfl ⟨1,.data⟩ (by simp) rfl;obtain rfl:=(hV.c1 d1).symm;have hw:=hV.wr;have w0:=hw.at 0 _ rfl;have wf0:=hw.fz 0;have wlt:=hw.lt;refine am _ rfl rfl (fun K' hK=> ?_)
   conv=>arg 2;whnf
   go_wp2_with fail
   exact⟨z12,.pointer (some ⟨T0,0,none⟩),.int .i64 n,⟨kl nl,kq hV.p4_3,kc hV.c0,kc hV.c1,(fun _=>rfl),hV.fr,(fun h0=>hV.o0 (kb h0)),kc hV.o0t,(fun h0=>hV.o1 (kb h0)),kc hV.o1t,(fun h0=>hV.o2 (kb h0)),kl nl,hV.wr,hV.nn⟩,rfl⟩
  ·have nl:=kf hV.ord hl
   have d0:L 0=true:=hd _ rfl ⟨0,.data⟩ (by simp) rfl;obtain rfl:=(hV.c0 d0).symm;have ho:=hV.o0 hl;have x0:=ho.at 0 _ rfl;have xf0:=ho.fz 0;have x1:=ho.at 1 _ rfl;have xf1:=ho.fz 1;have x2:=ho.at 2 _ rfl;have xf2:=ho.fz 2;have x3:=ho.at 3 _ rfl;have xf3:=ho.fz 3;have x4:=ho.at 4 _ rfl;have xf4:=ho.fz 4;have xlt:=ho.lt;refine am _ rfl rfl (fun K' hK=> ?_)
   conv=>arg 2;whnf
   go_wp2_with fail
   exact⟨.agg #[.int .i64 0,.int .i64 0,.int .i64 0,.string ⟨#[]⟩,.slice none 0 0],z13,z14,⟨kl nl,(fun _=>ak L 3),kc hV.c0,kc hV.c1,kc hV.c2,(((((hV.fr.setCell (p:=⟨b0,0,none⟩) (show B≤b0 by omega) _).setCell (p:=⟨b0,1,none⟩) (show B≤b0 by omega) _).setCell (p:=⟨b0,2,none⟩) (show B≤b0 by omega) _).setCell (p:=⟨b0,3,none⟩) (show B≤b0 by omega) _).setCell (p:=⟨b0,4,none⟩) (show B≤b0 by omega) _),(ks),(fun _=>(((((ho.set 0 (.int .i64 0)).set 1 (.int .i64 0)).set 2 (.int .i64 0)).set 3 (.string ⟨#[]⟩)).set 4 (.slice none 0 0))),(fun h=>((((((hV.o1 (kb h)).other (by omega) _ _).other (by omega) _ _).other (by omega) _ _).other (by omega) _ _).other (by omega) _ _)),(fun h=>((((((hV.o1t (kb h)).other (by omega) _ _).other (by omega) _ _).other (by omega) _ _).other (by omega) _ _).other (by omega) _ _)),(fun h=>((((((hV.o2 (kb h)).other (by omega) _ _).other (by omega) _ _).other (by omega) _ _).other (by omega) _ _).other (by omega) _ _)),kl nl,(((((hV.wr.other (by omega) _ _).other (by omega) _ _).other (by omega) _ _).other (by omega) _ _).other (by omega) _ _),(((((hV.nn.other (by omega) _ _).other (by omega) _ _).other (by omega) _ _).other (by omega) _ _).other (by omega) _ _)⟩,rfl⟩
  ·have nl:=kf hV.ord hl
   have d3:L 3=true:=hd _ rfl ⟨3,.chain⟩ (by simp) rfl;have ho:=hV.o1 hl;have x0:=ho.at 0 _ rfl;have xf0:=ho.fz 0;have xlt:=ho.lt;refine am _ rfl rfl (fun K' hK=> ?_)
   conv=>arg 2;whnf
   go_wp2_with fail
   exact⟨z12,z13,z14,⟨kl nl,(kd (d3)),kc hV.c0,kc hV.c1,kc hV.c2,(hV.fr.setCell (p:=⟨b1,0,none⟩) (show B≤b1 by omega) _),(fun h=>((hV.o0 (kb h)).other (by omega) _ _)),(fun h=>((hV.o0t (kb h)).other (by omega) _ _)),(ks),(fun _=>ho.set 0 (.int .i64 40)),(fun h=>((hV.o2 (kb h)).other (by omega) _ _)),kl nl,(hV.wr.other (by omega) _ _),(hV.nn.other (by omega) _ _)⟩,rfl⟩
  ·have before:∀j,j<5→L j=true:=fun j hj=>by
    have hj:j=0∨j=1∨j=2∨j=3∨j=4:=by omega
    rcases hj with rfl|rfl|rfl|rfl|rfl
    ·exact hd _ rfl ⟨0,.phase⟩ (by simp) rfl
    ·exact hd _ rfl ⟨1,.phase⟩ (by simp) rfl
    ·exact hd _ rfl ⟨2,.data⟩ (by simp) rfl
    ·exact hd _ rfl ⟨3,.phase⟩ (by simp) rfl
    ·exact hd _ rfl ⟨4,.chain⟩ (by simp) rfl
   have d2:L 2=true:=hd _ rfl ⟨2,.data⟩ (by simp) rfl;obtain rfl:=(hV.c2 d2).symm;have d4:L 4=true:=hd _ rfl ⟨4,.chain⟩ (by simp) rfl;have ho:=hV.o2 hl;have x0:=ho.at 0 _ rfl;have xf0:=ho.fz 0;have xlt:=ho.lt;refine am _ rfl rfl (fun K' hK=> ?_)
   conv=>arg 2;whnf
   go_wp2_with fail
   exact⟨z12,z13,.int .i64 n,⟨(fun _ j hj=>by rw[aI L (show j≠5 by omega)];exact before j hj),kq hV.p4_3,kc hV.c0,kc hV.c1,kc hV.c2,(hV.fr.setCell (p:=⟨b2,0,none⟩) (show B≤b2 by omega) _),(fun h=>by rw[aI L (by decide),before 3 (by decide)]at h;cases h),(fun h=>((hV.o0t (kb h)).other (by omega) _ _)),(fun h=>by rw[aI L (by decide),before 4 (by decide)]at h;cases h),(fun h=>((hV.o1t (kb h)).other (by omega) _ _)),(ks),(fun _=>ho.set 0 (.int .i64 n)),(hV.wr.other (by omega) _ _),(hV.nn.other (by omega) _ _)⟩,rfl⟩
 ·intro L act wx hI hall
  obtain⟨z12,z13,z14,hV,rfl⟩:=hI;obtain rfl:=(hV.c0 (hall 0 (by decide))).symm;obtain rfl:=(hV.c1 (hall 1 (by decide))).symm;obtain rfl:=(hV.c2 (hall 2 (by decide))).symm;exact hM _ _ (Met.intro (hJ _ _ ⟨⟨hV.fr,hV.o0t (hall 3 (by decide)),hV.o1t (hall 4 (by decide)),hV.o2t (hall 5 (by decide))⟩,rfl⟩))
theorem rG(b0 b1 b2:Nat)(w:World):
  CallsD Zd 57 #[.pointer (some ⟨b0,0,none⟩),.pointer (some ⟨b1,0,none⟩),.pointer (some ⟨b2,0,none⟩)] .returning w fun e u' w'=>e= .returned (.tuple #[])∧u'= .returning∧Below w.heap.size w w':=by
 refine callsD_of_wpS Tryz.func57 rfl fun c₀ cs hu=> ?_
 have hfr:(#[Value.pointer (some ⟨b0,0,none⟩),.pointer (some ⟨b1,0,none⟩),.pointer (some ⟨b2,0,none⟩)]++Array.replicate (Tryz.f57.ntmps - (#[Value.pointer (some ⟨b0,0,none⟩),.pointer (some ⟨b1,0,none⟩),.pointer (some ⟨b2,0,none⟩)]:Array Value).size) undef)= #[.pointer (some ⟨b0,0,none⟩),.pointer (some ⟨b1,0,none⟩),.pointer (some ⟨b2,0,none⟩),undef,undef,undef,undef,undef,undef,undef,undef,undef,undef,undef,undef]:=by
  rw[Tryz.ntmps57];rfl
 rw[hfr];clear hfr;apply wpS_seq
 refine lI rfl ?_;refine vD rfl ?hr ?hc ?hh
 case hc=>simp only[recoverD,hu]
 case hr=>simp [go_sem]
 case hh=>
 iterate 7
  refine m6 rfl (fun K' hK=> ?_);go_wp2_with fail
 show Code.wpS _ _ _ _ _ _
 refine wpS_of_wp ?_;go_wp2_with fail
 refine⟨rfl,.returning,by cases c₀;cases hu;rfl,.tuple #[],by simp [results,Tryz.results57],rfl,rfl,bA⟩
theorem kx(b0 b1 b2:Nat)(n x1 x2:Int)(a0 a1 a2 a3 a4:Value)(older:List PanicEntry)(B:Nat)(w:World)(h0:aG w b0 [a0,a1,a2,a3,a4] 27)(h1:aG w b1 [.int .i64 x1] 28)(h2:aG w b2 [.int .i64 x2] 3)(h01:b0<b1)(h12:b1<b2)(hB:B≤b0):
  CallsD Zd 57 #[.pointer (some ⟨b0,0,none⟩),.pointer (some ⟨b1,0,none⟩),.pointer (some ⟨b2,0,none⟩)] (.panicking ({v:=iM n,recovered:=false}::older)) w fun e u' w'=>e= .returned (.tuple #[])∧u'= .panicking ({v:=iM n,recovered:=true}::older)∧Below B w w'∧
   aG w' b0 [.int .i64 0,.int .i64 0,.int .i64 0,.string ⟨#[]⟩,.slice none 0 0] 27∧aG w' b1 [.int .i64 40] 28∧aG w' b2 [.int .i64 n] 3:=by
 refine callsD_of_wpS Tryz.func57 rfl fun c₀ cs hu=> ?_
 have hfr:(#[Value.pointer (some ⟨b0,0,none⟩),.pointer (some ⟨b1,0,none⟩),.pointer (some ⟨b2,0,none⟩)]++Array.replicate (Tryz.f57.ntmps - (#[Value.pointer (some ⟨b0,0,none⟩),.pointer (some ⟨b1,0,none⟩),.pointer (some ⟨b2,0,none⟩)]:Array Value).size) undef)= #[.pointer (some ⟨b0,0,none⟩),.pointer (some ⟨b1,0,none⟩),.pointer (some ⟨b2,0,none⟩),undef,undef,undef,undef,undef,undef,undef,undef,undef,undef,undef,undef]:=by
  rw[Tryz.ntmps57];rfl
 rw[hfr];clear hfr;apply wpS_seq
 refine lI rfl ?_;refine uu rfl ?hr (v:=iM n) (cs':= {c₀ with mode:= .panicking ({v:=iM n,recovered:=true}::older)}::cs) ?hc ?hh
 case hc=>simp only[recoverD,hu]
 case hr=>simp [go_sem]
 case hh=>
 unfold iM at*;have H0:=Za h0;have H1:=Za h1;have H2:=Za h2;clear hu h0 h1 h2
 iterate 7
  refine m6 rfl (fun K' hK=> ?_);go_wp2_with fail
 show Code.wpS _ _ _ _ _ _
 refine wpS_of_wp ?_;go_upto_region 3 with(fail)
 have hb1:Below w.heap.size w ((w.alloc (.cells #[.int .i64 n] 110)).alloc (.cells #[.int .i64 0,.int .i64 0,.int .i64 0,.string ⟨#[]⟩,.slice none 0 0] 27)):=(bA).alloc (by simp) _;have hw:=(Zc w [.int .i64 n] 110).alloc (.cells #[.int .i64 0,.int .i64 0,.int .i64 0,.string ⟨#[]⟩,.slice none 0 0] 27);have hn:=Zc (w.alloc (.cells #[.int .i64 n] 110)) [.int .i64 0,.int .i64 0,.int .i64 0,.string ⟨#[]⟩,.slice none 0 0] 27;rw[show(w.alloc (.cells #[.int .i64 n] 110)).heap.size=w.heap.size+1 by simp]at hn;have hlt:=H2.out.lt;refine wp_mono (Q:=Exit.then (Met (RCE b0 b1 b2 w.heap.size (w.heap.size+1) B n x1 x2 a0 a1 a2 a3 a4 _ _ _ _ _ _ _ _)) (fun _ _ _=>False)) (reg_CE b0 b1 b2 w.heap.size (w.heap.size+1) B n x1 x2 a0 a1 a2 a3 a4 _ (H0.out.old hb1) (H1.out.old hb1) (H2.out.old hb1) hw hn h01 h12 hlt (Nat.lt_succ_self _) hB _ _ _ _ _ _ _ _ _ _ _ _ (fun _ _ q=>q) (fun _ _ q=>q)) ?_;intro e a' w' hq
 cases e with
 |normal=>
  obtain⟨⟨g0,g1,g2,g3⟩,rfl⟩:=(show RCE b0 b1 b2 w.heap.size (w.heap.size+1) B n x1 x2 a0 a1 a2 a3 a4 _ _ _ _ _ _ _ _ a' w' from hq);exact⟨rfl,_,rfl,.tuple #[],by simp [results,Tryz.results57],rfl,rfl,(hb1.mono (by omega)).trans g0,g1,g2,g3⟩
 |_=>exact False.elim hq
structure VCP (b0 b1 b2 T0 T1 B:Nat)(n x1 x2:Int)(a0 a1:Value)(W:World)(L:Nat→Bool)(z12 z13 z14:Value)(wx:World):Prop where
 ord:L 5=true→∀j,j<5→L j=true
 p4_3:L 4=true→L 3=true
 c0:L 0=true→z12= .agg #[.slice none 0 0,.slice none 0 0]
 c1:L 1=true→z13= .pointer (some ⟨T0,0,none⟩)
 c2:L 2=true→z14= .int .i64 n
 fr:Below B W wx
 o0:L 3=false→aG wx b0 [a0,a1] 34
 o0t:L 3=true→aG wx b0 [.slice none 0 0,.slice none 0 0] 34
 o1:L 4=false→aG wx b1 [.int .i64 x1] 28
 o1t:L 4=true→aG wx b1 [.int .i64 40] 28
 o2:L 5=false→aG wx b2 [.int .i64 x2] 3
 o2t:L 5=true→aG wx b2 [.int .i64 n] 3
 wr:aG wx T0 [.int .i64 n] 110
 nn:aG wx T1 [.slice none 0 0,.slice none 0 0] 34
def ICP(b0 b1 b2 T0 T1 B:Nat)(n x1 x2:Int)(a0 a1:Value)(W:World)(q4 q6 q7 q8 q9 q10 q11:Value)(L:Nat→Bool)(a':Act)(w':World):Prop:=
 ∃z12 z13 z14:Value,VCP b0 b1 b2 T0 T1 B n x1 x2 a0 a1 W L z12 z13 z14 w'∧a'=⟨[.pointer (some ⟨b0,0,none⟩),.pointer (some ⟨b1,0,none⟩),.pointer (some ⟨b2,0,none⟩),.pointer (some ⟨T0,0,none⟩),q4,.pointer (some ⟨T1,0,none⟩),q6,q7,q8,q9,q10,q11,z12,z13,z14].toArray,[]⟩
def RCP(b0 b1 b2 T0 T1 B:Nat)(n x1 x2:Int)(a0 a1:Value)(W:World)(q4 q6 q7 q8 q9 q10 q11:Value)(a':Act)(w':World):Prop:=
 (Below B W w'∧aG w' b0 [.slice none 0 0,.slice none 0 0] 34∧aG w' b1 [.int .i64 40] 28∧aG w' b2 [.int .i64 n] 3)∧a'=⟨[.pointer (some ⟨b0,0,none⟩),.pointer (some ⟨b1,0,none⟩),.pointer (some ⟨b2,0,none⟩),.pointer (some ⟨T0,0,none⟩),q4,.pointer (some ⟨T1,0,none⟩),q6,q7,q8,q9,q10,q11,.agg #[.slice none 0 0,.slice none 0 0],.pointer (some ⟨T0,0,none⟩),.int .i64 n].toArray,[]⟩
theorem reg_CP(b0 b1 b2 T0 T1 B:Nat)(n x1 x2:Int)(a0 a1:Value)(W:World)(h0:aG W b0 [a0,a1] 34)(h1:aG W b1 [.int .i64 x1] 28)(h2:aG W b2 [.int .i64 x2] 3)(hw:aG W T0 [.int .i64 n] 110)(hn:aG W T1 [.slice none 0 0,.slice none 0 0] 34)(h01:b0<b1)(h12:b1<b2)(h2t:b2<T0)(htt:T0<T1)(hB:B≤b0)(q4 q6 q7 q8 q9 q10 q11 q12 q13 q14:Value)(J K':Act→World→Prop)(hJ:∀a' w',RCP b0 b1 b2 T0 T1 B n x1 x2 a0 a1 W q4 q6 q7 q8 q9 q10 q11 a' w'→J a' w')(hM:∀a' w',Met J a' w'→K' a' w'):
  Code.wp Zd ((Tryz.f63.body.bind (gZ 3)).getD .skip) (Exit.then K' (fun _ _ _=>False)) ⟨[.pointer (some ⟨b0,0,none⟩),.pointer (some ⟨b1,0,none⟩),.pointer (some ⟨b2,0,none⟩),.pointer (some ⟨T0,0,none⟩),q4,.pointer (some ⟨T1,0,none⟩),q6,q7,q8,q9,q10,q11,q12,q13,q14].toArray,[]⟩ W:=by
 have H0:=Za h0;have H1:=Za h1;have H2:=Za h2;have HW:=Za hw;have HN:=Za hn;clear h0 h1 h2 hw hn
 conv=>arg 2;whnf
 (try dsimp only);refine db (by kernel_rfl) (by kernel_rfl) (ICP b0 b1 b2 T0 T1 B n x1 x2 a0 a1 W q4 q6 q7 q8 q9 q10 q11) ?_ ?_ ?_
 ·exact⟨q12,q13,q14,⟨(fun h=>by cases h),(fun h=>by cases h),(fun h=>by cases h),(fun h=>by cases h),(fun h=>by cases h),((Zb _ _).drew),(fun _=>H0.out.old (Zb _ _).drew),(fun h=>by cases h),(fun _=>H1.out.old (Zb _ _).drew),(fun h=>by cases h),(fun _=>H2.out.old (Zb _ _).drew),(fun h=>by cases h),(HW.out.old (Zb _ _).drew),(HN.out.old (Zb _ _).drew)⟩,rfl⟩
 ·intro L act wx k hI hk hl hd
  obtain⟨z12,z13,z14,hV,rfl⟩:=hI;have hk:k=0∨k=1∨k=2∨k=3∨k=4∨k=5:=by
   have:k<6:=hk;omega
  rcases hk with rfl|rfl|rfl|rfl|rfl|rfl
  ·have nl:=kf hV.ord hl
   have hn:=hV.nn;have n0:=hn.at 0 _ rfl;have nf0:=hn.fz 0;have n1:=hn.at 1 _ rfl;have nf1:=hn.fz 1;have nlt:=hn.lt;refine am _ rfl rfl (fun K' hK=> ?_)
   conv=>arg 2;whnf
   go_wp2_with fail
   exact⟨.agg #[.slice none 0 0,.slice none 0 0],z13,z14,⟨kl nl,kq hV.p4_3,(fun _=>rfl),kc hV.c1,kc hV.c2,hV.fr,(fun h0=>hV.o0 (kb h0)),kc hV.o0t,(fun h0=>hV.o1 (kb h0)),kc hV.o1t,(fun h0=>hV.o2 (kb h0)),kl nl,hV.wr,hV.nn⟩,rfl⟩
  ·have nl:=kf hV.ord hl
   refine am _ rfl rfl (fun K' hK=> ?_)
   conv=>arg 2;whnf
   go_wp2_with fail
   exact⟨z12,.pointer (some ⟨T0,0,none⟩),z14,⟨kl nl,kq hV.p4_3,kc hV.c0,(fun _=>rfl),kc hV.c2,hV.fr,(fun h0=>hV.o0 (kb h0)),kc hV.o0t,(fun h0=>hV.o1 (kb h0)),kc hV.o1t,(fun h0=>hV.o2 (kb h0)),kl nl,hV.wr,hV.nn⟩,rfl⟩
  ·have nl:=kf hV.ord hl
   have d1:L 1=true:=hd _ rfl ⟨1,.data⟩ (by simp) rfl;obtain rfl:=(hV.c1 d1).symm;have hw:=hV.wr;have w0:=hw.at 0 _ rfl;have wf0:=hw.fz 0;have wlt:=hw.lt;refine am _ rfl rfl (fun K' hK=> ?_)
   conv=>arg 2;whnf
   go_wp2_with fail
   exact⟨z12,.pointer (some ⟨T0,0,none⟩),.int .i64 n,⟨kl nl,kq hV.p4_3,kc hV.c0,kc hV.c1,(fun _=>rfl),hV.fr,(fun h0=>hV.o0 (kb h0)),kc hV.o0t,(fun h0=>hV.o1 (kb h0)),kc hV.o1t,(fun h0=>hV.o2 (kb h0)),kl nl,hV.wr,hV.nn⟩,rfl⟩
  ·have nl:=kf hV.ord hl
   have d0:L 0=true:=hd _ rfl ⟨0,.data⟩ (by simp) rfl;obtain rfl:=(hV.c0 d0).symm;have ho:=hV.o0 hl;have x0:=ho.at 0 _ rfl;have xf0:=ho.fz 0;have x1:=ho.at 1 _ rfl;have xf1:=ho.fz 1;have xlt:=ho.lt;refine am _ rfl rfl (fun K' hK=> ?_)
   conv=>arg 2;whnf
   go_wp2_with fail
   exact⟨.agg #[.slice none 0 0,.slice none 0 0],z13,z14,⟨kl nl,(fun _=>ak L 3),kc hV.c0,kc hV.c1,kc hV.c2,((hV.fr.setCell (p:=⟨b0,0,none⟩) (show B≤b0 by omega) _).setCell (p:=⟨b0,1,none⟩) (show B≤b0 by omega) _),(ks),(fun _=>((ho.set 0 (.slice none 0 0)).set 1 (.slice none 0 0))),(fun h=>(((hV.o1 (kb h)).other (by omega) _ _).other (by omega) _ _)),(fun h=>(((hV.o1t (kb h)).other (by omega) _ _).other (by omega) _ _)),(fun h=>(((hV.o2 (kb h)).other (by omega) _ _).other (by omega) _ _)),kl nl,((hV.wr.other (by omega) _ _).other (by omega) _ _),((hV.nn.other (by omega) _ _).other (by omega) _ _)⟩,rfl⟩
  ·have nl:=kf hV.ord hl
   have d3:L 3=true:=hd _ rfl ⟨3,.chain⟩ (by simp) rfl;have ho:=hV.o1 hl;have x0:=ho.at 0 _ rfl;have xf0:=ho.fz 0;have xlt:=ho.lt;refine am _ rfl rfl (fun K' hK=> ?_)
   conv=>arg 2;whnf
   go_wp2_with fail
   exact⟨z12,z13,z14,⟨kl nl,(kd (d3)),kc hV.c0,kc hV.c1,kc hV.c2,(hV.fr.setCell (p:=⟨b1,0,none⟩) (show B≤b1 by omega) _),(fun h=>((hV.o0 (kb h)).other (by omega) _ _)),(fun h=>((hV.o0t (kb h)).other (by omega) _ _)),(ks),(fun _=>ho.set 0 (.int .i64 40)),(fun h=>((hV.o2 (kb h)).other (by omega) _ _)),kl nl,(hV.wr.other (by omega) _ _),(hV.nn.other (by omega) _ _)⟩,rfl⟩
  ·have before:∀j,j<5→L j=true:=fun j hj=>by
    have hj:j=0∨j=1∨j=2∨j=3∨j=4:=by omega
    rcases hj with rfl|rfl|rfl|rfl|rfl
    ·exact hd _ rfl ⟨0,.phase⟩ (by simp) rfl
    ·exact hd _ rfl ⟨1,.phase⟩ (by simp) rfl
    ·exact hd _ rfl ⟨2,.data⟩ (by simp) rfl
    ·exact hd _ rfl ⟨3,.phase⟩ (by simp) rfl
    ·exact hd _ rfl ⟨4,.chain⟩ (by simp) rfl
   have d2:L 2=true:=hd _ rfl ⟨2,.data⟩ (by simp) rfl;obtain rfl:=(hV.c2 d2).symm;have d4:L 4=true:=hd _ rfl ⟨4,.chain⟩ (by simp) rfl;have ho:=hV.o2 hl;have x0:=ho.at 0 _ rfl;have xf0:=ho.fz 0;have xlt:=ho.lt;refine am _ rfl rfl (fun K' hK=> ?_)
   conv=>arg 2;whnf
   go_wp2_with fail
   exact⟨z12,z13,.int .i64 n,⟨(fun _ j hj=>by rw[aI L (show j≠5 by omega)];exact before j hj),kq hV.p4_3,kc hV.c0,kc hV.c1,kc hV.c2,(hV.fr.setCell (p:=⟨b2,0,none⟩) (show B≤b2 by omega) _),(fun h=>by rw[aI L (by decide),before 3 (by decide)]at h;cases h),(fun h=>((hV.o0t (kb h)).other (by omega) _ _)),(fun h=>by rw[aI L (by decide),before 4 (by decide)]at h;cases h),(fun h=>((hV.o1t (kb h)).other (by omega) _ _)),(ks),(fun _=>ho.set 0 (.int .i64 n)),(hV.wr.other (by omega) _ _),(hV.nn.other (by omega) _ _)⟩,rfl⟩
 ·intro L act wx hI hall
  obtain⟨z12,z13,z14,hV,rfl⟩:=hI;obtain rfl:=(hV.c0 (hall 0 (by decide))).symm;obtain rfl:=(hV.c1 (hall 1 (by decide))).symm;obtain rfl:=(hV.c2 (hall 2 (by decide))).symm;exact hM _ _ (Met.intro (hJ _ _ ⟨⟨hV.fr,hV.o0t (hall 3 (by decide)),hV.o1t (hall 4 (by decide)),hV.o2t (hall 5 (by decide))⟩,rfl⟩))
theorem rg(b0 b1 b2:Nat)(w:World):
  CallsD Zd 63 #[.pointer (some ⟨b0,0,none⟩),.pointer (some ⟨b1,0,none⟩),.pointer (some ⟨b2,0,none⟩)] .returning w fun e u' w'=>e= .returned (.tuple #[])∧u'= .returning∧Below w.heap.size w w':=by
 refine callsD_of_wpS Tryz.func63 rfl fun c₀ cs hu=> ?_
 have hfr:(#[Value.pointer (some ⟨b0,0,none⟩),.pointer (some ⟨b1,0,none⟩),.pointer (some ⟨b2,0,none⟩)]++Array.replicate (Tryz.f63.ntmps - (#[Value.pointer (some ⟨b0,0,none⟩),.pointer (some ⟨b1,0,none⟩),.pointer (some ⟨b2,0,none⟩)]:Array Value).size) undef)= #[.pointer (some ⟨b0,0,none⟩),.pointer (some ⟨b1,0,none⟩),.pointer (some ⟨b2,0,none⟩),undef,undef,undef,undef,undef,undef,undef,undef,undef,undef,undef,undef]:=by
  rw[Tryz.ntmps63];rfl
 rw[hfr];clear hfr;apply wpS_seq
 refine lI rfl ?_;refine vD rfl ?hr ?hc ?hh
 case hc=>simp only[recoverD,hu]
 case hr=>simp [go_sem]
 case hh=>
 iterate 7
  refine m6 rfl (fun K' hK=> ?_);go_wp2_with fail
 show Code.wpS _ _ _ _ _ _
 refine wpS_of_wp ?_;go_wp2_with fail
 refine⟨rfl,.returning,by cases c₀;cases hu;rfl,.tuple #[],by simp [results,Tryz.results63],rfl,rfl,bA⟩
theorem kZ(b0 b1 b2:Nat)(n x1 x2:Int)(a0 a1:Value)(older:List PanicEntry)(B:Nat)(w:World)(h0:aG w b0 [a0,a1] 34)(h1:aG w b1 [.int .i64 x1] 28)(h2:aG w b2 [.int .i64 x2] 3)(h01:b0<b1)(h12:b1<b2)(hB:B≤b0):
  CallsD Zd 63 #[.pointer (some ⟨b0,0,none⟩),.pointer (some ⟨b1,0,none⟩),.pointer (some ⟨b2,0,none⟩)] (.panicking ({v:=iM n,recovered:=false}::older)) w fun e u' w'=>e= .returned (.tuple #[])∧u'= .panicking ({v:=iM n,recovered:=true}::older)∧Below B w w'∧
   aG w' b0 [.slice none 0 0,.slice none 0 0] 34∧aG w' b1 [.int .i64 40] 28∧aG w' b2 [.int .i64 n] 3:=by
 refine callsD_of_wpS Tryz.func63 rfl fun c₀ cs hu=> ?_
 have hfr:(#[Value.pointer (some ⟨b0,0,none⟩),.pointer (some ⟨b1,0,none⟩),.pointer (some ⟨b2,0,none⟩)]++Array.replicate (Tryz.f63.ntmps - (#[Value.pointer (some ⟨b0,0,none⟩),.pointer (some ⟨b1,0,none⟩),.pointer (some ⟨b2,0,none⟩)]:Array Value).size) undef)= #[.pointer (some ⟨b0,0,none⟩),.pointer (some ⟨b1,0,none⟩),.pointer (some ⟨b2,0,none⟩),undef,undef,undef,undef,undef,undef,undef,undef,undef,undef,undef,undef]:=by
  rw[Tryz.ntmps63];rfl
 rw[hfr];clear hfr;apply wpS_seq
 refine lI rfl ?_;refine uu rfl ?hr (v:=iM n) (cs':= {c₀ with mode:= .panicking ({v:=iM n,recovered:=true}::older)}::cs) ?hc ?hh
 case hc=>simp only[recoverD,hu]
 case hr=>simp [go_sem]
 case hh=>
 unfold iM at*;have H0:=Za h0;have H1:=Za h1;have H2:=Za h2;clear hu h0 h1 h2
 iterate 7
  refine m6 rfl (fun K' hK=> ?_);go_wp2_with fail
 show Code.wpS _ _ _ _ _ _
 refine wpS_of_wp ?_;go_upto_region 3 with(fail)
 have hb1:Below w.heap.size w ((w.alloc (.cells #[.int .i64 n] 110)).alloc (.cells #[.slice none 0 0,.slice none 0 0] 34)):=(bA).alloc (by simp) _;have hw:=(Zc w [.int .i64 n] 110).alloc (.cells #[.slice none 0 0,.slice none 0 0] 34);have hn:=Zc (w.alloc (.cells #[.int .i64 n] 110)) [.slice none 0 0,.slice none 0 0] 34;rw[show(w.alloc (.cells #[.int .i64 n] 110)).heap.size=w.heap.size+1 by simp]at hn;have hlt:=H2.out.lt;refine wp_mono (Q:=Exit.then (Met (RCP b0 b1 b2 w.heap.size (w.heap.size+1) B n x1 x2 a0 a1 _ _ _ _ _ _ _ _)) (fun _ _ _=>False)) (reg_CP b0 b1 b2 w.heap.size (w.heap.size+1) B n x1 x2 a0 a1 _ (H0.out.old hb1) (H1.out.old hb1) (H2.out.old hb1) hw hn h01 h12 hlt (Nat.lt_succ_self _) hB _ _ _ _ _ _ _ _ _ _ _ _ (fun _ _ q=>q) (fun _ _ q=>q)) ?_;intro e a' w' hq
 cases e with
 |normal=>
  obtain⟨⟨g0,g1,g2,g3⟩,rfl⟩:=(show RCP b0 b1 b2 w.heap.size (w.heap.size+1) B n x1 x2 a0 a1 _ _ _ _ _ _ _ _ a' w' from hq);exact⟨rfl,_,rfl,.tuple #[],by simp [results,Tryz.results63],rfl,rfl,(hb1.mono (by omega)).trans g0,g1,g2,g3⟩
 |_=>exact False.elim hq
end Go.Proofs.YtcfpfnoldgnloaaGreatDoor
