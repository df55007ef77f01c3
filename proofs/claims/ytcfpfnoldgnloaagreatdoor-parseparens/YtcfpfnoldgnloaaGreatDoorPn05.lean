/-
  simple, at every list of tokens. Conditions: the parser lies in memory.
-/
import Derived.Test.YtcfpfnoldgnloaaGreatDoorPn04
set_option linter.unusedVariables false
set_option linter.unusedSimpArgs false
namespace Go.Proofs.YtcfpfnoldgnloaaGreatDoor
open Go.RowKit
set_option maxHeartbeats 20000000
set_option maxRecDepth 100000
open Go.Lib renaming hid→Za
open SFr renaming of_below→Zb
open Go.Proofs.Tryz renaming prog→Zc,func204→Zf,ntmps204→Zg,results204→Zh
open Ac renaming new→Zd
open List renaming length_cons→Ze
open Bn renaming zero→Zi
def Ym(g:Nat)(a:List Ex)(l:List Tk):PR (List Ex):=match Bk [44] l with
 |some r=>Gb g a r
 |none=>match Ak [41] l with
  | .error e=> .error e
  | .ok r=> .ok (a,r)
theorem Qy {g:Nat}{a:List Ex}{l r:List Tk}{x:Ex}(h:Aq g 1 l= .ok (x,r)):Gb (g+1) a l=Ym g (a++[x]) r:=by
 rw[Gb,h];rfl
theorem Ve {g:Nat}{a:List Ex}{l:List Tk}{n:Int}(h:Aq g 1 l= .error n):Gb (g+1) a l= .error n:=by
 rw[Gb,h]
def Se(W:World)(p tb cb ob base:Nat)(R:PR (List Ex))(e:Ending)(w':World):Prop:=
 match R with
 | .ok (a,r)=>e= .returned (.tuple #[])∧∃va vc ps,ps.map (·.1)=a∧Eo W p tb cb ob base va vc ps r w'
 | .error n=>e=Ay n∧AFr p ob base W w'
def bU(ob cb:Nat):Value:= .func (.func 224) #[] #[.pointer (some ⟨ob,0,none⟩),.pointer (some ⟨cb,0,none⟩)]
theorem Va(f:Nat)(w:World)(p tb cb ob base:Nat)(t:Tk)(r:List Tk)(hn:Jw p cb ob base w)(h:Eo w p tb cb ob base none 0 [] (t::r) w)(y:isP [41] t=true):
  Calls Zc 125 #[.pointer (some ⟨p,0,none⟩),bU ob cb] w (Se w p tb cb ob base (Ei (f+1) (t::r))):=by
 have e1:Ei (f+1) (t::r)= .ok ([],r):=by rw[Ei,Ao y]
 rw[e1];have HT:=Za (Bc p tb t r [41] w h.par y);have HA:=Za h;have HN:=Za hn;clear e1 y h hn;unfold bU;go_enter Tryz.func125,Tryz.ntmps125
 go_wp2_with fail
 refine HT.out.mono ?_;rintro e w1 ⟨rfl,hf,hp⟩;have HA1:=Za (HA.out.next HN.out hf hp (by simp));clear hf hp;go_wp2_with fail
 first
  |(refine bodyPost_ret (results_none rfl _ _ _) rfl ?_)
  |go_end0
 exact⟨rfl,none,0,[],rfl,HA1.out⟩
structure dX (w:World)(p tb cb ob base:Nat)(f:Nat)(R:PR (List Ex))(g:Nat)(va:Option Addr)(vc:Nat)(ps:List (Ex ×Value))(l:List Tk)(wr:World):Prop where
 arg:Eo w p tb cb ob base va vc ps l wr
 le:g≤f
 fuel:4*l.length+2≤g
 res:Ym g (ps.map (·.1)) l=R
theorem Sw(f:Nat)(ih:∀g,g≤f→Jo g)(w:World)(p tb cb ob base:Nat)(t:Tk)(r:List Tk)(hn:Jw p cb ob base w)(h:Eo w p tb cb ob base none 0 [] (t::r) w)(hl:4*(t::r).length+4≤f+1)(n:isP [41] t=false):
  Calls Zc 125 #[.pointer (some ⟨p,0,none⟩),bU ob cb] w (Se w p tb cb ob base (Ei (f+1) (t::r))):=by
 have e1:Ei (f+1) (t::r)=Gb f [] (t::r):=by rw[Ei,Ad n]
 rw[e1];obtain⟨g,rfl⟩:∃g,f=g+1:=⟨f - 1,by omega⟩;obtain⟨R,hR⟩:∃R,Gb (g+1) [] (t::r)=R:=⟨_,rfl⟩;rw[hR];have HR:=Za hR;have HT:=Za (Ai p tb t r [41] w h.par n);have HA:=Za h;have HN:=Za hn;have HFU:=Za hl;have IH:=Za ih;clear e1 n h hn hR hl ih;unfold bU;go_enter Tryz.func125,Tryz.ntmps125
 go_wp2_with fail
 refine HT.out.mono ?_;rintro e w1 ⟨rfl,hb⟩;have HA1:=Za (HA.out.old hb);clear hb;have HX:Hid (∀g',g'≤g+1→∀(va:Option Addr) (vc:Nat) (ps:List (Ex ×Value)) (l:List Tk) (wx:World),Eo w p tb cb ob base va vc ps l wx→4*l.length+2≤g'→(∀n,Aq g' 1 l= .error n→Calls Zc 224 #[.pointer (some ⟨ob,0,none⟩),.pointer (some ⟨cb,0,none⟩)] wx fun e w'=>e=Ay n∧AFr p ob base w w')∧
   (∀x q,Aq g' 1 l= .ok (x,q)→Calls Zc 224 #[.pointer (some ⟨ob,0,none⟩),.pointer (some ⟨cb,0,none⟩)] wx fun e w'=>e= .returned (.tuple #[])∧∃sa sc gn cn,Eo w p tb cb ob base (some ⟨gn,0,none⟩) cn (ps++[(x,.slice sa x.args.length sc)]) q w')):=
  fun g' hg va vc ps l wx ha hl=>⟨fun n hx=>aF g' (IH.out g' hg) w wx p tb cb ob base va vc ps l n HN.out ha hl hx,fun x q hx=>dP g' (IH.out g' hg) w wx p tb cb ob base va vc ps l q x HN.out ha hl hx⟩
 go_wp2_with fail
 cases hc:Aq g 1 (t::r)with
 |error n=>
  have hq:=(HX.out g (by omega) none 0 [] (t::r) w1 HA1.out (by have:=HFU.out;omega)).1 n hc;have e2:=HR.out;rw[Ve hc]at e2;subst e2;clear hc;refine hq.mono ?_;rintro e w2 ⟨rfl,hf⟩;have HF:=Za hf;clear hf;unfold Ay;go_wp2_with fail
  exact⟨rfl,rfl,HF.out⟩
 |ok q=>
  obtain⟨x,q⟩:=q;have hq:=(HX.out g (by omega) none 0 [] (t::r) w1 HA1.out (by have:=HFU.out;omega)).2 x q hc;have e2:=HR.out;rw[Qy hc]at e2;have hlen:=(Db g).1 _ _ _ _ hc;refine hq.mono ?_;rintro e w2 ⟨rfl,sa,sc,gn,cn,ha⟩;have HI0:Hid (dX w p tb cb ob base (g+1) R g (some ⟨gn,0,none⟩) cn [(x,.slice sa x.args.length sc)] q w2):=⟨ha,by omega,by have:=HFU.out;omega,e2⟩;clear ha hc hlen e2;go_wp2_with fail
  go_loopw [] (fun wr=> ∃(g':Nat) (va:Option Addr) (vc:Nat) (ps:List (Ex ×Value)) (l:List Tk),Hid (dX w p tb cb ob base (g+1) R g' va vc ps l wr)) (fun wr=>Cn p wr)
  case atStart=>exact⟨g,_,_,_,q,HI0⟩
  case round=>
   obtain⟨g',va,vc,ps,l,HI⟩:=hrel;clear HI0;obtain⟨u,l,rfl⟩:=HI.out.arg.par.ends.ne
   cases hu:isP [44] u with
   |true=>
    have HTK:=Za (Bc p tb u l [44] wr HI.out.arg.par hu);have hres:Gb g' (ps.map (·.1)) l=R:=by
     have:=HI.out.res;unfold Ym at this;rw[Ao hu]at this;exact this
    clear hu;go_wp2_with fail
    refine HTK.out.mono ?_;rintro e w3 ⟨rfl,hf,hp⟩;have HA3:=Za (HI.out.arg.next HN.out hf hp (by simp));clear hf hp;obtain⟨g2,hg2⟩:∃g2,g'=g2+1:=⟨g' - 1,by have:=HI.out.fuel;omega⟩;subst hg2;have hfu:=HI.out.fuel;rw[Ze]at hfu;have hle:=HI.out.le;go_wp2_with fail
    cases hc:Aq g2 1 l with
    |error n=>
     have hq:=(HX.out g2 (by omega) va vc ps l w3 HA3.out (by omega)).1 n hc;rw[Ve hc]at hres;subst hres;clear hc;refine hq.mono ?_;rintro e w4 ⟨rfl,hf⟩;have HF:=Za hf;clear hf;unfold Ay;go_wp2_with fail
     exact⟨rfl,rfl,HF.out⟩
    |ok q2=>
     obtain⟨y,q2⟩:=q2;have hq:=(HX.out g2 (by omega) va vc ps l w3 HA3.out (by omega)).2 y q2 hc;rw[Qy hc]at hres;have hlen:=(Db g2).1 _ _ _ _ hc;refine hq.mono ?_;rintro e w4 ⟨rfl,sa2,sc2,gn2,cn2,ha⟩;have HI4:Hid (dX w p tb cb ob base (g+1) R g2 (some ⟨gn2,0,none⟩) cn2 (ps++[(y,.slice sa2 y.args.length sc2)]) q2 w4):=⟨ha,by omega,by omega,by rw[List.map_append];exact hres⟩;have hm:Cn p w4<Cn p wr:=by
      rw[HI4.out.arg.par.len,HI.out.arg.par.len,Ze];omega
     have HM:=Za hm;clear ha hc hlen hres hm hfu hle hq;go_wp2_with fail
     go_roundw
     case rel=>exact⟨g2,_,_,_,q2,HI4⟩
     case measure=>exact HM.out
   |false=>
    have HTK:=Za (Ai p tb u l [44] wr HI.out.arg.par hu);have hres:(match Ak [41] (u::l)with| .error e=> .error e| .ok r=> .ok (ps.map (·.1),r))=R:=by
     have:=HI.out.res;unfold Ym at this;rw[Ad hu]at this;exact this
    clear hu;go_wp2_with fail
    refine HTK.out.mono ?_;rintro e w3 ⟨rfl,hb⟩;have HA3:=Za (HI.out.arg.old hb);have hba:Below w3.heap.size w3 (w3.alloc (.cells #[.string ⟨#[41]⟩] 9)):=bA;have HA4:=Za (HA3.out.old hba);have HWN:=Za (Cd p tb (u::l) [41] _ HA4.out.par w3.heap.size 1 ((Zd w3 [.string ⟨#[41]⟩] 9).at 0 _ rfl));clear hb hba;go_wp2_with fail
    refine HWN.out.mono ?_;intro e w5 he
    cases hw:Ak [41] (u::l)with
    |error n=>
     rw[hw]at he hres;obtain⟨hf,rfl⟩:=he;have HF:=Za (HA4.out.fr.trans (AFr.of_sfr hf));dsimp only at hres;subst hres;clear hf hw;unfold Ay;go_wp2_with fail
     exact⟨rfl,rfl,HF.out⟩
    |ok q3=>
     rw[hw]at he hres;obtain⟨hf,rfl,hp⟩:=he;have HA5:=Za (HA4.out.next HN.out hf hp (Nat.le_of_lt (Az hw)));dsimp only at hres;subst hres;clear hf hw hp;go_wp2_with fail
     first
      |go_end0
      |(refine bodyPost_ret (results_none rfl _ _ _) rfl ?_)
     exact⟨rfl,va,vc,ps,rfl,HA5.out⟩
theorem bF(f:Nat)(ih:∀g,g≤f→Jo g):Un (f+1):=by
 intro l w p tb hl h;have hmf:∀(fn:Fn) (first cap:Array Value) (w:World),(Instr.makeFunc fn first cap).run Zc w= .ok (.func fn first cap) w:=fun _ _ _ _=>rfl
 have hb1:Below w.heap.size w ((w.alloc (.cells #[.pointer (some ⟨p,0,none⟩)] 64)).alloc (.cells #[.slice none 0 0] 25)):=(bA).alloc (by simp) _;have hc1:=(Zd w [.pointer (some ⟨p,0,none⟩)] 64).alloc (.cells #[.slice none 0 0] 25);have ho1:=Zd (w.alloc (.cells #[.pointer (some ⟨p,0,none⟩)] 64)) [.slice none 0 0] 25;rw[show(w.alloc (.cells #[.pointer (some ⟨p,0,none⟩)] 64)).heap.size=w.heap.size+1 by simp]at ho1;have hp1:=h.old hb1;have hlen:l.length≤1000000:=by obtain⟨_,_,h2⟩:=h;exact h2.fit
 have HB:=Za hb1;have hpl:=h.lt;obtain⟨W,hW⟩:∃W,(w.alloc (.cells #[.pointer (some ⟨p,0,none⟩)] 64)).alloc (.cells #[.slice none 0 0] 25)=W:=⟨_,rfl⟩;have hws:W.heap.size=w.heap.size+2:=by rw[←hW];simp
 rw[hW]at hc1 ho1 hp1 HB;have hno:Jw p w.heap.size (w.heap.size+1) (w.heap.size+2) W:=⟨hpl,by omega,by omega,by omega⟩;have hat:Eo W p tb w.heap.size (w.heap.size+1) (w.heap.size+2) none 0 [] l W:=⟨AFr.refl _ _ _ _,hp1,hc1,ho1,Bi.zero _ _,by simpa using hlen⟩;have key:Calls Zc 125 #[.pointer (some ⟨p,0,none⟩),bU (w.heap.size+1) w.heap.size] W (Se W p tb w.heap.size (w.heap.size+1) (w.heap.size+2) (Ei (f+1) l)):=by
  obtain⟨t,r,rfl⟩:=hp1.ends.ne
  cases y:isP [41] t with
  |true=>exact Va f W p tb _ _ _ t r hno hat y
  |false=>exact Sw f ih W p tb _ _ _ t r hno hat hl y
 have HK:=Za key;have HPL:=Za hpl;have HLN:=Za hlen;have HWS:=Za hws;have hc0:=hc1.at 0 _ rfl;have HPS:=Za h;have hwl:w.heap.size<W.heap.size:=by omega
 clear key hno hat hp1 hb1 hc1 ho1 h hlen hpl hws;unfold bU at HK;obtain⟨R,hR⟩:∃R,Ei (f+1) l=R:=⟨_,rfl⟩;rw[hR]at HK ⊢;have HRR:=Za hR;clear hR;go_enter Tryz.func201,Tryz.ntmps201
 go_upto_region 1 with(fail)
 clear hW;go_wp2_with fail
 refine HK.out.mono ?_;intro e w1 he
 cases R with
 |error n=>
  obtain⟨rfl,hf⟩:=he;have HF:Hid (SFr p w w1):=⟨hf.os.trans HB.out.os,hf.tape.trans HB.out.tape,hf.output.trans HB.out.output,Nat.le_trans HB.out.size hf.size,fun k hk hp=>(hf.block k (by have:=HWS.out;omega) (by omega) hp (by omega)).trans (HB.out.block k hk)⟩;clear hf;unfold Ay;go_wp2_with fail
  exact⟨rfl,HF.out,rfl⟩
 |ok q=>
  obtain⟨a,r⟩:=q;obtain⟨rfl,va,vc,ps,rfl,ha⟩:=he;have hf:=ha.fr;have HF:Hid (SFr p w w1):=⟨hf.os.trans HB.out.os,hf.tape.trans HB.out.tape,hf.output.trans HB.out.output,Nat.le_trans HB.out.size hf.size,fun k hk hp=>(hf.block k (by have:=HWS.out;omega) (by omega) hp (by omega)).trans (HB.out.block k hk)⟩;have HA:=Za ha;clear hf ha;go_wp2_with fail
  have d0:=HA.out.o.at 0 _ rfl;have hex:=HA.out.row.exs (show ps.length≤140737488355328 by have:=HA.out.len;omega);exact bodyPost_ret (v:= .slice va ps.length vc) (by simp [results,Tryz.results201,go_sem,d0]) rfl ⟨HF.out,_,rfl,HA.out.par,hex.up (by omega)⟩
theorem Is:∀f:Nat,Pe f∧Jo f∧Mu f∧Pl f∧Un f
 |0=>⟨fun lv l w p tb h=>by omega,fun l w p tb h=>by omega,fun l w p tb h=>by omega,fun s l w p tb h=>by omega,fun l w p tb h=>by omega⟩
 |f+1=>by
  have ih:∀g,g≤f→Pe g∧Jo g∧Mu g∧Pl g∧Un g:=fun g hg=>Is g
  obtain⟨hC,hE,hT,hN,hA⟩:=ih f (Nat.le_refl _);have hc:=Xg f hT (fun g hg=>(ih g hg).1);exact⟨hc,expr_of (f+1) hc,Yb f hT hE hN,Wa f hA hE,bF f (fun g hg=>(ih g hg).2.1)⟩
abbrev ystV(x:St)(a t e:Value):Value:= .agg #[.int .i64 x.kind,.string (Aa x.name),a,t,e]
def StsH(B:Nat)(l:List St)(v:Value)(w:World):Prop:=Bn (B≤ ·) w l v
def StH(B:Nat)(x:St)(v:Value)(w:World):Prop:= ∃a t e,v=ystV x a t e∧Ag (B≤ ·) w x.args a∧Bn (B≤ ·) w x.thn t∧Bn (B≤ ·) w x.els e
def InH(B:Nat)(x:Ex)(v:Value)(w:World):Prop:=Ag (B≤ ·) w [x] v
def Cx(f:Nat)(l:List Tk):PR (List St):=match Ak [123] l with
 | .error e=> .error e
 | .ok r=>Cz f [] r
def InsideC(f:Nat):Prop:= ∀l w p tb,4*l.length≤f→Ps w p tb l→Calls Zc 202 #[.pointer (some ⟨p,0,none⟩)] w (Dt (InH w.heap.size) w p tb (Bz f l))
def SimpleC(f:Nat):Prop:= ∀l w p tb,4*l.length≤f→Ps w p tb l→Calls Zc 204 #[.pointer (some ⟨p,0,none⟩)] w (Dt (StH w.heap.size) w p tb (An f l))
def Mk(f:Nat):Prop:= ∀l w p tb,4*l.length≤f→Ps w p tb l→Calls Zc 203 #[.pointer (some ⟨p,0,none⟩)] w (Dt (StsH w.heap.size) w p tb (Cx f l))
def Yk(f:Nat):Prop:= ∀l w p tb,4*l.length+1≤f→Ps w p tb l→Calls Zc 165 #[.pointer (some ⟨p,0,none⟩)] w (Dt (StH w.heap.size) w p tb (Da f l))
def Sm(f:Nat):Prop:= ∀l w p tb,4*l.length+2≤f→Ps w p tb l→Calls Zc 127 #[.pointer (some ⟨p,0,none⟩)] w (Dt (StsH w.heap.size) w p tb (Cz f [] l))
theorem Bn.up {B B':Nat}{w:World}{l:List St}{v:Value}(h:Bn (B≤ ·) w l v)(hb:B'≤B):Bn (B'≤ ·) w l v:=h.mono (fun b hx=>Nat.le_trans hb hx)
theorem Kd(f:Nat):InsideC f:=by
 intro l w p tb hl h;have HPW:=Za h.lt;have HNE:Hid (w.heap.size≠p):=by show _≠_;have:=h.lt;omega
 have HF0:=Za (SFr.refl p w);have HP0:=Za h;obtain⟨R,hR⟩:∃R,Bz f l=R:=⟨_,rfl⟩;rw[hR];have HRR:=Za hR;clear hR;have hE:=(Is f).2.1;have HE:=Za hE;have HL:=Za hl;clear hl hE;clear h;go_enter Tryz.func202,Tryz.ntmps202
 have hba:Below w.heap.size w (w.alloc (.cells #[.string ⟨#[40]⟩] 9)):=bA;have HF1:=Za (HF0.out.trans (Zb hba));have HP1:=Za (HP0.out.old hba);have HWN:=Za (Cd p tb l [40] _ HP1.out w.heap.size 1 ((Zd w [.string ⟨#[40]⟩] 9).at 0 _ rfl));clear hba;go_wp2_with fail
 refine(HWN.out).mono ?_;intro e w2 he
 cases hA:Ak [40] l with
 |error n=>
  rw[hA]at he;obtain⟨hf,rfl⟩:=he;have HF:=Za (HF1.out.trans hf);have e1:Bz f l= .error n:=by unfold Bz;rw[hA]
  have e2:=HRR.out.symm.trans e1;subst e2;clear e1 hf;unfold Ay;go_wp2_with fail
  exact⟨rfl,HF.out,rfl⟩
 |ok r=>
  rw[hA]at he;obtain⟨hf,rfl,hp⟩:=he;have HF2:=Za (HF1.out.trans hf);have HP2:=Za hp;clear hf hp;have HA2:=Za hA;clear hA;clear HWN;have hlr:=Az HA2.out;have HC:Hid (∀w1,Ps w1 p tb r→_):=fun w1 h1=>HE.out r w1 p tb (by have:=HL.out;omega) h1
  clear hlr;go_wp2_with fail
  refine(HC.out _ HP2.out).mono ?_;intro e w3 he
  cases hA:Aq f 1 r with
  |error n=>
   rw[hA]at he;obtain⟨hf,rfl⟩:=he;have HF:=Za (HF2.out.trans hf);have e1:Bz f l= .error n:=by unfold Bz;rw[HA2.out];dsimp only;rw[hA]
   have e2:=HRR.out.symm.trans e1;subst e2;clear e1 hf;unfold Ay;go_wp2_with fail
   exact⟨rfl,HF.out,rfl⟩
  |ok q=>
   obtain⟨x,r2⟩:=q;rw[hA]at he;obtain⟨hf,v,rfl,hp,hv⟩:=he;obtain⟨s3,rfl,hx,hn⟩:=hv;obtain⟨a1,a2,rfl⟩:=hx.shape;have HX3:=Za (hx.up HF2.out.size);have HN:=Za hn;clear hx hn;have HF3:=Za (HF2.out.trans hf);have HP3:=Za hp;clear hf hp;have HA3:=Za hA;clear hA;go_upto_region 3 with(fail)
   obtain⟨W,hW⟩:∃W,w3.alloc (.cells #[.int .i64 x.kind,.int .i64 x.op,.int .i64 x.n,.string (Aa x.name),.slice a1 x.args.length a2] 27)=W:=⟨_,rfl⟩;rw[hW];have hba:Below w3.heap.size w3 W:=hW ▸ bA;have HF4:=Za (HF3.out.trans (Zb hba));have HP4:=Za (HP3.out.old hba);have HX4:=Za (HX3.out.old hba);have HE4:=Za (hW ▸ Zd w3 [.int .i64 x.kind,.int .i64 x.op,.int .i64 x.n,.string (Aa x.name),.slice a1 x.args.length a2] 27);have HEP:Hid (w3.heap.size≠p):=by show _≠_;have:=HP3.out.lt;omega
   clear hba hW;obtain⟨w4,hWW⟩:∃w4,w4=W:=⟨_,rfl⟩;subst hWW;have hba:Below w4.heap.size w4 (w4.alloc (.cells #[.string ⟨#[41]⟩] 9)):=bA;have HF5:=Za (HF4.out.trans (Zb hba));have HP5:=Za (HP4.out.old hba);have HE5:=Za (HE4.out.old hba);have HX5:=Za (HX4.out.old hba);have HWN:=Za (Cd p tb r2 [41] _ HP5.out w4.heap.size 1 ((Zd w4 [.string ⟨#[41]⟩] 9).at 0 _ rfl));clear hba;go_wp2_with fail
   refine(HWN.out).mono ?_;intro e w6 he
   cases hA:Ak [41] r2 with
   |error n=>
    rw[hA]at he;obtain⟨hf,rfl⟩:=he;have HF:=Za (HF5.out.trans hf);have e1:Bz f l= .error n:=by unfold Bz;rw[HA2.out];dsimp only;rw[HA3.out];dsimp only;rw[hA]
    have e2:=HRR.out.symm.trans e1;subst e2;clear e1 hf;unfold Ay;go_wp2_with fail
    exact⟨rfl,HF.out,rfl⟩
   |ok r3=>
    rw[hA]at he;obtain⟨hf,rfl,hp⟩:=he;have HF6:=Za (HF5.out.trans hf);have HP6:=Za hp;have HE6:=Za (HE5.out.sfr hf HEP.out);have HX6:=Za (HX5.out.keep (hf.fresh (by have:=HPW.out;omega)));clear hf hp;have HA6:=Za hA;clear hA;clear HWN;obtain⟨⟨e0,e1,e2,e3,e4⟩,ef0,ef1,ef2,ef3,ef4⟩:=Bf HE6.out;have elt:=HE6.out.lt;have HB:=Za (Xs HX6.out HN.out HF6.out.size);have HF7:Hid (SFr p w (w6.alloc (.cells #[.int .i64 x.kind,.int .i64 x.op,.int .i64 x.n,.string (Aa x.name),.slice a1 x.args.length a2] 27))):=HF6.out.trans (Zb (bA));have HP7:=Za (HP6.out.alloc (.cells #[.int .i64 x.kind,.int .i64 x.op,.int .i64 x.n,.string (Aa x.name),.slice a1 x.args.length a2] 27));go_wp2_with fail
    have e1:Bz f l= .ok (x,r3):=by unfold Bz;rw[HA2.out];dsimp only;rw[HA3.out];dsimp only;rw[HA6.out]
    have e2:=HRR.out.symm.trans e1;subst e2;go_ret
    exact⟨HF7.out,_,rfl,HP7.out,HB.out⟩
theorem Uu(f:Nat)(hS:Sm f):Mk f:=by
 intro l w p tb hl h;have HPW:=Za h.lt;have HNE:Hid (w.heap.size≠p):=by show _≠_;have:=h.lt;omega
 have HF0:=Za (SFr.refl p w);have HP0:=Za h;obtain⟨R,hR⟩:∃R,Cx f l=R:=⟨_,rfl⟩;rw[hR];have HRR:=Za hR;clear hR;have HS:=Za hS;have HL:=Za hl;clear hl hS;clear h;go_enter Tryz.func203,Tryz.ntmps203
 have hba:Below w.heap.size w (w.alloc (.cells #[.string ⟨#[123]⟩] 9)):=bA;have HF1:=Za (HF0.out.trans (Zb hba));have HP1:=Za (HP0.out.old hba);have HWN:=Za (Cd p tb l [123] _ HP1.out w.heap.size 1 ((Zd w [.string ⟨#[123]⟩] 9).at 0 _ rfl));clear hba;go_wp2_with fail
 refine(HWN.out).mono ?_;intro e w2 he
 cases hA:Ak [123] l with
 |error n=>
  rw[hA]at he;obtain⟨hf,rfl⟩:=he;have HF:=Za (HF1.out.trans hf);have e1:Cx f l= .error n:=by unfold Cx;rw[hA]
  have e2:=HRR.out.symm.trans e1;subst e2;clear e1 hf;unfold Ay;go_wp2_with fail
  exact⟨rfl,HF.out,rfl⟩
 |ok r=>
  rw[hA]at he;obtain⟨hf,rfl,hp⟩:=he;have HF2:=Za (HF1.out.trans hf);have HP2:=Za hp;clear hf hp;have HA2:=Za hA;clear hA;clear HWN;have hlr:=Az HA2.out;have HC:Hid (∀w1,Ps w1 p tb r→_):=fun w1 h1=>HS.out r w1 p tb (by have:=HL.out;omega) h1
  clear hlr;go_wp2_with fail
  refine(HC.out _ HP2.out).mono ?_;intro e w3 he
  cases hA:Cz f [] r with
  |error n=>
   rw[hA]at he;obtain⟨hf,rfl⟩:=he;have HF:=Za (HF2.out.trans hf);have e1:Cx f l= .error n:=by unfold Cx;rw[HA2.out];exact hA
   have e2:=HRR.out.symm.trans e1;subst e2;clear e1 hf;unfold Ay;go_wp2_with fail
   exact⟨rfl,HF.out,rfl⟩
  |ok q=>
   obtain⟨x,r2⟩:=q;rw[hA]at he;obtain⟨hf,v,rfl,hp,hv⟩:=he;have hv:Bn (w2.heap.size≤ ·) w3 x v:=hv;obtain⟨a1,a2,rfl⟩:=hv.shape;have HX3:=Za (hv.up HF2.out.size);clear hv;have HF3:=Za (HF2.out.trans hf);have HP3:=Za hp;clear hf hp;have HA3:=Za hA;clear hA;go_wp2_with fail
   have e1:Cx f l= .ok (x,r2):=by unfold Cx;rw[HA2.out];exact HA3.out
   have e2:=HRR.out.symm.trans e1;subst e2;go_ret
   exact⟨HF3.out,_,rfl,HP3.out,HX3.out⟩
theorem Sx {w W:World}{p tb:Nat}{l:List Tk}{k:Int}{nm:Bs}{xs:List Ex}{s:Value}(hp:p<w.heap.size)(HF:SFr p w W)(HP:Ps W p tb l)(HX:Ag (w.heap.size+1≤ ·) W xs s)(c0 c1 c2 c3 c4:Value):
  Dt (StH w.heap.size) w p tb (.ok (.mk k nm xs [] [],l)) (.returned (.agg #[.int .i64 k,.string (Aa nm),s,.slice none 0 0,.slice none 0 0])) (((((W.setCell ⟨w.heap.size,0,none⟩ c0).setCell ⟨w.heap.size,1,none⟩ c1).setCell ⟨w.heap.size,2,none⟩ c2).setCell ⟨w.heap.size,3,none⟩ c3).setCell ⟨w.heap.size,4,none⟩ c4):=
 ⟨eA HF (Nat.le_refl _) _ _ _ _ _,_,rfl,ps5 HP hp _ _ _ _ _,_,_,_,rfl,(HX.keep (Gz W (by show ¬w.heap.size+1≤w.heap.size;omega) _ _ _ _ _)).mono (fun b hb=>by have:w.heap.size+1≤b:=hb;omega),Zi,Zi⟩
theorem Tg {w W:World}{p tb:Nat}{l:List Tk}{k:Int}{nm:Bs}{x:Ex}{s:Value}(hp:p<w.heap.size)(HF:SFr p w W)(HP:Ps W p tb l)(HX:Ag (w.heap.size+1≤ ·) W x.args s)(hn:I64 x.n)(hlt:w.heap.size<W.heap.size)(c0 c1 c2 c3 c4:Value):
  Dt (StH w.heap.size) w p tb (.ok (.mk k nm [x] [] [],l)) (.returned (.agg #[.int .i64 k,.string (Aa nm),.slice (some ⟨W.heap.size,0,none⟩) 1 1,.slice none 0 0,.slice none 0 0])) ((((((W.setCell ⟨w.heap.size,0,none⟩ c0).setCell ⟨w.heap.size,1,none⟩ c1).setCell ⟨w.heap.size,2,none⟩ c2).setCell ⟨w.heap.size,3,none⟩ c3).setCell ⟨w.heap.size,4,none⟩ c4).alloc (.cells #[.int .i64 x.kind,.int .i64 x.op,.int .i64 x.n,.string (Aa x.name),s] 27)):=by
 have h1:=HX.keep (Gz W (show ¬w.heap.size+1≤w.heap.size by omega) c0 c1 c2 c3 c4);have h2:=Xs h1 hn (by rw[Ik];omega);rw[Ik]at h2;exact⟨(eA HF (Nat.le_refl _) c0 c1 c2 c3 c4).trans (Zb (bA)),_,rfl,(ps5 HP hp c0 c1 c2 c3 c4).alloc _,_,_,_,rfl,h2.mono (fun b hb=>by have:w.heap.size+1≤b:=hb;omega),Zi,Zi⟩
theorem Xp(f:Nat)(t:Tk)(r:List Tk)(w:World)(p tb:Nat)(hl:4*(t::r).length≤f)(h:Ps w p tb (t::r))(y:isP [98,114,101,97,107] t=true):
  Calls Zc 204 #[.pointer (some ⟨p,0,none⟩)] w (Dt (StH w.heap.size) w p tb (An f (t::r))):=by
 have HPW:=Za h.lt;have HNE:Hid (w.heap.size≠p):=by show _≠_;have:=h.lt;omega
 have hb0:Below w.heap.size w (w.alloc (.cells #[.int .i64 0,.string ⟨#[]⟩,.slice none 0 0,.slice none 0 0,.slice none 0 0] 60)):=bA;have HF0:Hid (SFr p w (w.alloc (.cells #[.int .i64 0,.string ⟨#[]⟩,.slice none 0 0,.slice none 0 0,.slice none 0 0] 60))):=Zb hb0;have HR0:=Za (Zd w [.int .i64 0,.string ⟨#[]⟩,.slice none 0 0,.slice none 0 0,.slice none 0 0] 60);have HP0:=Za (h.old hb0);clear hb0;obtain⟨R,hR⟩:∃R,An f (t::r)=R:=⟨_,rfl⟩;rw[hR];have HRR:=Za hR;clear hR;have HY:=Za y;have HV:Hid (∀w1,Ps w1 p tb (t::r)→_):=fun w1 h1=>Bc p tb t r [98,114,101,97,107] w1 h1 y
 rw[Ze]at hl;clear hl y;clear h;go_enter Zf,Zg
 go_wp2_with fail
 refine(HV.out _ HP0.out).mono ?_;rintro e w1 ⟨rfl,hf,hp⟩;have HF1:=Za (HF0.out.trans hf);have HP1:=Za hp;have HR1:=Za (HR0.out.sfr hf HNE.out);clear hf hp;obtain⟨⟨x0,x1,x2,x3,x4⟩,xf0,xf1,xf2,xf3,xf4⟩:=Bf HR1.out;have xlt:=HR1.out.lt;go_wp2_with fail
 have e1:An f (t::r)= .ok (.mk 5 [] [] [] [],r):=by unfold An;rw[Ao HY.out]
 have e2:=HRR.out.symm.trans e1;subst e2;obtain⟨⟨d0,d1,d2,d3,d4⟩,_⟩:=Bf (Jd HR1.out (.int .i64 5) (.string ⟨#[]⟩) (.slice none 0 0) (.slice none 0 0) (.slice none 0 0));exact bodyPost_ret (v:= .agg #[.int .i64 5,.string ⟨#[]⟩,.slice none 0 0,.slice none 0 0,.slice none 0 0]) (by simp [results,Zh,go_sem,d0,d1,d2,d3,d4]) rfl (Sx HPW.out HF1.out HP1.out Ag.zero _ _ _ _ _)
theorem Vp(f:Nat)(t:Tk)(r:List Tk)(w:World)(p tb:Nat)(hl:4*(t::r).length≤f)(h:Ps w p tb (t::r))(n0:isP [98,114,101,97,107] t=false)(y:isP [99,111,110,116,105,110,117,101] t=true):
  Calls Zc 204 #[.pointer (some ⟨p,0,none⟩)] w (Dt (StH w.heap.size) w p tb (An f (t::r))):=by
 have HPW:=Za h.lt;have HNE:Hid (w.heap.size≠p):=by show _≠_;have:=h.lt;omega
 have hb0:Below w.heap.size w (w.alloc (.cells #[.int .i64 0,.string ⟨#[]⟩,.slice none 0 0,.slice none 0 0,.slice none 0 0] 60)):=bA;have HF0:Hid (SFr p w (w.alloc (.cells #[.int .i64 0,.string ⟨#[]⟩,.slice none 0 0,.slice none 0 0,.slice none 0 0] 60))):=Zb hb0;have HR0:=Za (Zd w [.int .i64 0,.string ⟨#[]⟩,.slice none 0 0,.slice none 0 0,.slice none 0 0] 60);have HP0:=Za (h.old hb0);clear hb0;obtain⟨R,hR⟩:∃R,An f (t::r)=R:=⟨_,rfl⟩;rw[hR];have HRR:=Za hR;clear hR;have HN0:=Za n0;have HT0:Hid (∀w1,Ps w1 p tb (t::r)→_):=fun w1 h1=>Ai p tb t r [98,114,101,97,107] w1 h1 n0
 have HY:=Za y;have HV:Hid (∀w1,Ps w1 p tb (t::r)→_):=fun w1 h1=>Bc p tb t r [99,111,110,116,105,110,117,101] w1 h1 y
 rw[Ze]at hl;clear hl n0 y;clear h;go_enter Zf,Zg
 go_wp2_with fail
 refine(HT0.out _ HP0.out).mono ?_;rintro e w1 ⟨rfl,hb⟩;have HF1:=Za (HF0.out.trans (Zb hb));have HP1:=Za (HP0.out.old hb);have HR1:=Za (HR0.out.old hb);clear hb;go_wp2_with fail
 refine(HV.out _ HP1.out).mono ?_;rintro e w2 ⟨rfl,hf,hp⟩;have HF2:=Za (HF1.out.trans hf);have HP2:=Za hp;have HR2:=Za (HR1.out.sfr hf HNE.out);clear hf hp;obtain⟨⟨x0,x1,x2,x3,x4⟩,xf0,xf1,xf2,xf3,xf4⟩:=Bf HR2.out;have xlt:=HR2.out.lt;go_wp2_with fail
 have e1:An f (t::r)= .ok (.mk 6 [] [] [] [],r):=by unfold An;rw[Ad HN0.out];dsimp only;rw[Ao HY.out]
 have e2:=HRR.out.symm.trans e1;subst e2;obtain⟨⟨d0,d1,d2,d3,d4⟩,_⟩:=Bf (Jd HR2.out (.int .i64 6) (.string ⟨#[]⟩) (.slice none 0 0) (.slice none 0 0) (.slice none 0 0));exact bodyPost_ret (v:= .agg #[.int .i64 6,.string ⟨#[]⟩,.slice none 0 0,.slice none 0 0,.slice none 0 0]) (by simp [results,Zh,go_sem,d0,d1,d2,d3,d4]) rfl (Sx HPW.out HF2.out HP2.out Ag.zero _ _ _ _ _)
theorem Wl(f:Nat)(t:Tk)(r:List Tk)(w:World)(p tb:Nat)(hl:4*(t::r).length≤f)(h:Ps w p tb (t::r))(n0:isP [98,114,101,97,107] t=false)(n1:isP [99,111,110,116,105,110,117,101] t=false)(y:isP [114,101,116,117,114,110] t=true):
  Calls Zc 204 #[.pointer (some ⟨p,0,none⟩)] w (Dt (StH w.heap.size) w p tb (An f (t::r))):=by
 have HPW:=Za h.lt;have HNE:Hid (w.heap.size≠p):=by show _≠_;have:=h.lt;omega
 have hb0:Below w.heap.size w (w.alloc (.cells #[.int .i64 0,.string ⟨#[]⟩,.slice none 0 0,.slice none 0 0,.slice none 0 0] 60)):=bA;have HF0:Hid (SFr p w (w.alloc (.cells #[.int .i64 0,.string ⟨#[]⟩,.slice none 0 0,.slice none 0 0,.slice none 0 0] 60))):=Zb hb0;have HR0:=Za (Zd w [.int .i64 0,.string ⟨#[]⟩,.slice none 0 0,.slice none 0 0,.slice none 0 0] 60);have HP0:=Za (h.old hb0);clear hb0;obtain⟨R,hR⟩:∃R,An f (t::r)=R:=⟨_,rfl⟩;rw[hR];have HRR:=Za hR;clear hR;have HN0:=Za n0;have HT0:Hid (∀w1,Ps w1 p tb (t::r)→_):=fun w1 h1=>Ai p tb t r [98,114,101,97,107] w1 h1 n0
 have HN1:=Za n1;have HT1:Hid (∀w1,Ps w1 p tb (t::r)→_):=fun w1 h1=>Ai p tb t r [99,111,110,116,105,110,117,101] w1 h1 n1
 have HY:=Za y;have HV:Hid (∀w1,Ps w1 p tb (t::r)→_):=fun w1 h1=>Bc p tb t r [114,101,116,117,114,110] w1 h1 y
 rw[Ze]at hl;have hE:=(Is f).2.1;have HC:Hid (∀w1,Ps w1 p tb r→_):=fun w1 h1=>hE r w1 p tb (by omega) h1
 clear hE;clear hl n0 n1 y;clear h;go_enter Zf,Zg
 go_wp2_with fail
 refine(HT0.out _ HP0.out).mono ?_;rintro e w1 ⟨rfl,hb⟩;have HF1:=Za (HF0.out.trans (Zb hb));have HP1:=Za (HP0.out.old hb);have HR1:=Za (HR0.out.old hb);clear hb;go_wp2_with fail
 refine(HT1.out _ HP1.out).mono ?_;rintro e w2 ⟨rfl,hb⟩;have HF2:=Za (HF1.out.trans (Zb hb));have HP2:=Za (HP1.out.old hb);have HR2:=Za (HR1.out.old hb);clear hb;go_wp2_with fail
 refine(HV.out _ HP2.out).mono ?_;rintro e w3 ⟨rfl,hf,hp⟩;have HF3:=Za (HF2.out.trans hf);have HP3:=Za hp;have HR3:=Za (HR2.out.sfr hf HNE.out);clear hf hp;go_wp2_with fail
 refine(HC.out _ HP3.out).mono ?_;intro e w4 he
 cases hA:Aq f 1 r with
 |error n=>
  rw[hA]at he;obtain⟨hf,rfl⟩:=he;have HF:=Za (HF3.out.trans hf);have e1:An f (t::r)= .error n:=by unfold An;rw[Ad HN0.out];dsimp only;rw[Ad HN1.out];dsimp only;rw[Ao HY.out];dsimp only;rw[hA]
  have e2:=HRR.out.symm.trans e1;subst e2;clear e1 hf;unfold Ay;go_wp2_with fail
  exact⟨rfl,HF.out,rfl⟩
 |ok q=>
  obtain⟨x,r2⟩:=q;rw[hA]at he;obtain⟨hf,v,rfl,hp,hv⟩:=he;obtain⟨s3,rfl,hx,hn⟩:=hv;obtain⟨a1,a2,rfl⟩:=hx.shape;have HX4:=Za (hx.up (show w.heap.size+1≤w3.heap.size from HR3.out.lt));have HN:=Za hn;clear hx hn;have HF4:=Za (HF3.out.trans hf);have HP4:=Za hp;have HR4:=Za (HR3.out.sfr hf HNE.out);clear hf hp;have HA4:=Za hA;clear hA;obtain⟨⟨x0,x1,x2,x3,x4⟩,xf0,xf1,xf2,xf3,xf4⟩:=Bf HR4.out;have xlt:=HR4.out.lt;go_wp2_with fail
  have e1:An f (t::r)= .ok (.mk 7 [] [x] [] [],r2):=by unfold An;rw[Ad HN0.out];dsimp only;rw[Ad HN1.out];dsimp only;rw[Ao HY.out];dsimp only;rw[HA4.out]
  have e2:=HRR.out.symm.trans e1;subst e2;obtain⟨⟨d0,d1,d2,d3,d4⟩,_⟩:=Bf ((Jd HR4.out (.int .i64 7) (.string ⟨#[]⟩) (.slice (some ⟨w4.heap.size,0,none⟩) 1 1) (.slice none 0 0) (.slice none 0 0)).alloc (.cells #[.int .i64 x.kind,.int .i64 x.op,.int .i64 x.n,.string (Aa x.name),.slice a1 x.args.length a2] 27));exact bodyPost_ret (v:= .agg #[.int .i64 7,.string ⟨#[]⟩,.slice (some ⟨w4.heap.size,0,none⟩) 1 1,.slice none 0 0,.slice none 0 0]) (by simp [results,Zh,go_sem,d0,d1,d2,d3,d4]) rfl (Tg HPW.out HF4.out HP4.out HX4.out HN.out HR4.out.lt _ _ _ _ _)
theorem Sf(f:Nat)(t:Tk)(r:List Tk)(w:World)(p tb:Nat)(hl:4*(t::r).length≤f)(h:Ps w p tb (t::r))(n0:isP [98,114,101,97,107] t=false)(n1:isP [99,111,110,116,105,110,117,101] t=false)(n2:isP [114,101,116,117,114,110] t=false)(y:isP [112,114,105,110,116] t=true):
  Calls Zc 204 #[.pointer (some ⟨p,0,none⟩)] w (Dt (StH w.heap.size) w p tb (An f (t::r))):=by
 have HPW:=Za h.lt;have HNE:Hid (w.heap.size≠p):=by show _≠_;have:=h.lt;omega
 have hb0:Below w.heap.size w (w.alloc (.cells #[.int .i64 0,.string ⟨#[]⟩,.slice none 0 0,.slice none 0 0,.slice none 0 0] 60)):=bA;have HF0:Hid (SFr p w (w.alloc (.cells #[.int .i64 0,.string ⟨#[]⟩,.slice none 0 0,.slice none 0 0,.slice none 0 0] 60))):=Zb hb0;have HR0:=Za (Zd w [.int .i64 0,.string ⟨#[]⟩,.slice none 0 0,.slice none 0 0,.slice none 0 0] 60);have HP0:=Za (h.old hb0);clear hb0;obtain⟨R,hR⟩:∃R,An f (t::r)=R:=⟨_,rfl⟩;rw[hR];have HRR:=Za hR;clear hR;have HN0:=Za n0;have HT0:Hid (∀w1,Ps w1 p tb (t::r)→_):=fun w1 h1=>Ai p tb t r [98,114,101,97,107] w1 h1 n0
 have HN1:=Za n1;have HT1:Hid (∀w1,Ps w1 p tb (t::r)→_):=fun w1 h1=>Ai p tb t r [99,111,110,116,105,110,117,101] w1 h1 n1
 have HN2:=Za n2;have HT2:Hid (∀w1,Ps w1 p tb (t::r)→_):=fun w1 h1=>Ai p tb t r [114,101,116,117,114,110] w1 h1 n2
 have HY:=Za y;have HV:Hid (∀w1,Ps w1 p tb (t::r)→_):=fun w1 h1=>Bc p tb t r [112,114,105,110,116] w1 h1 y
 rw[Ze]at hl;have hE:=Kd f;have HC:Hid (∀w1,Ps w1 p tb r→_):=fun w1 h1=>hE r w1 p tb (by omega) h1
 clear hE;clear hl n0 n1 n2 y;clear h;go_enter Zf,Zg
 go_wp2_with fail
 refine(HT0.out _ HP0.out).mono ?_;rintro e w1 ⟨rfl,hb⟩;have HF1:=Za (HF0.out.trans (Zb hb));have HP1:=Za (HP0.out.old hb);have HR1:=Za (HR0.out.old hb);clear hb;go_wp2_with fail
 refine(HT1.out _ HP1.out).mono ?_;rintro e w2 ⟨rfl,hb⟩;have HF2:=Za (HF1.out.trans (Zb hb));have HP2:=Za (HP1.out.old hb);have HR2:=Za (HR1.out.old hb);clear hb;go_wp2_with fail
 refine(HT2.out _ HP2.out).mono ?_;rintro e w3 ⟨rfl,hb⟩;have HF3:=Za (HF2.out.trans (Zb hb));have HP3:=Za (HP2.out.old hb);have HR3:=Za (HR2.out.old hb);clear hb;go_wp2_with fail
 refine(HV.out _ HP3.out).mono ?_;rintro e w4 ⟨rfl,hf,hp⟩;have HF4:=Za (HF3.out.trans hf);have HP4:=Za hp;have HR4:=Za (HR3.out.sfr hf HNE.out);clear hf hp;go_wp2_with fail
 refine(HC.out _ HP4.out).mono ?_;intro e w5 he
 cases hA:Bz f r with
 |error n=>
  rw[hA]at he;obtain⟨hf,rfl⟩:=he;have HF:=Za (HF4.out.trans hf);have e1:An f (t::r)= .error n:=by unfold An;rw[Ad HN0.out];dsimp only;rw[Ad HN1.out];dsimp only;rw[Ad HN2.out];dsimp only;rw[Ao HY.out];dsimp only;rw[hA]
  have e2:=HRR.out.symm.trans e1;subst e2;clear e1 hf;unfold Ay;go_wp2_with fail
  exact⟨rfl,HF.out,rfl⟩
 |ok q=>
  obtain⟨x,r2⟩:=q;rw[hA]at he;obtain⟨hf,v,rfl,hp,hv⟩:=he;have hv:Ag (w4.heap.size≤ ·) w5 [x] v:=hv;obtain⟨a1,a2,rfl⟩:=hv.shape;have HX5:=Za (hv.up (show w.heap.size+1≤w4.heap.size from HR4.out.lt));clear hv;have HF5:=Za (HF4.out.trans hf);have HP5:=Za hp;have HR5:=Za (HR4.out.sfr hf HNE.out);clear hf hp;have HA5:=Za hA;clear hA;obtain⟨⟨x0,x1,x2,x3,x4⟩,xf0,xf1,xf2,xf3,xf4⟩:=Bf HR5.out;have xlt:=HR5.out.lt;go_wp2_with fail
  have e1:An f (t::r)= .ok (.mk 8 [] [x] [] [],r2):=by unfold An;rw[Ad HN0.out];dsimp only;rw[Ad HN1.out];dsimp only;rw[Ad HN2.out];dsimp only;rw[Ao HY.out];dsimp only;rw[HA5.out]
  have e2:=HRR.out.symm.trans e1;subst e2;obtain⟨⟨d0,d1,d2,d3,d4⟩,_⟩:=Bf (Jd HR5.out (.int .i64 8) (.string ⟨#[]⟩) (.slice a1 1 a2) (.slice none 0 0) (.slice none 0 0));exact bodyPost_ret (v:= .agg #[.int .i64 8,.string ⟨#[]⟩,.slice a1 1 a2,.slice none 0 0,.slice none 0 0]) (by simp [results,Zh,go_sem,d0,d1,d2,d3,d4]) rfl (Sx HPW.out HF5.out HP5.out HX5.out _ _ _ _ _)
theorem Ts(f:Nat)(t:Tk)(r:List Tk)(w:World)(p tb:Nat)(hl:4*(t::r).length≤f)(h:Ps w p tb (t::r))(n0:isP [98,114,101,97,107] t=false)(n1:isP [99,111,110,116,105,110,117,101] t=false)(n2:isP [114,101,116,117,114,110] t=false)(n3:isP [112,114,105,110,116] t=false)(y:isP [116,114,97,112] t=true):
  Calls Zc 204 #[.pointer (some ⟨p,0,none⟩)] w (Dt (StH w.heap.size) w p tb (An f (t::r))):=by
 have HPW:=Za h.lt;have HNE:Hid (w.heap.size≠p):=by show _≠_;have:=h.lt;omega
 have hb0:Below w.heap.size w (w.alloc (.cells #[.int .i64 0,.string ⟨#[]⟩,.slice none 0 0,.slice none 0 0,.slice none 0 0] 60)):=bA;have HF0:Hid (SFr p w (w.alloc (.cells #[.int .i64 0,.string ⟨#[]⟩,.slice none 0 0,.slice none 0 0,.slice none 0 0] 60))):=Zb hb0;have HR0:=Za (Zd w [.int .i64 0,.string ⟨#[]⟩,.slice none 0 0,.slice none 0 0,.slice none 0 0] 60);have HP0:=Za (h.old hb0);clear hb0;obtain⟨R,hR⟩:∃R,An f (t::r)=R:=⟨_,rfl⟩;rw[hR];have HRR:=Za hR;clear hR;have HN0:=Za n0;have HT0:Hid (∀w1,Ps w1 p tb (t::r)→_):=fun w1 h1=>Ai p tb t r [98,114,101,97,107] w1 h1 n0
 have HN1:=Za n1;have HT1:Hid (∀w1,Ps w1 p tb (t::r)→_):=fun w1 h1=>Ai p tb t r [99,111,110,116,105,110,117,101] w1 h1 n1
 have HN2:=Za n2;have HT2:Hid (∀w1,Ps w1 p tb (t::r)→_):=fun w1 h1=>Ai p tb t r [114,101,116,117,114,110] w1 h1 n2
 have HN3:=Za n3;have HT3:Hid (∀w1,Ps w1 p tb (t::r)→_):=fun w1 h1=>Ai p tb t r [112,114,105,110,116] w1 h1 n3
 have HY:=Za y;have HV:Hid (∀w1,Ps w1 p tb (t::r)→_):=fun w1 h1=>Bc p tb t r [116,114,97,112] w1 h1 y
 rw[Ze]at hl;have hE:=Kd f;have HC:Hid (∀w1,Ps w1 p tb r→_):=fun w1 h1=>hE r w1 p tb (by omega) h1
 clear hE;clear hl n0 n1 n2 n3 y;clear h;go_enter Zf,Zg
 go_wp2_with fail
 refine(HT0.out _ HP0.out).mono ?_;rintro e w1 ⟨rfl,hb⟩;have HF1:=Za (HF0.out.trans (Zb hb));have HP1:=Za (HP0.out.old hb);have HR1:=Za (HR0.out.old hb);clear hb;go_wp2_with fail
 refine(HT1.out _ HP1.out).mono ?_;rintro e w2 ⟨rfl,hb⟩;have HF2:=Za (HF1.out.trans (Zb hb));have HP2:=Za (HP1.out.old hb);have HR2:=Za (HR1.out.old hb);clear hb;go_wp2_with fail
 refine(HT2.out _ HP2.out).mono ?_;rintro e w3 ⟨rfl,hb⟩;have HF3:=Za (HF2.out.trans (Zb hb));have HP3:=Za (HP2.out.old hb);have HR3:=Za (HR2.out.old hb);clear hb;go_wp2_with fail
 refine(HT3.out _ HP3.out).mono ?_;rintro e w4 ⟨rfl,hb⟩;have HF4:=Za (HF3.out.trans (Zb hb));have HP4:=Za (HP3.out.old hb);have HR4:=Za (HR3.out.old hb);clear hb;go_wp2_with fail
 refine(HV.out _ HP4.out).mono ?_;rintro e w5 ⟨rfl,hf,hp⟩;have HF5:=Za (HF4.out.trans hf);have HP5:=Za hp;have HR5:=Za (HR4.out.sfr hf HNE.out);clear hf hp;go_wp2_with fail
 refine(HC.out _ HP5.out).mono ?_;intro e w6 he
 cases hA:Bz f r with
 |error n=>
  rw[hA]at he;obtain⟨hf,rfl⟩:=he;have HF:=Za (HF5.out.trans hf);have e1:An f (t::r)= .error n:=by unfold An;rw[Ad HN0.out];dsimp only;rw[Ad HN1.out];dsimp only;rw[Ad HN2.out];dsimp only;rw[Ad HN3.out];dsimp only;rw[Ao HY.out];dsimp only;rw[hA]
  have e2:=HRR.out.symm.trans e1;subst e2;clear e1 hf;unfold Ay;go_wp2_with fail
  exact⟨rfl,HF.out,rfl⟩
 |ok q=>
  obtain⟨x,r2⟩:=q;rw[hA]at he;obtain⟨hf,v,rfl,hp,hv⟩:=he;have hv:Ag (w5.heap.size≤ ·) w6 [x] v:=hv;obtain⟨a1,a2,rfl⟩:=hv.shape;have HX6:=Za (hv.up (show w.heap.size+1≤w5.heap.size from HR5.out.lt));clear hv;have HF6:=Za (HF5.out.trans hf);have HP6:=Za hp;have HR6:=Za (HR5.out.sfr hf HNE.out);clear hf hp;have HA6:=Za hA;clear hA;obtain⟨⟨x0,x1,x2,x3,x4⟩,xf0,xf1,xf2,xf3,xf4⟩:=Bf HR6.out;have xlt:=HR6.out.lt;go_wp2_with fail
  have e1:An f (t::r)= .ok (.mk 9 [] [x] [] [],r2):=by unfold An;rw[Ad HN0.out];dsimp only;rw[Ad HN1.out];dsimp only;rw[Ad HN2.out];dsimp only;rw[Ad HN3.out];dsimp only;rw[Ao HY.out];dsimp only;rw[HA6.out]
  have e2:=HRR.out.symm.trans e1;subst e2;obtain⟨⟨d0,d1,d2,d3,d4⟩,_⟩:=Bf (Jd HR6.out (.int .i64 9) (.string ⟨#[]⟩) (.slice a1 1 a2) (.slice none 0 0) (.slice none 0 0));exact bodyPost_ret (v:= .agg #[.int .i64 9,.string ⟨#[]⟩,.slice a1 1 a2,.slice none 0 0,.slice none 0 0]) (by simp [results,Zh,go_sem,d0,d1,d2,d3,d4]) rfl (Sx HPW.out HF6.out HP6.out HX6.out _ _ _ _ _)
theorem Qq(f:Nat)(t:Tk)(r:List Tk)(w:World)(p tb:Nat)(hl:4*(t::r).length≤f)(h:Ps w p tb (t::r))(n0:isP [98,114,101,97,107] t=false)(n1:isP [99,111,110,116,105,110,117,101] t=false)(n2:isP [114,101,116,117,114,110] t=false)(n3:isP [112,114,105,110,116] t=false)(n4:isP [116,114,97,112] t=false)(n:Int)(hnm:Dg (t::r)= .error n):
  Calls Zc 204 #[.pointer (some ⟨p,0,none⟩)] w (Dt (StH w.heap.size) w p tb (An f (t::r))):=by
 have HPW:=Za h.lt;have HNE:Hid (w.heap.size≠p):=by show _≠_;have:=h.lt;omega
 have hb0:Below w.heap.size w (w.alloc (.cells #[.int .i64 0,.string ⟨#[]⟩,.slice none 0 0,.slice none 0 0,.slice none 0 0] 60)):=bA;have HF0:Hid (SFr p w (w.alloc (.cells #[.int .i64 0,.string ⟨#[]⟩,.slice none 0 0,.slice none 0 0,.slice none 0 0] 60))):=Zb hb0;have HR0:=Za (Zd w [.int .i64 0,.string ⟨#[]⟩,.slice none 0 0,.slice none 0 0,.slice none 0 0] 60);have HP0:=Za (h.old hb0);clear hb0;obtain⟨R,hR⟩:∃R,An f (t::r)=R:=⟨_,rfl⟩;rw[hR];have HRR:=Za hR;clear hR;have HN0:=Za n0;have HT0:Hid (∀w1,Ps w1 p tb (t::r)→_):=fun w1 h1=>Ai p tb t r [98,114,101,97,107] w1 h1 n0
 have HN1:=Za n1;have HT1:Hid (∀w1,Ps w1 p tb (t::r)→_):=fun w1 h1=>Ai p tb t r [99,111,110,116,105,110,117,101] w1 h1 n1
 have HN2:=Za n2;have HT2:Hid (∀w1,Ps w1 p tb (t::r)→_):=fun w1 h1=>Ai p tb t r [114,101,116,117,114,110] w1 h1 n2
 have HN3:=Za n3;have HT3:Hid (∀w1,Ps w1 p tb (t::r)→_):=fun w1 h1=>Ai p tb t r [112,114,105,110,116] w1 h1 n3
 have HN4:=Za n4;have HT4:Hid (∀w1,Ps w1 p tb (t::r)→_):=fun w1 h1=>Ai p tb t r [116,114,97,112] w1 h1 n4
 rw[Ze]at hl;have HNM:Hid (∀w1,Ps w1 p tb (t::r)→_):=fun w1 h1=>Do p tb (t::r) w1 h1
 have HNE2:=Za hnm;clear hnm;clear hl n0 n1 n2 n3 n4;clear h;go_enter Zf,Zg
 go_wp2_with fail
 refine(HT0.out _ HP0.out).mono ?_;rintro e w1 ⟨rfl,hb⟩;have HF1:=Za (HF0.out.trans (Zb hb));have HP1:=Za (HP0.out.old hb);have HR1:=Za (HR0.out.old hb);clear hb;go_wp2_with fail
 refine(HT1.out _ HP1.out).mono ?_;rintro e w2 ⟨rfl,hb⟩;have HF2:=Za (HF1.out.trans (Zb hb));have HP2:=Za (HP1.out.old hb);have HR2:=Za (HR1.out.old hb);clear hb;go_wp2_with fail
 refine(HT2.out _ HP2.out).mono ?_;rintro e w3 ⟨rfl,hb⟩;have HF3:=Za (HF2.out.trans (Zb hb));have HP3:=Za (HP2.out.old hb);have HR3:=Za (HR2.out.old hb);clear hb;go_wp2_with fail
 refine(HT3.out _ HP3.out).mono ?_;rintro e w4 ⟨rfl,hb⟩;have HF4:=Za (HF3.out.trans (Zb hb));have HP4:=Za (HP3.out.old hb);have HR4:=Za (HR3.out.old hb);clear hb;go_wp2_with fail
 refine(HT4.out _ HP4.out).mono ?_;rintro e w5 ⟨rfl,hb⟩;have HF5:=Za (HF4.out.trans (Zb hb));have HP5:=Za (HP4.out.old hb);have HR5:=Za (HR4.out.old hb);clear hb;go_wp2_with fail
 refine(HNM.out _ HP5.out).mono ?_;intro e w6 he;rw[HNE2.out]at he;obtain⟨hf,rfl⟩:=he;have HF:=Za (HF5.out.trans hf);have e1:An f (t::r)= .error n:=by unfold An;rw[Ad HN0.out];dsimp only;rw[Ad HN1.out];dsimp only;rw[Ad HN2.out];dsimp only;rw[Ad HN3.out];dsimp only;rw[Ad HN4.out];dsimp only;rw[HNE2.out]
 have e2:=HRR.out.symm.trans e1;subst e2;clear e1 hf;unfold Ay;go_wp2_with fail
 exact⟨rfl,HF.out,rfl⟩
theorem Tx(f:Nat)(t:Tk)(r:List Tk)(w:World)(p tb:Nat)(hl:4*(t::r).length≤f)(h:Ps w p tb (t::r))(n0:isP [98,114,101,97,107] t=false)(n1:isP [99,111,110,116,105,110,117,101] t=false)(n2:isP [114,101,116,117,114,110] t=false)(n3:isP [112,114,105,110,116] t=false)(n4:isP [116,114,97,112] t=false)(s:Bs)(u:Tk)(q:List Tk)(hnm:Dg (t::r)= .ok (s,u::q))(yo:isP [40] u=true):
  Calls Zc 204 #[.pointer (some ⟨p,0,none⟩)] w (Dt (StH w.heap.size) w p tb (An f (t::r))):=by
 have HPW:=Za h.lt;have HNE:Hid (w.heap.size≠p):=by show _≠_;have:=h.lt;omega
 have hb0:Below w.heap.size w (w.alloc (.cells #[.int .i64 0,.string ⟨#[]⟩,.slice none 0 0,.slice none 0 0,.slice none 0 0] 60)):=bA;have HF0:Hid (SFr p w (w.alloc (.cells #[.int .i64 0,.string ⟨#[]⟩,.slice none 0 0,.slice none 0 0,.slice none 0 0] 60))):=Zb hb0;have HR0:=Za (Zd w [.int .i64 0,.string ⟨#[]⟩,.slice none 0 0,.slice none 0 0,.slice none 0 0] 60);have HP0:=Za (h.old hb0);clear hb0;obtain⟨R,hR⟩:∃R,An f (t::r)=R:=⟨_,rfl⟩;rw[hR];have HRR:=Za hR;clear hR;have HN0:=Za n0;have HT0:Hid (∀w1,Ps w1 p tb (t::r)→_):=fun w1 h1=>Ai p tb t r [98,114,101,97,107] w1 h1 n0
 have HN1:=Za n1;have HT1:Hid (∀w1,Ps w1 p tb (t::r)→_):=fun w1 h1=>Ai p tb t r [99,111,110,116,105,110,117,101] w1 h1 n1
 have HN2:=Za n2;have HT2:Hid (∀w1,Ps w1 p tb (t::r)→_):=fun w1 h1=>Ai p tb t r [114,101,116,117,114,110] w1 h1 n2
 have HN3:=Za n3;have HT3:Hid (∀w1,Ps w1 p tb (t::r)→_):=fun w1 h1=>Ai p tb t r [112,114,105,110,116] w1 h1 n3
 have HN4:=Za n4;have HT4:Hid (∀w1,Ps w1 p tb (t::r)→_):=fun w1 h1=>Ai p tb t r [116,114,97,112] w1 h1 n4
 rw[Ze]at hl;have HNM:Hid (∀w1,Ps w1 p tb (t::r)→_):=fun w1 h1=>Do p tb (t::r) w1 h1
 have HNQ:=Za hnm;have hql:=Fb hnm;simp only[Ze]at hql;have HYO:=Za yo;have HTO:Hid (∀w1,Ps w1 p tb (u::q)→_):=fun w1 h1=>Bc p tb u q [40] w1 h1 yo
 have hA:=(Is f).2.2.2.2;have HC:Hid (∀w1,Ps w1 p tb q→_):=fun w1 h1=>hA q w1 p tb (by omega) h1
 clear yo hA;clear hnm hql;clear hl n0 n1 n2 n3 n4;clear h;go_enter Zf,Zg
 go_wp2_with fail
 refine(HT0.out _ HP0.out).mono ?_;rintro e w1 ⟨rfl,hb⟩;have HF1:=Za (HF0.out.trans (Zb hb));have HP1:=Za (HP0.out.old hb);have HR1:=Za (HR0.out.old hb);clear hb;go_wp2_with fail
 refine(HT1.out _ HP1.out).mono ?_;rintro e w2 ⟨rfl,hb⟩;have HF2:=Za (HF1.out.trans (Zb hb));have HP2:=Za (HP1.out.old hb);have HR2:=Za (HR1.out.old hb);clear hb;go_wp2_with fail
 refine(HT2.out _ HP2.out).mono ?_;rintro e w3 ⟨rfl,hb⟩;have HF3:=Za (HF2.out.trans (Zb hb));have HP3:=Za (HP2.out.old hb);have HR3:=Za (HR2.out.old hb);clear hb;go_wp2_with fail
 refine(HT3.out _ HP3.out).mono ?_;rintro e w4 ⟨rfl,hb⟩;have HF4:=Za (HF3.out.trans (Zb hb));have HP4:=Za (HP3.out.old hb);have HR4:=Za (HR3.out.old hb);clear hb;go_wp2_with fail
 refine(HT4.out _ HP4.out).mono ?_;rintro e w5 ⟨rfl,hb⟩;have HF5:=Za (HF4.out.trans (Zb hb));have HP5:=Za (HP4.out.old hb);have HR5:=Za (HR4.out.old hb);clear hb;go_wp2_with fail
 refine(HNM.out _ HP5.out).mono ?_;intro e w6 he;rw[HNQ.out]at he;obtain⟨hf,v,rfl,hp,hv⟩:=he;have hv:v= .string (Aa s):=hv;subst hv;have HF6:=Za (HF5.out.trans hf);have HP6:=Za hp;have HR6:=Za (HR5.out.sfr hf HNE.out);clear hf hp;go_wp2_with fail
 refine(HTO.out _ HP6.out).mono ?_;rintro e w7 ⟨rfl,hf,hp⟩;have HF7:=Za (HF6.out.trans hf);have HP7:=Za hp;have HR7:=Za (HR6.out.sfr hf HNE.out);clear hf hp;go_wp2_with fail
 refine(HC.out _ HP7.out).mono ?_;intro e w8 he
 cases hA:Ei f q with
 |error n=>
  rw[hA]at he;obtain⟨hf,rfl⟩:=he;have HF:=Za (HF7.out.trans hf);have e1:An f (t::r)= .error n:=by unfold An;rw[Ad HN0.out];dsimp only;rw[Ad HN1.out];dsimp only;rw[Ad HN2.out];dsimp only;rw[Ad HN3.out];dsimp only;rw[Ad HN4.out];dsimp only;rw[HNQ.out];dsimp only;rw[Ao HYO.out];dsimp only;rw[hA]
  have e2:=HRR.out.symm.trans e1;subst e2;clear e1 hf;unfold Ay;go_wp2_with fail
  exact⟨rfl,HF.out,rfl⟩
 |ok q=>
  obtain⟨xs,r2⟩:=q;rw[hA]at he;obtain⟨hf,v,rfl,hp,hv⟩:=he;have hv:Ag (w7.heap.size≤ ·) w8 xs v:=hv;obtain⟨a1,a2,rfl⟩:=hv.shape;have HX8:=Za (hv.up (show w.heap.size+1≤w7.heap.size from HR7.out.lt));clear hv;have HF8:=Za (HF7.out.trans hf);have HP8:=Za hp;have HR8:=Za (HR7.out.sfr hf HNE.out);clear hf hp;have HA8:=Za hA;clear hA;obtain⟨⟨x0,x1,x2,x3,x4⟩,xf0,xf1,xf2,xf3,xf4⟩:=Bf HR8.out;have xlt:=HR8.out.lt;go_wp2_with fail
  have e1:An f (t::r)= .ok (.mk 10 [] [.mk 5 0 0 s xs] [] [],r2):=by unfold An;rw[Ad HN0.out];dsimp only;rw[Ad HN1.out];dsimp only;rw[Ad HN2.out];dsimp only;rw[Ad HN3.out];dsimp only;rw[Ad HN4.out];dsimp only;rw[HNQ.out];dsimp only;rw[Ao HYO.out];dsimp only;rw[HA8.out]
  have e2:=HRR.out.symm.trans e1;subst e2;obtain⟨⟨d0,d1,d2,d3,d4⟩,_⟩:=Bf ((Jd HR8.out (.int .i64 10) (.string ⟨#[]⟩) (.slice (some ⟨w8.heap.size,0,none⟩) 1 1) (.slice none 0 0) (.slice none 0 0)).alloc (.cells #[.int .i64 5,.int .i64 0,.int .i64 0,.string (Aa s),.slice a1 xs.length a2] 27));exact bodyPost_ret (v:= .agg #[.int .i64 10,.string ⟨#[]⟩,.slice (some ⟨w8.heap.size,0,none⟩) 1 1,.slice none 0 0,.slice none 0 0]) (by simp [results,Zh,go_sem,d0,d1,d2,d3,d4]) rfl (Tg (x:= .mk 5 0 0 s xs) HPW.out HF8.out HP8.out HX8.out Dw HR8.out.lt _ _ _ _ _)
theorem Xz(f:Nat)(t:Tk)(r:List Tk)(w:World)(p tb:Nat)(hl:4*(t::r).length≤f)(h:Ps w p tb (t::r))(n0:isP [98,114,101,97,107] t=false)(n1:isP [99,111,110,116,105,110,117,101] t=false)(n2:isP [114,101,116,117,114,110] t=false)(n3:isP [112,114,105,110,116] t=false)(n4:isP [116,114,97,112] t=false)(s:Bs)(u:Tk)(q:List Tk)(hnm:Dg (t::r)= .ok (s,u::q))(no:isP [40] u=false)(ni:isP [91] u=false):
  Calls Zc 204 #[.pointer (some ⟨p,0,none⟩)] w (Dt (StH w.heap.size) w p tb (An f (t::r))):=by
 have HPW:=Za h.lt;have HNE:Hid (w.heap.size≠p):=by show _≠_;have:=h.lt;omega
 have hb0:Below w.heap.size w (w.alloc (.cells #[.int .i64 0,.string ⟨#[]⟩,.slice none 0 0,.slice none 0 0,.slice none 0 0] 60)):=bA;have HF0:Hid (SFr p w (w.alloc (.cells #[.int .i64 0,.string ⟨#[]⟩,.slice none 0 0,.slice none 0 0,.slice none 0 0] 60))):=Zb hb0;have HR0:=Za (Zd w [.int .i64 0,.string ⟨#[]⟩,.slice none 0 0,.slice none 0 0,.slice none 0 0] 60);have HP0:=Za (h.old hb0);clear hb0;obtain⟨R,hR⟩:∃R,An f (t::r)=R:=⟨_,rfl⟩;rw[hR];have HRR:=Za hR;clear hR;have HN0:=Za n0;have HT0:Hid (∀w1,Ps w1 p tb (t::r)→_):=fun w1 h1=>Ai p tb t r [98,114,101,97,107] w1 h1 n0
 have HN1:=Za n1;have HT1:Hid (∀w1,Ps w1 p tb (t::r)→_):=fun w1 h1=>Ai p tb t r [99,111,110,116,105,110,117,101] w1 h1 n1
 have HN2:=Za n2;have HT2:Hid (∀w1,Ps w1 p tb (t::r)→_):=fun w1 h1=>Ai p tb t r [114,101,116,117,114,110] w1 h1 n2
 have HN3:=Za n3;have HT3:Hid (∀w1,Ps w1 p tb (t::r)→_):=fun w1 h1=>Ai p tb t r [112,114,105,110,116] w1 h1 n3
 have HN4:=Za n4;have HT4:Hid (∀w1,Ps w1 p tb (t::r)→_):=fun w1 h1=>Ai p tb t r [116,114,97,112] w1 h1 n4
 rw[Ze]at hl;have HNM:Hid (∀w1,Ps w1 p tb (t::r)→_):=fun w1 h1=>Do p tb (t::r) w1 h1
 have HNQ:=Za hnm;have hql:=Fb hnm;simp only[Ze]at hql;have HNO:=Za no;have HNI:=Za ni;have HTO:Hid (∀w1,Ps w1 p tb (u::q)→_):=fun w1 h1=>Ai p tb u q [40] w1 h1 no
 have HTI:Hid (∀w1,Ps w1 p tb (u::q)→_):=fun w1 h1=>Ai p tb u q [91] w1 h1 ni
 have hE:=(Is f).2.1;have HC:Hid (∀q2 w1,4*q2.length+2≤f→Ps w1 p tb q2→_):=fun q2 w1 h0 h1=>hE q2 w1 p tb h0 h1
 have HLQ:Hid (4*(u::q).length+4≤f):=by show _≤_;simp only[Ze];omega
 clear no ni hE;clear hnm hql;clear hl n0 n1 n2 n3 n4;clear h;go_enter Zf,Zg
 go_wp2_with fail
 refine(HT0.out _ HP0.out).mono ?_;rintro e w1 ⟨rfl,hb⟩;have HF1:=Za (HF0.out.trans (Zb hb));have HP1:=Za (HP0.out.old hb);have HR1:=Za (HR0.out.old hb);clear hb;go_wp2_with fail
 refine(HT1.out _ HP1.out).mono ?_;rintro e w2 ⟨rfl,hb⟩;have HF2:=Za (HF1.out.trans (Zb hb));have HP2:=Za (HP1.out.old hb);have HR2:=Za (HR1.out.old hb);clear hb;go_wp2_with fail
 refine(HT2.out _ HP2.out).mono ?_;rintro e w3 ⟨rfl,hb⟩;have HF3:=Za (HF2.out.trans (Zb hb));have HP3:=Za (HP2.out.old hb);have HR3:=Za (HR2.out.old hb);clear hb;go_wp2_with fail
 refine(HT3.out _ HP3.out).mono ?_;rintro e w4 ⟨rfl,hb⟩;have HF4:=Za (HF3.out.trans (Zb hb));have HP4:=Za (HP3.out.old hb);have HR4:=Za (HR3.out.old hb);clear hb;go_wp2_with fail
 refine(HT4.out _ HP4.out).mono ?_;rintro e w5 ⟨rfl,hb⟩;have HF5:=Za (HF4.out.trans (Zb hb));have HP5:=Za (HP4.out.old hb);have HR5:=Za (HR4.out.old hb);clear hb;go_wp2_with fail
 refine(HNM.out _ HP5.out).mono ?_;intro e w6 he;rw[HNQ.out]at he;obtain⟨hf,v,rfl,hp,hv⟩:=he;have hv:v= .string (Aa s):=hv;subst hv;have HF6:=Za (HF5.out.trans hf);have HP6:=Za hp;have HR6:=Za (HR5.out.sfr hf HNE.out);clear hf hp;go_wp2_with fail
 refine(HTO.out _ HP6.out).mono ?_;rintro e w7 ⟨rfl,hb⟩;have HF7:=Za (HF6.out.trans (Zb hb));have HP7:=Za (HP6.out.old hb);have HR7:=Za (HR6.out.old hb);clear hb;go_wp2_with fail
 refine(HTI.out _ HP7.out).mono ?_;rintro e w8 ⟨rfl,hb⟩;have HF8:=Za (HF7.out.trans (Zb hb));have HP8:=Za (HP7.out.old hb);have HR8:=Za (HR7.out.old hb);clear hb;go_upto_region 18 with(fail)
 have hba:Below w8.heap.size w8 (w8.alloc (.cells #[.string ⟨#[61]⟩] 9)):=bA;have HF9:=Za (HF8.out.trans (Zb hba));have HP9:=Za (HP8.out.old hba);have HR9:=Za (HR8.out.old hba);have HWN:=Za (Cd p tb (u::q) [61] _ HP9.out w8.heap.size 1 ((Zd w8 [.string ⟨#[61]⟩] 9).at 0 _ rfl));clear hba;go_wp2_with fail
 refine(HWN.out).mono ?_;intro e w10 he
 cases hA:Ak [61] (u::q)with
 |error n=>
  rw[hA]at he;obtain⟨hf,rfl⟩:=he;have HF:=Za (HF9.out.trans hf);have e1:An f (t::r)= .error n:=by unfold An;rw[Ad HN0.out];dsimp only;rw[Ad HN1.out];dsimp only;rw[Ad HN2.out];dsimp only;rw[Ad HN3.out];dsimp only;rw[Ad HN4.out];dsimp only;rw[HNQ.out];dsimp only;rw[Ad HNO.out];dsimp only;rw[Ad HNI.out];dsimp only;rw[hA]
  have e2:=HRR.out.symm.trans e1;subst e2;clear e1 hf;unfold Ay;go_wp2_with fail
  exact⟨rfl,HF.out,rfl⟩
 |ok q2=>
  rw[hA]at he;obtain⟨hf,rfl,hp⟩:=he;have HF10:=Za (HF9.out.trans hf);have HP10:=Za hp;have HR10:=Za (HR9.out.sfr hf HNE.out);clear hf hp;have HA10:=Za hA;clear hA;clear HWN;have hlq:4*q2.length+2≤f:=by have h1:=Az HA10.out;have h2:=HLQ.out;omega
  go_wp2_with fail
  refine(HC.out q2 _ hlq HP10.out).mono ?_;intro e w11 he
  cases hA:Aq f 1 q2 with
  |error n=>
   rw[hA]at he;obtain⟨hf,rfl⟩:=he;have HF:=Za (HF10.out.trans hf);have e1:An f (t::r)= .error n:=by unfold An;rw[Ad HN0.out];dsimp only;rw[Ad HN1.out];dsimp only;rw[Ad HN2.out];dsimp only;rw[Ad HN3.out];dsimp only;rw[Ad HN4.out];dsimp only;rw[HNQ.out];dsimp only;rw[Ad HNO.out];dsimp only;rw[Ad HNI.out];dsimp only;rw[HA10.out];dsimp only;rw[hA]
   have e2:=HRR.out.symm.trans e1;subst e2;clear e1 hf;unfold Ay;go_wp2_with fail
   exact⟨rfl,HF.out,rfl⟩
  |ok q=>
   obtain⟨x,r2⟩:=q;rw[hA]at he;obtain⟨hf,v,rfl,hp,hv⟩:=he;obtain⟨s3,rfl,hx,hn⟩:=hv;obtain⟨a1,a2,rfl⟩:=hx.shape;have HX11:=Za (hx.up (show w.heap.size+1≤w10.heap.size from HR10.out.lt));have HN:=Za hn;clear hx hn;have HF11:=Za (HF10.out.trans hf);have HP11:=Za hp;have HR11:=Za (HR10.out.sfr hf HNE.out);clear hf hp;have HA11:=Za hA;clear hA;clear hlq;obtain⟨⟨x0,x1,x2,x3,x4⟩,xf0,xf1,xf2,xf3,xf4⟩:=Bf HR11.out;have xlt:=HR11.out.lt;go_wp2_with fail
   have e1:An f (t::r)= .ok (.mk 1 s [x] [] [],r2):=by unfold An;rw[Ad HN0.out];dsimp only;rw[Ad HN1.out];dsimp only;rw[Ad HN2.out];dsimp only;rw[Ad HN3.out];dsimp only;rw[Ad HN4.out];dsimp only;rw[HNQ.out];dsimp only;rw[Ad HNO.out];dsimp only;rw[Ad HNI.out];dsimp only;rw[HA10.out];dsimp only;rw[HA11.out]
   have e2:=HRR.out.symm.trans e1;subst e2;obtain⟨⟨d0,d1,d2,d3,d4⟩,_⟩:=Bf ((Jd HR11.out (.int .i64 1) (.string (Aa s)) (.slice (some ⟨w11.heap.size,0,none⟩) 1 1) (.slice none 0 0) (.slice none 0 0)).alloc (.cells #[.int .i64 x.kind,.int .i64 x.op,.int .i64 x.n,.string (Aa x.name),.slice a1 x.args.length a2] 27));exact bodyPost_ret (v:= .agg #[.int .i64 1,.string (Aa s),.slice (some ⟨w11.heap.size,0,none⟩) 1 1,.slice none 0 0,.slice none 0 0]) (by simp [results,Zh,go_sem,d0,d1,d2,d3,d4]) rfl (Tg HPW.out HF11.out HP11.out HX11.out HN.out HR11.out.lt _ _ _ _ _)
structure VY2 (p tb b0 be:Nat)(nm:Bs)(x y:Ex)(xa:Option Addr)(xc:Nat)(l r2:List Tk)(err:Option Int)(W:World)(L:Nat→Bool)(sa:Option Addr)(sc:Nat)(nb:Nat)(z51 z52 z53 z54 z55 z56:Value)(wx:World):Prop where
 ord:L 6=true→∀j,j<6→L j=true
 p4_3:L 4=true→L 3=true
 p5_4:L 5=true→L 4=true
 p6_4:L 6=true→L 4=true
 c0:L 0=true→z51= .string (Aa nm)
 c1:L 1=true→z52=exV x (.slice xa x.args.length xc)
 c2:L 2=true→z53= .pointer (some ⟨p,0,none⟩)
 c3:L 3=true→z54=exV y (.slice sa y.args.length sc)
 c4:L 4=true→z55= .slice (some ⟨nb,0,none⟩) 2 2
 c5:L 5=true→z56= .agg #[.int .i64 2,.string (Aa nm),.slice (some ⟨nb,0,none⟩) 2 2,.slice none 0 0,.slice none 0 0]
 fr:AFr p b0 W.heap.size W wx
 pa:L 3=false→Ps wx p tb l
 pb:L 3=true→Ps wx p tb r2
 e:Ac wx be [.int .i64 x.kind,.int .i64 x.op,.int .i64 x.n,.string (Aa x.name),.slice xa x.args.length xc] 27
 r0:L 6=false→Ac wx b0 [.int .i64 0,.string ⟨#[]⟩,.slice none 0 0,.slice none 0 0,.slice none 0 0] 60
 r1:L 6=true→Ac wx b0 [.int .i64 2,.string (Aa nm),.slice (some ⟨nb,0,none⟩) 2 2,.slice none 0 0,.slice none 0 0] 60
 xx:Ag (b0+1≤ ·) wx x.args (.slice xa x.args.length xc)
 ya:L 3=true→Ag (b0+1≤ ·) wx y.args (.slice sa y.args.length sc)
 yn:L 3=true→I64 y.n
 xy:L 4=true→Ag (b0+1≤ ·) wx [x,y] (.slice (some ⟨nb,0,none⟩) 2 2)
def IY2(p tb b0 be:Nat)(nm:Bs)(x y:Ex)(xa:Option Addr)(xc:Nat)(l r2:List Tk)(err:Option Int)(W:World)(q1 q5 q6 q7 q8 q9 q10 q11 q12 q13 q14 q15 q16 q17 q18 q19 q20 q21 q22 q23 q24 q25 q26 q27 q28 q29 q30 q31 q32 q33 q34 q35 q36 q37 q38 q39 q40 q41 q42 q43 q44 q45 q46 q47 q48 q49 q50 q57 q58 q59 q60 q61 q62 q63 q64:Value)(L:Nat→Bool)(a':Act)(w':World):Prop:=
 ∃sa:Option Addr,∃sc:Nat,∃nb:Nat,∃z51 z52 z53 z54 z55 z56:Value,VY2 p tb b0 be nm x y xa xc l r2 err W L sa sc nb z51 z52 z53 z54 z55 z56 w'∧a'=⟨[.pointer (some ⟨p,0,none⟩),q1,.pointer (some ⟨b0,0,none⟩),.string (Aa nm),.pointer (some ⟨be,0,none⟩),q5,q6,q7,q8,q9,q10,q11,q12,q13,q14,q15,q16,q17,q18,q19,q20,q21,q22,q23,q24,q25,q26,q27,q28,q29,q30,q31,q32,q33,q34,q35,q36,q37,q38,q39,q40,q41,q42,q43,q44,q45,q46,q47,q48,q49,q50,z51,z52,z53,z54,z55,z56,q57,q58,q59,q60,q61,q62,q63,q64].toArray,[]⟩
def RY2(p tb b0 be:Nat)(nm:Bs)(x y:Ex)(xa:Option Addr)(xc:Nat)(l r2:List Tk)(err:Option Int)(W:World)(q1 q5 q6 q7 q8 q9 q10 q11 q12 q13 q14 q15 q16 q17 q18 q19 q20 q21 q22 q23 q24 q25 q26 q27 q28 q29 q30 q31 q32 q33 q34 q35 q36 q37 q38 q39 q40 q41 q42 q43 q44 q45 q46 q47 q48 q49 q50 q57 q58 q59 q60 q61 q62 q63 q64:Value)(a':Act)(w':World):Prop:=
 ∃sa:Option Addr,∃sc:Nat,∃nb:Nat,(AFr p b0 W.heap.size W w'∧Ps w' p tb r2∧Ac w' b0 [.int .i64 2,.string (Aa nm),.slice (some ⟨nb,0,none⟩) 2 2,.slice none 0 0,.slice none 0 0] 60∧Ag (b0+1≤ ·) w' [x,y] (.slice (some ⟨nb,0,none⟩) 2 2))∧a'=⟨[.pointer (some ⟨p,0,none⟩),q1,.pointer (some ⟨b0,0,none⟩),.string (Aa nm),.pointer (some ⟨be,0,none⟩),q5,q6,q7,q8,q9,q10,q11,q12,q13,q14,q15,q16,q17,q18,q19,q20,q21,q22,q23,q24,q25,q26,q27,q28,q29,q30,q31,q32,q33,q34,q35,q36,q37,q38,q39,q40,q41,q42,q43,q44,q45,q46,q47,q48,q49,q50,.string (Aa nm),exV x (.slice xa x.args.length xc),.pointer (some ⟨p,0,none⟩),exV y (.slice sa y.args.length sc),.slice (some ⟨nb,0,none⟩) 2 2,.agg #[.int .i64 2,.string (Aa nm),.slice (some ⟨nb,0,none⟩) 2 2,.slice none 0 0,.slice none 0 0],q57,q58,q59,q60,q61,q62,q63,q64].toArray,[]⟩
theorem dK(p tb b0 be:Nat)(nm:Bs)(x y:Ex)(xa:Option Addr)(xc:Nat)(l r2:List Tk)(err:Option Int)(W:World)(hps:Ps W p tb l)(he:Ac W be [.int .i64 x.kind,.int .i64 x.op,.int .i64 x.n,.string (Aa x.name),.slice xa x.args.length xc] 27)(hr:Ac W b0 [.int .i64 0,.string ⟨#[]⟩,.slice none 0 0,.slice none 0 0,.slice none 0 0] 60)(hx:Ag (b0+1≤ ·) W x.args (.slice xa x.args.length xc))(hxn:I64 x.n)(hpb:p<b0)(hbe:b0<be)(HE:Hid (∀w1,Ps w1 p tb l→Calls Zc 27 #[.pointer (some ⟨p,0,none⟩)] w1 fun e w'=>match err with|some n=>e=Ay n∧SFr p w1 w'|none=> ∃s,e= .returned (exV y s)∧SFr p w1 w'∧Ps w' p tb r2∧Ag (w1.heap.size≤ ·) w' y.args s∧I64 y.n))(Q:Exit→Act→World→Prop)(hQ:∀n a' w',err=some n→a'.defers=[]→AFr p b0 W.heap.size W w'→Q (.panic [{v:= .iface 110 (.agg #[.int .i64 n]),recovered:=false}]) a' w')(q1 q5 q6 q7 q8 q9 q10 q11 q12 q13 q14 q15 q16 q17 q18 q19 q20 q21 q22 q23 q24 q25 q26 q27 q28 q29 q30 q31 q32 q33 q34 q35 q36 q37 q38 q39 q40 q41 q42 q43 q44 q45 q46 q47 q48 q49 q50 q51 q52 q53 q54 q55 q56 q57 q58 q59 q60 q61 q62 q63 q64:Value)(J K':Act→World→Prop)(hJ:∀a' w',RY2 p tb b0 be nm x y xa xc l r2 err W q1 q5 q6 q7 q8 q9 q10 q11 q12 q13 q14 q15 q16 q17 q18 q19 q20 q21 q22 q23 q24 q25 q26 q27 q28 q29 q30 q31 q32 q33 q34 q35 q36 q37 q38 q39 q40 q41 q42 q43 q44 q45 q46 q47 q48 q49 q50 q57 q58 q59 q60 q61 q62 q63 q64 a' w'→J a' w')(hM:∀a' w',Met J a' w'→K' a' w'):
  Code.wp Zc ((Tryz.f204.body.bind (Hj 17)).getD .skip) (Exit.then K' Q) ⟨[.pointer (some ⟨p,0,none⟩),q1,.pointer (some ⟨b0,0,none⟩),.string (Aa nm),.pointer (some ⟨be,0,none⟩),q5,q6,q7,q8,q9,q10,q11,q12,q13,q14,q15,q16,q17,q18,q19,q20,q21,q22,q23,q24,q25,q26,q27,q28,q29,q30,q31,q32,q33,q34,q35,q36,q37,q38,q39,q40,q41,q42,q43,q44,q45,q46,q47,q48,q49,q50,q51,q52,q53,q54,q55,q56,q57,q58,q59,q60,q61,q62,q63,q64].toArray,[]⟩ W:=by
 have HPS:=Za hps;have HEX:=Za he;have HRO:=Za hr;have HXX:=Za hx;have HXN:=Za hxn;have HQ:=Za hQ;have hew:be<W.heap.size:=he.lt;clear hps he hr hx hxn hQ
 conv=>arg 2;whnf
 (try dsimp only);refine Fc (by kernel_rfl) (by kernel_rfl) (IY2 p tb b0 be nm x y xa xc l r2 err W q1 q5 q6 q7 q8 q9 q10 q11 q12 q13 q14 q15 q16 q17 q18 q19 q20 q21 q22 q23 q24 q25 q26 q27 q28 q29 q30 q31 q32 q33 q34 q35 q36 q37 q38 q39 q40 q41 q42 q43 q44 q45 q46 q47 q48 q49 q50 q57 q58 q59 q60 q61 q62 q63 q64) ?_ ?_ ?_
 ·exact⟨none,0,0,q51,q52,q53,q54,q55,q56,⟨(fun h=>by cases h),(fun h=>by cases h),(fun h=>by cases h),(fun h=>by cases h),(fun h=>by cases h),(fun h=>by cases h),(fun h=>by cases h),(fun h=>by cases h),(fun h=>by cases h),(fun h=>by cases h),((AFr.refl p b0 W.heap.size W).old (Below.refl _ _).drew),(fun _=>HPS.out.old (Below.refl _ _).drew),(fun h=>by cases h),(HEX.out.old (Below.refl _ _).drew),(fun _=>HRO.out.old (Below.refl _ _).drew),(fun h=>by cases h),(HXX.out.old (Below.refl _ _).drew),(fun h=>by cases h),(fun h=>by cases h),(fun h=>by cases h)⟩,rfl⟩
 ·intro L act wx k hI hk hl hd
  obtain⟨sa,sc,nb,z51,z52,z53,z54,z55,z56,hV,rfl⟩:=hI;have hk:k=0∨k=1∨k=2∨k=3∨k=4∨k=5∨k=6:=by
   have:k<7:=hk;omega
  rcases hk with rfl|rfl|rfl|rfl|rfl|rfl|rfl
  ·have nl:=kf hV.ord hl
   refine Bg _ rfl rfl (fun K' hK=> ?_)
   conv=>arg 2;whnf
   go_wp2_with fail
   exact⟨sa,sc,nb,.string (Aa nm),z52,z53,z54,z55,z56,⟨kl nl,kq hV.p4_3,kq hV.p5_4,kq hV.p6_4,(fun _=>rfl),kc hV.c1,kc hV.c2,kc hV.c3,kc hV.c4,kc hV.c5,hV.fr,(fun h0=>hV.pa (kb h0)),kc hV.pb,hV.e,(fun h0=>hV.r0 (kb h0)),kl nl,hV.xx,kc hV.ya,kc hV.yn,kc hV.xy⟩,rfl⟩
  ·have nl:=kf hV.ord hl
   have hx:=hV.e;have e0:=hx.at 0 _ rfl;have e1:=hx.at 1 _ rfl;have e2:=hx.at 2 _ rfl;have e3:=hx.at 3 _ rfl;have e4:=hx.at 4 _ rfl;refine Bg _ rfl rfl (fun K' hK=> ?_)
   conv=>arg 2;whnf
   go_wp2_with fail
   exact⟨sa,sc,nb,z51,exV x (.slice xa x.args.length xc),z53,z54,z55,z56,⟨kl nl,kq hV.p4_3,kq hV.p5_4,kq hV.p6_4,kc hV.c0,(fun _=>rfl),kc hV.c2,kc hV.c3,kc hV.c4,kc hV.c5,hV.fr,(fun h0=>hV.pa (kb h0)),kc hV.pb,hV.e,(fun h0=>hV.r0 (kb h0)),kl nl,hV.xx,kc hV.ya,kc hV.yn,kc hV.xy⟩,rfl⟩
  ·have nl:=kf hV.ord hl
   refine Bg _ rfl rfl (fun K' hK=> ?_)
   conv=>arg 2;whnf
   go_wp2_with fail
   exact⟨sa,sc,nb,z51,z52,.pointer (some ⟨p,0,none⟩),z54,z55,z56,⟨kl nl,kq hV.p4_3,kq hV.p5_4,kq hV.p6_4,kc hV.c0,kc hV.c1,(fun _=>rfl),kc hV.c3,kc hV.c4,kc hV.c5,hV.fr,(fun h0=>hV.pa (kb h0)),kc hV.pb,hV.e,(fun h0=>hV.r0 (kb h0)),kl nl,hV.xx,kc hV.ya,kc hV.yn,kc hV.xy⟩,rfl⟩
  ·have nl:=kf hV.ord hl
   have d2:L 2=true:=hd _ rfl ⟨2,.data⟩ (by simp) rfl;obtain rfl:=(hV.c2 d2).symm;have hps:=hV.pa hl;refine Bg _ rfl rfl (fun K' hK=> ?_)
   conv=>arg 2;whnf
   have HPX:=Za hps;have HFX:=Za hV.fr;clear hps;go_wp2_with fail
   refine(HE.out _ HPX.out).mono ?_;intro e w7 he
   cases err with
   |some n=>
    obtain⟨rfl,hf⟩:=he;unfold Ay;have HF:=Za (HFX.out.trans (AFr.of_sfr hf));clear hf hK hV;go_wp2_with fail
    exact HQ.out n _ _ rfl rfl HF.out
   |none=>
   obtain⟨s1,rfl,hf7,hp7,hx7,hn7⟩:=he;obtain⟨a7,c7,rfl⟩:=hx7.shape;go_wp2_with fail
   exact⟨a7,c7,nb,z51,z52,.pointer (some ⟨p,0,none⟩),exV y (.slice (a7) y.args.length (c7)),z55,z56,⟨kl nl,(fun _=>Bh L 3),kq hV.p5_4,kq hV.p6_4,kc hV.c0,kc hV.c1,kc hV.c2,(fun _=>rfl),kc hV.c4,kc hV.c5,(hV.fr.trans (AFr.of_sfr hf7)),(ks),(fun _=>hp7),(hV.e.sfr hf7 (by omega)),(fun h=>(hV.r0 (kb h)).sfr hf7 (by omega)),kl nl,(hV.xx.keep (hf7.fresh (by omega))),(fun _=>hx7.mono (fun b hb=>by have h1:wx.heap.size≤b:=hb;have h2:=hV.fr.size;omega)),(fun _=>hn7),(kn hV.p4_3 hl)⟩,rfl⟩
  ·have nl:=kf hV.ord hl
   have d1:L 1=true:=hd _ rfl ⟨1,.data⟩ (by simp) rfl;obtain rfl:=(hV.c1 d1).symm;have d3:L 3=true:=hd _ rfl ⟨3,.data⟩ (by simp) rfl;obtain rfl:=(hV.c3 d3).symm;have hal:Below wx.heap.size wx (wx.alloc (.cells #[.int .i64 x.kind,.int .i64 x.op,.int .i64 x.n,.string (Aa x.name),.slice xa x.args.length xc,.int .i64 y.kind,.int .i64 y.op,.int .i64 y.n,.string (Aa y.name),.slice sa y.args.length sc] 27)):=bA;have hfs:=hV.fr.size;refine Bg _ rfl rfl (fun K' hK=> ?_)
   conv=>arg 2;whnf
   go_wp2_with fail
   exact⟨sa,sc,wx.heap.size,z51,exV x (.slice xa x.args.length xc),z53,exV y (.slice sa y.args.length sc),.slice (some ⟨(wx.heap.size),0,none⟩) 2 2,z56,⟨kl nl,(kd (d3)),(fun _=>Bh L 4),(fun _=>Bh L 4),kc hV.c0,kc hV.c1,kc hV.c2,kc hV.c3,(fun _=>rfl),(kn hV.p5_4 hl),(AFr.old (hV.fr) hal),(fun h0=>Ps.old (hV.pa (kb h0)) hal),(fun h0=>Ps.old (hV.pb (kb h0)) hal),(Ac.old (hV.e) hal),(fun h0=>Ac.old (hV.r0 (kb h0)) hal),kl nl,(Ag.old hal (hV.xx)),(fun h0=>Ag.old hal (hV.ya (kb h0))),(fun h0=>(hV.yn (kb h0))),(fun _=>ex_box2 hV.xx HXN.out (hV.ya d3) (hV.yn d3) (by omega))⟩,rfl⟩
  ·have nl:=kf hV.ord hl
   have d0:L 0=true:=hd _ rfl ⟨0,.data⟩ (by simp) rfl;obtain rfl:=(hV.c0 d0).symm;have d4:L 4=true:=hd _ rfl ⟨4,.data⟩ (by simp) rfl;obtain rfl:=(hV.c4 d4).symm;refine Bg _ rfl rfl (fun K' hK=> ?_)
   conv=>arg 2;whnf
   go_wp2_with fail
   exact⟨sa,sc,nb,.string (Aa nm),z52,z53,z54,.slice (some ⟨nb,0,none⟩) 2 2,.agg #[.int .i64 2,.string (Aa nm),.slice (some ⟨nb,0,none⟩) 2 2,.slice none 0 0,.slice none 0 0],⟨kl nl,kq hV.p4_3,(kd (d4)),kq hV.p6_4,kc hV.c0,kc hV.c1,kc hV.c2,kc hV.c3,kc hV.c4,(fun _=>rfl),hV.fr,(fun h0=>hV.pa (kb h0)),kc hV.pb,hV.e,(fun h0=>hV.r0 (kb h0)),kl nl,hV.xx,kc hV.ya,kc hV.yn,kc hV.xy⟩,rfl⟩
  ·have before:∀j,j<6→L j=true:=fun j hj=>by
    have hj:j=0∨j=1∨j=2∨j=3∨j=4∨j=5:=by omega
    rcases hj with rfl|rfl|rfl|rfl|rfl|rfl
    ·exact hd _ rfl ⟨0,.phase⟩ (by simp) rfl
    ·exact hd _ rfl ⟨1,.phase⟩ (by simp) rfl
    ·exact hd _ rfl ⟨2,.phase⟩ (by simp) rfl
    ·exact hd _ rfl ⟨3,.chain⟩ (by simp) rfl
    ·exact hd _ rfl ⟨4,.phase⟩ (by simp) rfl
    ·exact hd _ rfl ⟨5,.data⟩ (by simp) rfl
   have d3:L 3=true:=hd _ rfl ⟨3,.chain⟩ (by simp) rfl;have d5:L 5=true:=hd _ rfl ⟨5,.data⟩ (by simp) rfl;obtain rfl:=(hV.c5 d5).symm;have hr:=hV.r0 hl;have x0:=hr.at 0 _ rfl;have x1:=hr.at 1 _ rfl;have x2:=hr.at 2 _ rfl;have x3:=hr.at 3 _ rfl;have x4:=hr.at 4 _ rfl;have f0:=hr.fz 0;have f1:=hr.fz 1;have f2:=hr.fz 2;have f3:=hr.fz 3;have f4:=hr.fz 4;have hrl:=hr.lt;refine Bg _ rfl rfl (fun K' hK=> ?_)
   conv=>arg 2;whnf
   go_wp2_with fail
   exact⟨sa,sc,nb,z51,z52,z53,z54,z55,.agg #[.int .i64 2,.string (Aa nm),.slice (some ⟨nb,0,none⟩) 2 2,.slice none 0 0,.slice none 0 0],⟨(fun _ j hj=>by rw[Bd L (show j≠6 by omega)];exact before j hj),kq hV.p4_3,kq hV.p5_4,(kd (before 4 (by decide))),kc hV.c0,kc hV.c1,kc hV.c2,kc hV.c3,kc hV.c4,kc hV.c5,(((((hV.fr.set _ _).set _ _).set _ _).set _ _).set _ _),(fun h=>by rw[Bd L (by decide)]at h;rw[d3]at h;cases h),(fun _=>ps5 (hV.pb d3) hpb _ _ _ _ _),(((((hV.e.other (by omega) _ _).other (by omega) _ _).other (by omega) _ _).other (by omega) _ _).other (by omega) _ _),(ks),(fun _=>Jd hr _ _ _ _ _),(hV.xx.keep (Gz _ (by show ¬b0+1≤b0;omega) _ _ _ _ _)),(fun _=>(hV.ya d3).keep (Gz _ (by show ¬b0+1≤b0;omega) _ _ _ _ _)),(fun _=>hV.yn d3),(fun _=>(hV.xy (before 4 (by decide))).keep (Gz _ (by show ¬b0+1≤b0;omega) _ _ _ _ _))⟩,rfl⟩
 ·intro L act wx hI hall
  obtain⟨sa,sc,nb,z51,z52,z53,z54,z55,z56,hV,rfl⟩:=hI;obtain rfl:=(hV.c0 (hall 0 (by decide))).symm;obtain rfl:=(hV.c1 (hall 1 (by decide))).symm;obtain rfl:=(hV.c2 (hall 2 (by decide))).symm;obtain rfl:=(hV.c3 (hall 3 (by decide))).symm;obtain rfl:=(hV.c4 (hall 4 (by decide))).symm;obtain rfl:=(hV.c5 (hall 5 (by decide))).symm;exact hM _ _ (Met.intro (hJ _ _ ⟨sa,sc,nb,⟨hV.fr,hV.pb (hall 3 (by decide)),hV.r1 (hall 6 (by decide)),hV.xy (hall 4 (by decide))⟩,rfl⟩))
theorem Of {p ob base:Nat}{w W w':World}(h:SFr p w W)(k:AFr p ob base W w')(hb:w.heap.size≤base)(ho:w.heap.size≤ob):SFr p w w':=
 ⟨k.os.trans h.os,k.tape.trans h.tape,k.output.trans h.output,Nat.le_trans h.size k.size,fun i hi hp=>(k.block i (Nat.lt_of_lt_of_le hi h.size) (by omega) hp (by omega)).trans (h.block i hi hp)⟩
theorem Ta(f:Nat)(t:Tk)(r:List Tk)(w:World)(p tb:Nat)(hl:4*(t::r).length≤f)(h:Ps w p tb (t::r))(n0:isP [98,114,101,97,107] t=false)(n1:isP [99,111,110,116,105,110,117,101] t=false)(n2:isP [114,101,116,117,114,110] t=false)(n3:isP [112,114,105,110,116] t=false)(n4:isP [116,114,97,112] t=false)(s:Bs)(u:Tk)(q:List Tk)(hnm:Dg (t::r)= .ok (s,u::q))(no:isP [40] u=false)(yi:isP [91] u=true):
  Calls Zc 204 #[.pointer (some ⟨p,0,none⟩)] w (Dt (StH w.heap.size) w p tb (An f (t::r))):=by
 have HPW:=Za h.lt;have HNE:Hid (w.heap.size≠p):=by show _≠_;have:=h.lt;omega
 have hb0:Below w.heap.size w (w.alloc (.cells #[.int .i64 0,.string ⟨#[]⟩,.slice none 0 0,.slice none 0 0,.slice none 0 0] 60)):=bA;have HF0:Hid (SFr p w (w.alloc (.cells #[.int .i64 0,.string ⟨#[]⟩,.slice none 0 0,.slice none 0 0,.slice none 0 0] 60))):=Zb hb0;have HR0:=Za (Zd w [.int .i64 0,.string ⟨#[]⟩,.slice none 0 0,.slice none 0 0,.slice none 0 0] 60);have HP0:=Za (h.old hb0);clear hb0;obtain⟨R,hR⟩:∃R,An f (t::r)=R:=⟨_,rfl⟩;rw[hR];have HRR:=Za hR;clear hR;have HN0:=Za n0;have HT0:Hid (∀w1,Ps w1 p tb (t::r)→_):=fun w1 h1=>Ai p tb t r [98,114,101,97,107] w1 h1 n0
 have HN1:=Za n1;have HT1:Hid (∀w1,Ps w1 p tb (t::r)→_):=fun w1 h1=>Ai p tb t r [99,111,110,116,105,110,117,101] w1 h1 n1
 have HN2:=Za n2;have HT2:Hid (∀w1,Ps w1 p tb (t::r)→_):=fun w1 h1=>Ai p tb t r [114,101,116,117,114,110] w1 h1 n2
 have HN3:=Za n3;have HT3:Hid (∀w1,Ps w1 p tb (t::r)→_):=fun w1 h1=>Ai p tb t r [112,114,105,110,116] w1 h1 n3
 have HN4:=Za n4;have HT4:Hid (∀w1,Ps w1 p tb (t::r)→_):=fun w1 h1=>Ai p tb t r [116,114,97,112] w1 h1 n4
 rw[Ze]at hl;have HNM:Hid (∀w1,Ps w1 p tb (t::r)→_):=fun w1 h1=>Do p tb (t::r) w1 h1
 have HNQ:=Za hnm;have hql:=Fb hnm;simp only[Ze]at hql;have HNO:=Za no;have HYI:=Za yi;have HTO:Hid (∀w1,Ps w1 p tb (u::q)→_):=fun w1 h1=>Ai p tb u q [40] w1 h1 no
 have HTI:Hid (∀w1,Ps w1 p tb (u::q)→_):=fun w1 h1=>Bc p tb u q [91] w1 h1 yi
 have hE:=(Is f).2.1;have HC:Hid (∀q2 w1,4*q2.length+2≤f→Ps w1 p tb q2→_):=fun q2 w1 h0 h1=>hE q2 w1 p tb h0 h1
 have HLQ:Hid (4*(u::q).length+4≤f):=by show _≤_;simp only[Ze];omega
 clear no yi hE;clear hnm hql;clear hl n0 n1 n2 n3 n4;clear h;go_enter Zf,Zg
 go_wp2_with fail
 refine(HT0.out _ HP0.out).mono ?_;rintro e w1 ⟨rfl,hb⟩;have HF1:=Za (HF0.out.trans (Zb hb));have HP1:=Za (HP0.out.old hb);have HR1:=Za (HR0.out.old hb);clear hb;go_wp2_with fail
 refine(HT1.out _ HP1.out).mono ?_;rintro e w2 ⟨rfl,hb⟩;have HF2:=Za (HF1.out.trans (Zb hb));have HP2:=Za (HP1.out.old hb);have HR2:=Za (HR1.out.old hb);clear hb;go_wp2_with fail
 refine(HT2.out _ HP2.out).mono ?_;rintro e w3 ⟨rfl,hb⟩;have HF3:=Za (HF2.out.trans (Zb hb));have HP3:=Za (HP2.out.old hb);have HR3:=Za (HR2.out.old hb);clear hb;go_wp2_with fail
 refine(HT3.out _ HP3.out).mono ?_;rintro e w4 ⟨rfl,hb⟩;have HF4:=Za (HF3.out.trans (Zb hb));have HP4:=Za (HP3.out.old hb);have HR4:=Za (HR3.out.old hb);clear hb;go_wp2_with fail
 refine(HT4.out _ HP4.out).mono ?_;rintro e w5 ⟨rfl,hb⟩;have HF5:=Za (HF4.out.trans (Zb hb));have HP5:=Za (HP4.out.old hb);have HR5:=Za (HR4.out.old hb);clear hb;go_wp2_with fail
 refine(HNM.out _ HP5.out).mono ?_;intro e w6 he;rw[HNQ.out]at he;obtain⟨hf,v,rfl,hp,hv⟩:=he;have hv:v= .string (Aa s):=hv;subst hv;have HF6:=Za (HF5.out.trans hf);have HP6:=Za hp;have HR6:=Za (HR5.out.sfr hf HNE.out);clear hf hp;go_wp2_with fail
 refine(HTO.out _ HP6.out).mono ?_;rintro e w7 ⟨rfl,hb⟩;have HF7:=Za (HF6.out.trans (Zb hb));have HP7:=Za (HP6.out.old hb);have HR7:=Za (HR6.out.old hb);clear hb;go_wp2_with fail
 refine(HTI.out _ HP7.out).mono ?_;rintro e w8 ⟨rfl,hf,hp⟩;have HF8:=Za (HF7.out.trans hf);have HP8:=Za hp;have HR8:=Za (HR7.out.sfr hf HNE.out);clear hf hp;have hlq:4*q.length+2≤f:=by have:=HLQ.out;simp only[Ze]at this;omega
 go_wp2_with fail
 refine(HC.out q _ hlq HP8.out).mono ?_;intro e w9 he
 cases hA:Aq f 1 q with
 |error n=>
  rw[hA]at he;obtain⟨hf,rfl⟩:=he;have HF:=Za (HF8.out.trans hf);have e1:An f (t::r)= .error n:=by unfold An;rw[Ad HN0.out];dsimp only;rw[Ad HN1.out];dsimp only;rw[Ad HN2.out];dsimp only;rw[Ad HN3.out];dsimp only;rw[Ad HN4.out];dsimp only;rw[HNQ.out];dsimp only;rw[Ad HNO.out];dsimp only;rw[Ao HYI.out];dsimp only;rw[hA]
  have e2:=HRR.out.symm.trans e1;subst e2;clear e1 hf;unfold Ay;go_wp2_with fail
  exact⟨rfl,HF.out,rfl⟩
 |ok q=>
  obtain⟨x,r1⟩:=q;rw[hA]at he;obtain⟨hf,v,rfl,hp,hv⟩:=he;obtain⟨s3,rfl,hx,hn⟩:=hv;obtain⟨a1,a2,rfl⟩:=hx.shape;have HX9:=Za (hx.up (show w.heap.size+1≤w8.heap.size from HR8.out.lt));have HN:=Za hn;clear hx hn;have HF9:=Za (HF8.out.trans hf);have HP9:=Za hp;have HR9:=Za (HR8.out.sfr hf HNE.out);clear hf hp;have HA9:=Za hA;clear hA;clear hlq;go_upto_region 16 with(fail)
  obtain⟨W,hW⟩:∃W,w9.alloc (.cells #[.int .i64 x.kind,.int .i64 x.op,.int .i64 x.n,.string (Aa x.name),.slice a1 x.args.length a2] 27)=W:=⟨_,rfl⟩;rw[hW];have hba:Below w9.heap.size w9 W:=hW ▸ bA;have HF10:=Za (HF9.out.trans (Zb hba));have HP10:=Za (HP9.out.old hba);have HR10:=Za (HR9.out.old hba);have HX10:=Za (HX9.out.old hba);have HE10:=Za (hW ▸ Zd w9 [.int .i64 x.kind,.int .i64 x.op,.int .i64 x.n,.string (Aa x.name),.slice a1 x.args.length a2] 27);have HEP:Hid (w9.heap.size≠p):=by show _≠_;have:=HP9.out.lt;omega
  clear hba hW;obtain⟨w10,hWW⟩:∃w10,w10=W:=⟨_,rfl⟩;subst hWW;have hba:Below w10.heap.size w10 (w10.alloc (.cells #[.string ⟨#[93]⟩,.string ⟨#[61]⟩] 9)):=bA;have hwp:w10.heap.size≠p:=by have:=HP10.out.lt;omega
  have HF11:=Za (HF10.out.trans (Zb hba));have HP11:=Za (HP10.out.old hba);have HR11:=Za (HR10.out.old hba);have HE11:=Za (HE10.out.old hba);have HX11:=Za (HX10.out.old hba);have HWN:=Za (Kt p tb r1 [93] [61] _ HP11.out w10.heap.size 2 ((Zd w10 [.string ⟨#[93]⟩,.string ⟨#[61]⟩] 9).at 0 _ rfl) ((Zd w10 [.string ⟨#[93]⟩,.string ⟨#[61]⟩] 9).at 1 _ rfl) hwp);clear hba hwp;go_wp2_with fail
  refine(HWN.out).mono ?_;intro e w12 he
  cases hA:Es [93] [61] r1 with
  |error n=>
   rw[hA]at he;obtain⟨hf,rfl⟩:=he;have HF:=Za (HF11.out.trans hf);have e1:An f (t::r)= .error n:=by unfold An;rw[Ad HN0.out];dsimp only;rw[Ad HN1.out];dsimp only;rw[Ad HN2.out];dsimp only;rw[Ad HN3.out];dsimp only;rw[Ad HN4.out];dsimp only;rw[HNQ.out];dsimp only;rw[Ad HNO.out];dsimp only;rw[Ao HYI.out];dsimp only;rw[HA9.out];dsimp only;unfold Es at hA;cases hB:Ak [93] r1 with
    |error n=>rw[hB]at hA;injection hA with hA;subst hA;rfl
    |ok z=>rw[hB]at hA;dsimp only at hA ⊢;rw[hA]
   have e2:=HRR.out.symm.trans e1;subst e2;clear e1 hf;unfold Ay;go_wp2_with fail
   exact⟨rfl,HF.out,rfl⟩
  |ok q2=>
   rw[hA]at he;obtain⟨hf,rfl,hp⟩:=he;have HF12:=Za (HF11.out.trans hf);have HP12:=Za hp;have HR12:=Za (HR11.out.sfr hf HNE.out);have HE12:=Za (HE11.out.sfr hf HEP.out);have HX12:=Za (HX11.out.keep (hf.fresh (by have:=HPW.out;omega)));clear hf hp;have HA12:=Za hA;clear hA;clear HWN;go_upto_region 17 with(fail)
   have hlq:4*q2.length+2≤f:=by
    have h1:=(Db f).1 _ _ _ _ HA9.out;have h2:=HLQ.out;have h3:=HA12.out;unfold Es at h3
    cases hB:Ak [93] r1 with
    |error n=>rw[hB]at h3;cases h3
    |ok z=>
     rw[hB]at h3;have h4:=Az hB;have h5:=Az h3;simp only[Ze]at h2;omega
   have hw2:∃z,Ak [93] r1= .ok z∧Ak [61] z= .ok q2:=by
    have h3:=HA12.out;unfold Es at h3
    cases hB:Ak [93] r1 with
    |error n=>rw[hB]at h3;cases h3
    |ok z=>rw[hB]at h3;exact⟨z,rfl,h3⟩
   obtain⟨z,hw1,hw2⟩:=hw2;have hbe:w.heap.size<w9.heap.size:=HR9.out.lt;have hcq:=fun w1 h1=>HC.out q2 w1 hlq h1
   cases hy:Aq f 1 q2 with
   |error n=>
    have e1:An f (t::r)= .error n:=by unfold An;rw[Ad HN0.out];dsimp only;rw[Ad HN1.out];dsimp only;rw[Ad HN2.out];dsimp only;rw[Ad HN3.out];dsimp only;rw[Ad HN4.out];dsimp only;rw[HNQ.out];dsimp only;rw[Ad HNO.out];dsimp only;rw[Ao HYI.out];dsimp only;rw[HA9.out];dsimp only;rw[hw1];dsimp only;rw[hw2];dsimp only;rw[hy]
    have e2:=HRR.out.symm.trans e1;subst e2;clear e1;have hreg:∀(K:Act→World→Prop) (Q:Exit→Act→World→Prop),True:=fun _ _=>trivial
    refine wp_mono (Q:=Exit.then (Met (RY2 p tb w.heap.size w9.heap.size s x x a1 a2 q2 [] (some n) w12 _ _ _ _ _ _ _ _ _ _ _ _ _ _ _ _ _ _ _ _ _ _ _ _ _ _ _ _ _ _ _ _ _ _ _ _ _ _ _ _ _ _ _ _ _ _ _ _ _ _ _ _ _ _ _)) _) (dK p tb w.heap.size w9.heap.size s x x a1 a2 q2 [] (some n) w12 HP12.out HE12.out HR12.out HX12.out HN.out HPW.out hbe (fun w1 h1=>by have h2:=hcq w1 h1;rw[hy]at h2;exact h2.mono (fun e w2 h=>⟨h.2,h.1⟩)) (fun e a' w'=> ∃n',e= .panic [{v:= .iface 110 (.agg #[.int .i64 n']),recovered:=false}]∧n=n'∧a'.defers=[]∧AFr p w.heap.size w12.heap.size w12 w') (fun n' a' w' hn hd hf=>by injection hn with hn;exact⟨n',rfl,hn,hd,hf⟩) _ _ _ _ _ _ _ _ _ _ _ _ _ _ _ _ _ _ _ _ _ _ _ _ _ _ _ _ _ _ _ _ _ _ _ _ _ _ _ _ _ _ _ _ _ _ _ _ _ _ _ _ _ _ _ _ _ _ _ _ _ _ _ (fun _ _ q=>q) (fun _ _ q=>q)) ?_;intro e a' w' hq
    cases e with
    |normal=>
     obtain⟨sa,sc,nb,⟨_,hp,_⟩,_⟩:=(show RY2 p tb w.heap.size w9.heap.size s x x a1 a2 q2 [] (some n) w12 _ _ _ _ _ _ _ _ _ _ _ _ _ _ _ _ _ _ _ _ _ _ _ _ _ _ _ _ _ _ _ _ _ _ _ _ _ _ _ _ _ _ _ _ _ _ _ _ _ _ _ _ _ _ _ a' w' from hq);exact hp.ends.elim
    |panic ch=>
     obtain⟨n2,he,rfl,hd,hf⟩:=hq;injection he with he
     subst he;exact⟨hd,Of HF12.out hf (by have:=HR12.out.lt;omega) (Nat.le_refl _),rfl⟩
    |_=>
     obtain⟨n2,he,_⟩:=hq
     cases he
   |ok qy=>
    obtain⟨y,r2⟩:=qy;have e1:An f (t::r)= .ok (.mk 2 s [x,y] [] [],r2):=by unfold An;rw[Ad HN0.out];dsimp only;rw[Ad HN1.out];dsimp only;rw[Ad HN2.out];dsimp only;rw[Ad HN3.out];dsimp only;rw[Ad HN4.out];dsimp only;rw[HNQ.out];dsimp only;rw[Ad HNO.out];dsimp only;rw[Ao HYI.out];dsimp only;rw[HA9.out];dsimp only;rw[hw1];dsimp only;rw[hw2];dsimp only;rw[hy]
    have e2:=HRR.out.symm.trans e1;subst e2;clear e1;refine wp_cut (fun a' w'=>RY2 p tb w.heap.size w9.heap.size s x y a1 a2 q2 r2 none w12 _ _ _ _ _ _ _ _ _ _ _ _ _ _ _ _ _ _ _ _ _ _ _ _ _ _ _ _ _ _ _ _ _ _ _ _ _ _ _ _ _ _ _ _ _ _ _ _ _ _ _ _ _ _ _ a' w') ?rest (fun J K' hJ hM=>dK p tb w.heap.size w9.heap.size s x y a1 a2 q2 r2 none w12 HP12.out HE12.out HR12.out HX12.out HN.out HPW.out hbe (fun w1 h1=>by have h2:=hcq w1 h1;rw[hy]at h2;exact h2.mono (fun e w2 h=>by obtain⟨hf,v,rfl,hp,s4,rfl,hs,hm⟩:=h;exact⟨s4,rfl,hf,hp,hs,hm⟩)) _ (fun n a1 w1 hn=>by cases hn) _ _ _ _ _ _ _ _ _ _ _ _ _ _ _ _ _ _ _ _ _ _ _ _ _ _ _ _ _ _ _ _ _ _ _ _ _ _ _ _ _ _ _ _ _ _ _ _ _ _ _ _ _ _ _ _ _ _ _ _ _ J K' hJ hM)
    case rest=>
     rintro a' w' ⟨sa,sc,nb,⟨hfr,hp,hr,hxy⟩,rfl⟩;have HSF:=Za (Of HF12.out hfr (by have:=HR12.out.lt;omega) (Nat.le_refl _));have HPP:=Za hp;have HXY:=Za hxy;obtain⟨⟨d0,d1,d2,d3,d4⟩,_⟩:=Bf hr;clear hfr hp hr hxy hlq hw1 hw2 hcq hy;go_wp2_with fail
     exact bodyPost_ret (v:= .agg #[.int .i64 2,.string (Aa s),.slice (some ⟨nb,0,none⟩) 2 2,.slice none 0 0,.slice none 0 0]) (by simp [results,Zh,go_sem,d0,d1,d2,d3,d4]) rfl ⟨HSF.out,_,rfl,HPP.out,_,_,_,rfl,HXY.out.up (by omega),Zi,Zi⟩
theorem bW(f:Nat):SimpleC f:=by
 intro l w p tb hl h;obtain⟨t,r,rfl⟩:=h.ends.ne
 cases h0:isP [98,114,101,97,107] t with
 |true=>exact Xp f t r w p tb hl h h0
 |false=>
  cases h1:isP [99,111,110,116,105,110,117,101] t with
  |true=>exact Vp f t r w p tb hl h h0 h1
  |false=>
   cases h2:isP [114,101,116,117,114,110] t with
   |true=>exact Wl f t r w p tb hl h h0 h1 h2
   |false=>
    cases h3:isP [112,114,105,110,116] t with
    |true=>exact Sf f t r w p tb hl h h0 h1 h2 h3
    |false=>
     cases h4:isP [116,114,97,112] t with
     |true=>exact Ts f t r w p tb hl h h0 h1 h2 h3 h4
     |false=>
      cases hnm:Dg (t::r)with
      |error n=>exact Qq f t r w p tb hl h h0 h1 h2 h3 h4 n hnm
      |ok q=>
       obtain⟨s,q⟩:=q;have hq:Gh q:=by
        have h5:=Vc t r;rw[hnm]at h5
        by_cases hk:t.kind=1
        ·rw[if_pos hk]at h5
         injection h5 with h5
         injection h5 with _ h5
         rw[h5];exact h.ends.tail (by rw[hk];decide)
        ·rw[if_neg hk]at h5;cases h5
       obtain⟨u,q,rfl⟩:=hq.ne
       cases h5:isP [40] u with
       |true=>exact Tx f t r w p tb hl h h0 h1 h2 h3 h4 s u q hnm h5
       |false=>
        cases h6:isP [91] u with
        |true=>exact Ta f t r w p tb hl h h0 h1 h2 h3 h4 s u q hnm h5 h6
        |false=>exact Xz f t r w p tb hl h h0 h1 h2 h3 h4 s u q hnm h5 h6
end Go.Proofs.YtcfpfnoldgnloaaGreatDoor
