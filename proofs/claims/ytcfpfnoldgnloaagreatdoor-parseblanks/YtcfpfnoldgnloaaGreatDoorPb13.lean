/-
  inside: an expression in parentheses; the contracts of block, stmts, stmt, simple. Conditions: the parser lies in memory.
-/
import Derived.Test.YtcfpfnoldgnloaaGreatDoorPb12
import Derived.Laws.OwnMore
set_option linter.unusedVariables false
set_option linter.unusedSimpArgs false
namespace Go.Proofs.YtcfpfnoldgnloaaGreatDoor
open Go.RowKit Go.Proofs.Tryz
set_option maxHeartbeats 20000000
set_option maxRecDepth 100000
open Go.Lib renaming hid→Za
open Go.Proofs.Tryz renaming prog→Zb
open SFr renaming of_below→Zc
open Ae renaming new→Zd
open Below renaming heap_setCell→Ze,refl→Zh
open Nat renaming le_trans→Zf
open List renaming length_cons→Zg
theorem expr_of(f:Nat)(hC:Ym f):Ox f:=by
 intro l w p tb hl h;have HPW:=Za h.lt;have HNE:Hid (w.heap.size≠p):=by show _≠_;have:=h.lt;omega
 have hb0:Below w.heap.size w (w.alloc (.cells #[.int .i64 0,.int .i64 0,.int .i64 0,.string ⟨#[]⟩,.slice none 0 0] 27)):=bA;have HF0:Hid (SFr p w (w.alloc (.cells #[.int .i64 0,.int .i64 0,.int .i64 0,.string ⟨#[]⟩,.slice none 0 0] 27))):=Zc hb0;have HR0:=Za (Zd w [.int .i64 0,.int .i64 0,.int .i64 0,.string ⟨#[]⟩,.slice none 0 0] 27);have HP0:=Za (h.old hb0);clear hb0;obtain⟨R,hR⟩:∃R,Bf f 1 l=R:=⟨_,rfl⟩;rw[hR];have HRR:=Za hR;clear hR;have HC:Hid (∀w1,Ps w1 p tb l→_):=fun w1 h1=>hC 1 l w1 p tb hl h1
 clear hl hC;clear h;go_enter func27,ntmps27
 go_wp2_with fail
 refine(HC.o _ HP0.o).mono ?_;intro e w1 he
 cases hA:Bf f 1 l with
 |error n=>
  rw[hA]at he;obtain⟨hf,rfl⟩:=he;have HF:=Za (HF0.o.trans hf);have e1:Bf f 1 l=.error n:=hA;have e2:=HRR.o.symm.trans e1;subst e2;clear e1 hf;unfold Bk;go_wp2_with fail
  exact⟨rfl,HF.o,rfl⟩
 |ok q=>
  obtain⟨x,r2⟩:=q;rw[hA]at he;obtain⟨hf,v,rfl,hp,hv⟩:=he;obtain⟨s3,rfl,hx,hn⟩:=hv;obtain⟨a1,a2,rfl⟩:=hx.shape;have HX1:=Za (hx.up (show w.heap.size+1≤_ from HR0.o.lt));have HN:=Za hn;clear hx hn;have HF1:=Za (HF0.o.trans hf);have HP1:=Za hp;have HR1:=Za (HR0.o.sfr hf HNE.o);clear hf hp;have HA1:=Za hA;clear hA;obtain⟨⟨x0,x1,x2,x3,x4⟩,xf0,xf1,xf2,xf3,xf4⟩:=Bu HR1.o;have xlt:=HR1.o.lt;go_wp2_with fail
  have e1:Bf f 1 l=.ok (x,r2):=HA1.o;have e2:=HRR.o.symm.trans e1;subst e2;obtain⟨⟨d0,d1,d2,d3,d4⟩,_⟩:=Bu (Nv HR1.o (.int .i64 x.kind) (.int .i64 x.op) (.int .i64 x.n) (.string (Aa x.name)) (.slice a1 x.args.length a2));exact bodyPost_ret (v:=.agg #[.int .i64 x.kind,.int .i64 x.op,.int .i64 x.n,.string (Aa x.name),.slice a1 x.args.length a2]) (by simp [results,results27,go_sem,d0,d1,d2,d3,d4]) rfl (Oy (x:=x) HPW.o HF1.o HP1.o HX1.o HN.o _ _ _ _ _)
def Dv(p:Nat)(w:World):Nat:=match w.cell? ⟨p,0,none⟩with
 |some (.slice _ n _)=>n
 |_=>0
theorem Ps.len {w:World}{p tb:Nat}{l:List Tk}(h:Ps w p tb l):Dv p w=l.length:=by
 obtain⟨o,cap,h⟩:=h;have:=h.own.at 0 _ rfl;unfold Dv;rw[this]
theorem vG {lv:Int}{t:Tk}{r:List Tk}(h:Dp lv (t::r)≠0):t.kind≠5:=by
 intro h5;apply h
 rw[fH];refine Xn _ (fun j hj=>?_);have:isP (Aw ((j:Int)+1)) t=false:=by unfold isP;rw[h5];rfl
 show(isP (Aw ((j:Int)+1)) t && _)=false
 rw[this];rfl
theorem cW(op:Int):0≤Al op∧Al op≤8:=by
 unfold Al
 repeat' split
 all_goals omega
structure Ty (w:World)(p tb be:Nat)(lv:Int)(f:Nat)(R:PR Ex)(g:Nat)(x:Ex)(s:Value)(l:List Tk)(wr:World):Prop where
 sfr:SFr p w wr
 ps:Ps wr p tb l
 own:Ae wr w.heap.size [.int .i64 0,.int .i64 0,.int .i64 0,.string ⟨#[]⟩,.slice none 0 0] 27
 e:Ae wr be [.int .i64 x.kind,.int .i64 x.op,.int .i64 x.n,.string (Aa x.name),s] 27
 tree:Ag (fun b=>w.heap.size+1≤b∧b≠be) wr x.args s
 n:I64 x.n
 fuel:4*l.length+5≤g
 le:g≤f
 res:Jz g lv x l=R
theorem Ty.old {w:World}{p tb be:Nat}{lv:Int}{f:Nat}{R:PR Ex}{g:Nat}{x:Ex}{s:Value}{l:List Tk}{wr w':World}(h:Ty w p tb be lv f R g x s l wr)(hb:Below wr.heap.size wr w'):Ty w p tb be lv f R g x s l w':=
 ⟨h.sfr.trans (Zc hb),h.ps.old hb,h.own.old hb,h.e.old hb,h.tree.old hb,h.n,h.fuel,h.le,h.res⟩
theorem set5_ne(w:World)(b:Nat)(c0 c1 c2 c3 c4:Value){k:Nat}(h:k≠b):(((((w.setCell ⟨b,0,none⟩ c0).setCell ⟨b,1,none⟩ c1).setCell ⟨b,2,none⟩ c2).setCell ⟨b,3,none⟩ c3).setCell ⟨b,4,none⟩ c4).heap[k]? =w.heap[k]? :=by
 rw[Ze _ _ _ _ (show k≠b from h),Ze _ _ _ _ (show k≠b from h),Ze _ _ _ _ (show k≠b from h),Ze _ _ _ _ (show k≠b from h),Ze _ _ _ _ (show k≠b from h)]
theorem kL {w:World}{p tb be:Nat}{lv:Int}{f:Nat}{R:PR Ex}{g:Nat}{x y:Ex}{s u:Value}{op:Int}{l:List Tk}{W:World}(hpw:p<w.heap.size)(hbe:w.heap.size<be)(hF:SFr p w W)(hP:Ps W p tb l)
  (hO:Ae W w.heap.size [.int .i64 0,.int .i64 0,.int .i64 0,.string ⟨#[]⟩,.slice none 0 0] 27) (hE:Ae W be [.int .i64 x.kind,.int .i64 x.op,.int .i64 x.n,.string (Aa x.name),s] 27)
  (hX:Ag (fun b=>w.heap.size+1≤b∧b≠be) W x.args s) (hn:I64 x.n) (hY:Ag (fun b=>w.heap.size+1≤b∧b≠be) W y.args u) (hm:I64 y.n) (hfu:4*l.length+5≤g) (hle:g≤f) (hres:Jz g lv (.mk 4 op 0 [] [x,y]) l=R):
  Ty w p tb be lv f R g (.mk 4 op 0 [] [x,y]) (.slice (some ⟨W.heap.size,0,none⟩) 2 2) l ((((((W.setCell ⟨be,0,none⟩ (.int .i64 4)).setCell ⟨be,1,none⟩ (.int .i64 op)).setCell ⟨be,2,none⟩ (.int .i64 0)).setCell ⟨be,3,none⟩ (.string ⟨#[]⟩)).setCell ⟨be,4,none⟩ (.slice (some ⟨W.heap.size,0,none⟩) 2 2)).alloc
   (.cells #[.int .i64 x.kind,.int .i64 x.op,.int .i64 x.n,.string (Aa x.name),s,.int .i64 y.kind,.int .i64 y.op,.int .i64 y.n,.string (Aa y.name),u] 27)):=by
 have hbw:=hE.lt;have k1:=hX.keep (La W (show ¬(w.heap.size+1≤be∧be≠be)from fun h=>h.2 rfl) (.int .i64 4) (.int .i64 op) (.int .i64 0) (.string ⟨#[]⟩) (.slice (some ⟨W.heap.size,0,none⟩) 2 2));have k2:=hY.keep (La W (show ¬(w.heap.size+1≤be∧be≠be)from fun h=>h.2 rfl) (.int .i64 4) (.int .i64 op) (.int .i64 0) (.string ⟨#[]⟩) (.slice (some ⟨W.heap.size,0,none⟩) 2 2));have hs:=Nd W be (.int .i64 4) (.int .i64 op) (.int .i64 0) (.string ⟨#[]⟩) (.slice (some ⟨W.heap.size,0,none⟩) 2 2);refine⟨(vW hF (by omega) _ _ _ _ _).trans (Zc (bA)),(ps5 hP (by omega) _ _ _ _ _).alloc _,?_,(Nv hE _ _ _ _ _).alloc _,?_,Gp,hfu,hle,hres⟩
 ·refine Ae.alloc ?_ _
  exact(set5_ne W be _ _ _ _ _ (by omega)).trans hO
 ·have:=Ag.two (D:=fun b=>w.heap.size+1≤b∧b≠be) x y s u (b:=W.heap.size) ⟨by omega,by omega⟩ (by
   have:=Fc.new (((((W.setCell ⟨be,0,none⟩ (.int .i64 4)).setCell ⟨be,1,none⟩ (.int .i64 op)).setCell ⟨be,2,none⟩ (.int .i64 0)).setCell ⟨be,3,none⟩ (.string ⟨#[]⟩)).setCell ⟨be,4,none⟩ (.slice (some ⟨W.heap.size,0,none⟩) 2 2)) (Bg x s++Bg y u) 27;rw[hs]at this;exact this) (k1.old (bA)) hn (k2.old (bA)) hm
  exact this
theorem lP(f:Nat)(hT:Tb f)(ih:∀g,g≤f→Ym g):Ym (f+1):=by
 intro lv l w p tb hl h;have HPW:=Za h.lt;have HNE:Hid (w.heap.size≠p):=by show _≠_;have:=h.lt;omega
 have hb0:Below w.heap.size w (w.alloc (.cells #[.int .i64 0,.int .i64 0,.int .i64 0,.string ⟨#[]⟩,.slice none 0 0] 27)):=bA;have HF0:Hid (SFr p w (w.alloc (.cells #[.int .i64 0,.int .i64 0,.int .i64 0,.string ⟨#[]⟩,.slice none 0 0] 27))):=Zc hb0;have HR0:=Za (Zd w [.int .i64 0,.int .i64 0,.int .i64 0,.string ⟨#[]⟩,.slice none 0 0] 27);have HP0:=Za (h.old hb0);clear hb0;obtain⟨R,hR⟩:∃R,Bf (f+1) lv l=R:=⟨_,rfl⟩;rw[hR];have HRR:=Za hR;clear hR;have HC:Hid (∀w1,Ps w1 p tb l→_):=fun w1 h1=>hT l w1 p tb (by omega) h1
 have IH:=Za ih;have HL:=Za hl;clear hl hT ih;clear h;go_enter func60,ntmps60
 go_wp2_with fail
 refine(HC.o _ HP0.o).mono ?_;intro e w1 he
 cases hA:Br f l with
 |error n=>
  rw[hA]at he;obtain⟨hf,rfl⟩:=he;have HF:=Za (HF0.o.trans hf);have e1:Bf (f+1) lv l=.error n:=by rw[Bf,hA]
  have e2:=HRR.o.symm.trans e1;subst e2;clear e1 hf;unfold Bk;go_wp2_with fail
  exact⟨rfl,HF.o,rfl⟩
 |ok q=>
  obtain⟨x,r2⟩:=q;rw[hA]at he;obtain⟨hf,v,rfl,hp,hv⟩:=he;obtain⟨s3,rfl,hx,hn⟩:=hv;obtain⟨a1,a2,rfl⟩:=hx.shape;have HX1:=Za (hx.up (show w.heap.size+1≤_ from HR0.o.lt));have HN:=Za hn;clear hx hn;have HF1:=Za (HF0.o.trans hf);have HP1:=Za hp;have HR1:=Za (HR0.o.sfr hf HNE.o);clear hf hp;have HA1:=Za hA;clear hA;have HXS1:=Za HX1.o.strong;go_upto_region 2 with(fail)
  obtain⟨W,hW⟩:∃W,w1.alloc (.cells #[.int .i64 x.kind,.int .i64 x.op,.int .i64 x.n,.string (Aa x.name),.slice a1 x.args.length a2] 27)=W:=⟨_,rfl⟩;rw[hW];have hba:Below w1.heap.size w1 W:=hW ▸ bA;have HF2:=Za (HF1.o.trans (Zc hba));have HP2:=Za (HP1.o.old hba);have HR2:=Za (HR1.o.old hba);have HX2:=Za (HX1.o.old hba);have HXS2:=Za (HXS1.o.old hba);have HE2:=Za (hW ▸ Zd w1 [.int .i64 x.kind,.int .i64 x.op,.int .i64 x.n,.string (Aa x.name),.slice a1 x.args.length a2] 27);have HEP:Hid (w1.heap.size≠p):=by show _≠_;have:=HP1.o.lt;omega
  clear hba hW;obtain⟨w2,hWW⟩:∃w2,w2=W:=⟨_,rfl⟩;subst hWW;have HB:Hid (∀l1 w1,Ps w1 p tb l1→_):=fun l1 w1 h1=>dH p tb l1 lv w1 h1
  go_wp2_with fail
  refine(HB.o _ _ HP2.o).mono ?_;rintro e w3 ⟨rfl,hb⟩;have HF3:=Za (HF2.o.trans (Zc hb));have HP3:=Za (HP2.o.old hb);have HR3:=Za (HR2.o.old hb);have HE3:=Za (HE2.o.old hb);have HX3:=Za (HX2.o.old hb);have HXS3:=Za (HXS2.o.old hb);clear hb;have hfu:4*r2.length+5≤f:=by
   have h1:=(Fd f).2.2.1 _ _ _ HA1.o;have h2:=HL.o;omega
  have hres:Jz f lv x r2=R:=by
   have:=HRR.o;rw[Bf,HA1.o]at this;exact this
  have hbe:w.heap.size<w1.heap.size:=HR1.o.lt;have hx0:Ag (fun b=>w.heap.size+1≤b∧b≠w1.heap.size) w3 x.args (.slice a1 x.args.length a2):=HXS3.o.mono (fun b hb=>⟨hb.1,by have:=hb.2;omega⟩);have HI0:Hid (Ty w p tb w1.heap.size lv f R f x (.slice a1 x.args.length a2) r2 w3):=⟨HF3.o,HP3.o,HR3.o,HE3.o,hx0,HN.o,hfu,Nat.le_refl _,hres⟩;have HBE:=Za hbe;have hp3:=HP3.o;clear hfu hres hx0 hbe HX1 HX2 HX3 HXS1 HXS2 HXS3 HF1 HF2 HF3 HF0 HP0 HP1 HP2 HP3 HR0 HR1 HR2 HR3 HE2 HE3 HA1 HL HRR HC HN;obtain⟨be,hbe⟩:∃be,w1.heap.size=be:=⟨_,rfl⟩;rw[hbe]at HI0 HBE HEP ⊢;clear hbe;go_wp2_with fail
  go_loopw [6] (fun s6 wr=> ∃(g:Nat) (x:Ex) (s:Value) (l:List Tk),s6=.int .i64 (Dp lv l)∧Hid (Ty w p tb be lv f R g x s l wr)) (fun _ wr=>Dv p wr)
  case atStart=>exact⟨f,x,_,r2,rfl,HI0⟩
  case round=>
   obtain⟨g,y,s,l2,rfl,HI⟩:=hrel;clear HI0 hp3;obtain⟨op,hop⟩:∃op,Dp lv l2=op:=⟨_,rfl⟩;rw[hop];obtain⟨sa,sc,rfl⟩:=HI.o.tree.shape;obtain⟨⟨e0,e1,e2,e3,e4⟩,ef0,ef1,ef2,ef3,ef4⟩:=Bu HI.o.e;have elt:=HI.o.e.lt
   by_cases h0:op=0
   ·subst h0
    have hR:Except.ok (y,l2)=R:=by
     have h1:=HI.o.res;have hg:=HI.o.fuel;obtain⟨g',rfl⟩:∃g',g=g'+1:=⟨g-1,by omega⟩;rw[Jz,if_pos hop]at h1;exact h1
    subst hR;obtain⟨⟨x0,x1,x2,x3,x4⟩,xf0,xf1,xf2,xf3,xf4⟩:=Bu HI.o.own;have xlt:=HI.o.own.lt;clear hop;go_wp2_with fail
    obtain⟨⟨d0,d1,d2,d3,d4⟩,_⟩:=Bu (Nv HI.o.own (.int .i64 y.kind) (.int .i64 y.op) (.int .i64 y.n) (.string (Aa y.name)) (.slice sa y.args.length sc));exact bodyPost_ret (v:=.agg #[.int .i64 y.kind,.int .i64 y.op,.int .i64 y.n,.string (Aa y.name),.slice sa y.args.length sc]) (by simp [results,results60,go_sem,d0,d1,d2,d3,d4]) rfl (Oy (x:=y) HPW.o HI.o.sfr HI.o.ps (HI.o.tree.mono (fun b hb=>hb.1)) HI.o.n _ _ _ _ _)
   ·obtain⟨t,r,rfl⟩:=HI.o.ps.ends.ne
    have hk5:t.kind≠5:=vG (by rw[hop];exact h0);have n0:(op !=0)=true:=by simp [h0]
    have n1:(op==0)=false:=by simp [h0]
    have hlr:=cW op;have hw1:IntKind.i64.wrap (Al op+1)=Al op+1:=IntWalk.i64_in _ (by omega);obtain⟨g',hg'⟩:∃g',g=g'+1:=⟨g-1,by have:=HI.o.fuel;omega⟩;subst hg';have HRES:Hid ((match Bf g' (Al op+1) r with|.error e=>.error e|.ok (z,q)=>Jz g' lv (.mk 4 op 0 [] [y,z]) q)=R):=by
     have h1:=HI.o.res;rw[Jz,if_neg (by rw[hop];exact h0),hop,List.drop_one,List.tail_cons]at h1;exact h1
    have HCL:Hid (∀w1,Ps w1 p tb r→_):=fun w1 h1=>IH.out g' (by have:=HI.o.le;omega) (Al op+1) r w1 p tb (by have:=HI.o.fuel;rw[Zg]at this;omega) h1
    have HLV:Hid (∀w1,_):=fun w1=>Km op w1
    obtain⟨o,cap,h1⟩:=HI.o.ps;have HT:=Za (h1.take hk5);have c0:=h1.own.at 0 _ rfl;have z0:=h1.own.fz 0;have hpl:=h1.own.lt;have hcap:=h1.hcap;have hfit:=h1.fit;obtain⟨n,hn⟩:∃n,r.length=n:=⟨_,rfl⟩;rw[Zg,hn]at c0 hcap;rw[hn]at HT;have hr0:0<n:=by
     obtain⟨u,q,rfl⟩:=(h1.ends.tail hk5).ne;rw[←hn];simp
    have i1:(1:Int)≤(n:Int)+1:=by omega
    have i2:((n:Int)+1)≤(cap:Int):=by omega
    have i3:¬(cap:Int)-1=0:=by omega
    have i4:¬cap-1=0:=by omega
    have HOP:=Za hop;clear h1 hop hk5;clear e0 e1 e2 e3 e4 ef0 ef1 ef2 ef3 ef4;go_upto_region 6 with(fail)
    obtain⟨V,hV⟩:∃V,wr.setCell ⟨p,0,none⟩ (.slice (some ⟨tb,o+4,none⟩) n (cap-1))=V:=⟨_,rfl⟩;rw[hV]at HT ⊢;have HEV:=Za (HI.o.e.sfr HT.o.2 HEP.o);have HOV:=Za (HI.o.own.sfr HT.o.2 HNE.o);have HXV:=Za (HI.o.tree.keep (HT.o.2.keepsD (fun b hb=>by have:=HPW.o;have:=hb.1;omega)));have HFV:=Za (HI.o.sfr.trans HT.o.2);have HPV:=Za HT.o.1;clear c0 z0 hpl hcap hfit hr0 i1 i2 i3 i4 hV HT;go_wp2_with fail
    refine(HLV.o _).mono ?_;rintro e w4 ⟨rfl,hb⟩;have HE4:=Za (HEV.o.old hb);have HO4:=Za (HOV.o.old hb);have HX4:=Za (HXV.o.old hb);have HF4:=Za (HFV.o.trans (Zc hb));have HP4:=Za (HPV.o.old hb);clear hb HEV HOV HXV HFV HPV;go_wp2_with fail
    refine(HCL.o _ HP4.o).mono ?_;intro e w5 he
    cases hA:Bf g' (Al op+1) r with
    |error n=>
     rw[hA]at he;obtain⟨hf,rfl⟩:=he;have HF:=Za (HF4.o.trans hf);have e2:=HRES.o;rw[hA]at e2;dsimp only at e2;subst e2;clear hf;unfold Bk;go_wp2_with fail
     exact⟨rfl,HF.o,rfl⟩
    |ok q=>
     obtain⟨z,r3⟩:=q;rw[hA]at he;obtain⟨hf,v,rfl,hp,hv⟩:=he;obtain⟨s5,rfl,hx,hn5⟩:=hv;obtain⟨b1,b2,rfl⟩:=hx.shape;have HF5:=Za (HF4.o.trans hf);have HP5:=Za hp;have HE5:=Za (HE4.o.sfr hf HEP.o);have HO5:=Za (HO4.o.sfr hf HNE.o);have HX5:=Za (HX4.o.keep (hf.keepsD (fun b hb=>by have:=HPW.o;have:=hb.1;omega)));have HY5:=Za (hx.mono (D':=fun b=>w.heap.size+1≤b∧b≠be) (fun b hb=>by have h1:w4.heap.size≤b:=hb;have h2:=HE4.o.lt;have h3:=HBE.o;exact⟨by omega,by omega⟩));have HN5:=Za hn5;have e2:=HRES.o;rw[hA]at e2;dsimp only at e2;have HR5:=Za e2;have hfu:4*r3.length+5≤g':=by
      have h1:=(Fd g').1 _ _ _ _ hA;have h2:=HI.o.fuel;rw[Zg]at h2;omega
     have hle:g'≤f:=by have:=HI.o.le;omega
     have HFU:=Za hfu;have HLE:=Za hle;have hlen:r3.length<r.length:=(Fd g').1 _ _ _ _ hA;have HLEN:=Za hlen;clear hf hp hx hn5 e2 hfu hle hlen;go_upto_region 7 with(fail)
     have hba:Below w5.heap.size w5 (w5.alloc (.cells #[.int .i64 z.kind,.int .i64 z.op,.int .i64 z.n,.string (Aa z.name),.slice b1 z.args.length b2] 27)):=bA;have HE6:=Za (HE5.o.old hba);have HO6:=Za (HO5.o.old hba);have HX6:=Za (HX5.o.old hba);have HY6:=Za (HY5.o.old hba);have HF6:=Za (HF5.o.trans (Zc hba));have HP6:=Za (HP5.o.old hba);have HG6:=Za (Zd w5 [.int .i64 z.kind,.int .i64 z.op,.int .i64 z.n,.string (Aa z.name),.slice b1 z.args.length b2] 27);clear hba;generalize w5.alloc (.cells #[.int .i64 z.kind,.int .i64 z.op,.int .i64 z.n,.string (Aa z.name),.slice b1 z.args.length b2] 27)=W at*;obtain⟨⟨e0,e1,e2,e3,e4⟩,ef0,ef1,ef2,ef3,ef4⟩:=Bu HE6.o;obtain⟨⟨g0,g1,g2,g3,g4⟩,_⟩:=Bu HG6.o;have elt:=HE6.o.lt;have HI7:=Za (kL (u:=.slice b1 z.args.length b2) HPW.o HBE.o HF6.o HP6.o HO6.o HE6.o HX6.o HI.o.n HY6.o HN5.o HFU.o HLE.o HR5.o);go_upto_region 4 with(fail)
     generalize (((((W.setCell ⟨be,0,none⟩ (.int .i64 4)).setCell ⟨be,1,none⟩ (.int .i64 op)).setCell ⟨be,2,none⟩ (.int .i64 0)).setCell ⟨be,3,none⟩ (.string ⟨#[]⟩)).setCell ⟨be,4,none⟩ (.slice (some ⟨W.heap.size,0,none⟩) 2 2)).alloc (.cells #[.int .i64 y.kind,.int .i64 y.op,.int .i64 y.n,.string (Aa y.name),.slice sa y.args.length sc,.int .i64 z.kind,.int .i64 z.op,.int .i64 z.n,.string (Aa z.name),.slice b1 z.args.length b2] 27)=W7 at*;go_wp2_with fail
     refine(HB.o _ _ HI7.o.ps).mono ?_;rintro e w8 ⟨rfl,hb⟩;have HI8:=Za (HI7.o.old hb);clear hb;go_wp2_with fail
     go_roundw
     case rel=>exact⟨g',.mk 4 op 0 [] [y,z],_,r3,rfl,HI8⟩
     case measure=>
      rw[HI8.o.ps.len,HI.o.ps.len,Zg];have:=HLEN.o;omega
structure AFr (p ob base:Nat)(w w':World):Prop where
 os:w'.os=w.os
 tape:w'.tape=w.tape
 output:w'.output=w.output
 size:w.heap.size≤w'.heap.size
 block:∀k,k<w.heap.size→k<base→k≠p→k≠ob→w'.heap[k]? =w.heap[k]?
section
variable {p ob base:Nat} {u v w:World}
theorem AFr.refl(p ob base:Nat)(w:World):AFr p ob base w w:=⟨rfl,rfl,rfl,Nat.le_refl _,fun _ _ _ _ _=>rfl⟩
theorem AFr.trans(h:AFr p ob base u v)(k:AFr p ob base v w):AFr p ob base u w:=
 ⟨k.os.trans h.os,k.tape.trans h.tape,k.output.trans h.output,Zf h.size k.size,fun i hi hb h1 h2=>(k.block i (Nat.lt_of_lt_of_le hi h.size) hb h1 h2).trans (h.block i hi hb h1 h2)⟩
theorem AFr.of_sfr(h:SFr p v w):AFr p ob base v w:=⟨h.os,h.tape,h.output,h.size,fun k hk _ h1 _=>h.block k hk h1⟩
theorem AFr.of_below(h:Below v.heap.size v w):AFr p ob base v w:=AFr.of_sfr (Zc h)
theorem AFr.old(h:AFr p ob base u v)(hb:Below v.heap.size v w):AFr p ob base u w:=h.trans (AFr.of_below hb)
theorem AFr.set(h:AFr p ob base u v)(i:Nat)(x:Value):AFr p ob base u (v.setCell ⟨ob,i,none⟩ x):=
 ⟨h.os,h.tape,h.output,by simpa [World.setCell]using h.size,fun k hk hb h1 h2=>(Ze _ _ _ _ (show k≠ob from h2)).trans (h.block k hk hb h1 h2)⟩
theorem AFr.high(h:AFr p ob base u v){g:Nat}(hg:base≤g)(i:Nat)(x:Value):AFr p ob base u (v.setCell ⟨g,i,none⟩ x):=
 ⟨h.os,h.tape,h.output,by simpa [World.setCell]using h.size,fun k hk hb h1 h2=>(Ze _ _ _ _ (show k≠g by omega)).trans (h.block k hk hb h1 h2)⟩
theorem AFr.grown(h:AFr p ob base u v){row:Option Nat}(hg:v.grownBy w row)(hr:∀k,row=some k→base≤k):AFr p ob base u w:=
 ⟨hg.os.trans h.os,hg.tape.trans h.tape,hg.output.trans h.output,Zf h.size hg.size,fun k hk hb h1 h2=>(hg.block k (Nat.lt_of_lt_of_le hk h.size) (fun e=>by have:=hr k e.symm;omega)).trans (h.block k hk hb h1 h2)⟩
theorem Ae.afr {b:Nat}{cs:List Value}{T:TypeId}(h:Ae v b cs T)(hf:AFr p ob base v w)(h1:b<base)(h2:b≠p)(h3:b≠ob):Ae w b cs T:=(hf.block b h.lt h1 h2 h3).trans h
theorem Ae.grew {b:Nat}{cs:List Value}{T:TypeId}(h:Ae v b cs T){row:Option Nat}(hg:v.grownBy w row)(hr:row≠some b):Ae w b cs T:=(hg.block b h.lt (fun e=>hr e.symm)).trans h
end
theorem Ps.grown {w w':World}{p tb:Nat}{l:List Tk}(h:Ps w p tb l){row:Option Nat}(hg:w.grownBy w' row){base:Nat}(hr:∀k,row=some k→base≤k)(hp:p<base):Ps w' p tb l:=by
 obtain⟨o,cap,h⟩:=h;have hl:=h.lt;refine⟨o,cap,h.own.grew hg (fun e=>by have:=hr p e;omega),h.row.keep (fun b off x hb hx=>?_),h.hcap,h.fit,h.lt,h.ends,h.nums⟩;have hb:b=tb:=hb;rw[World.cell?_of_block (w:=w) (hg.block b (World.block_lt_of_cell? _ _ hx) (fun e=>by have:=hr b e.symm;omega))];exact hx
theorem Cb.sfrB {p:Nat}{w w':World}{base:Nat}{ps:List (Ex ×Value)}{v:Value}(h:Cb w base ps v)(hf:SFr p w w')(hp:p<base):Cb w' base ps v:=h.keep (fun k h1 h2=>hf.block k h1 (by omega))
theorem Cb.old {w w':World}{base:Nat}{ps:List (Ex ×Value)}{v:Value}(h:Cb w base ps v)(hb:Below w.heap.size w w'):Cb w' base ps v:=h.keep (fun k h1 _=>hb.block k h1)
theorem Cb.low {w:World}{base:Nat}{ps:List (Ex ×Value)}{v:Value}(h:Cb w base ps v){k:Nat}(hk:k<base)(i:Nat)(x:Value):Cb (w.setCell ⟨k,i,none⟩ x) base ps v:=h.keep (fun j _ h2=>Ze _ _ _ _ (show j≠k by omega))
theorem Cb.rowGe {w:World}{base:Nat}{ps:List (Ex ×Value)}{v:Value}(h:Cb w base ps v):∀k,v.ownBlock=some k→base≤k:=fun k e=>(World.ownsRow.lt h.1 k e).1
def exZ:Ex:=.mk 0 0 0 [] []
theorem Cb.setLast {w:World}{base g cap:Nat}{ps:List (Ex ×Value)}{zv:Value}{z:Ex}(h:Cb w base (ps++[(z,zv)]) (.slice (some ⟨g,0,none⟩) (ps.length+1) cap)){x:Ex}{s:Value}(hx:Ag (fun b=>base≤b∧b≠g) w x.args s)(hn:I64 x.n):
  Cb (((((w.setCell ⟨g,ps.length*5,none⟩ (.int .i64 x.kind)).setCell ⟨g,ps.length*5+1,none⟩ (.int .i64 x.op)).setCell ⟨g,ps.length*5+2,none⟩ (.int .i64 x.n)).setCell ⟨g,ps.length*5+3,none⟩ (.string (Aa x.name))).setCell ⟨g,ps.length*5+4,none⟩ s) base (ps++[(x,s)]) (.slice (some ⟨g,0,none⟩) (ps.length+1) cap):=by
 have hl:(ps++[(z,zv)]).length=ps.length+1:=by simp
 have h0:=h.1;rw[hl]at h0;have h1:=((((h0.stored (ps.length*5) (.int .i64 x.kind)).1.stored (ps.length*5+1) (.int .i64 x.op)).1.stored (ps.length*5+2) (.int .i64 x.n)).1.stored (ps.length*5+3) (.string (Aa x.name))).1.stored (ps.length*5+4) s;have hf:(((((Ej (ps++[(z,zv)])).set (ps.length*5) (.int .i64 x.kind)).set (ps.length*5+1) (.int .i64 x.op)).set (ps.length*5+2) (.int .i64 x.n)).set (ps.length*5+3) (.string (Aa x.name))).set (ps.length*5+4) s=Ej (ps++[(x,s)]):=by
  rw[Qv,Qv];have hq:=Rd ps;rw[←hq];simp [Ej,Bg,List.set_append]
 rw[hf]at h1;have hk:Ed (fun b=>base≤b∧b≠g) w (((((w.setCell ⟨g,ps.length*5,none⟩ (.int .i64 x.kind)).setCell ⟨g,ps.length*5+1,none⟩ (.int .i64 x.op)).setCell ⟨g,ps.length*5+2,none⟩ (.int .i64 x.n)).setCell ⟨g,ps.length*5+3,none⟩ (.string (Aa x.name))).setCell ⟨g,ps.length*5+4,none⟩ s):=by
  have hng:¬(base≤g∧g≠g):=fun e=>e.2 rfl
  exact((((Ai w hng _ _).trans (Ai _ hng _ _)).trans (Ai _ hng _ _)).trans (Ai _ hng _ _)).trans (Ai _ hng _ _)
 have hl2:(ps++[(x,s)]).length=ps.length+1:=by simp
 refine⟨by rw[hl2];exact h1.1,fun q hq=>?_⟩;have ob:∀b,(base≤b∧(Value.slice (some ⟨g,0,none⟩) (ps.length+1) cap).ownBlock≠some b)→base≤b∧b≠g:=fun b hb=>⟨hb.1,fun e=>hb.2 (by rw[e];rfl)⟩
 have bo:∀b,base≤b∧b≠g→(base≤b∧(Value.slice (some ⟨g,0,none⟩) (ps.length+1) cap).ownBlock≠some b):=fun b hb=>⟨hb.1,fun e=>hb.2 (by injection e with e;exact e.symm)⟩
 rcases List.mem_append.1 hq with hq|hq
 ·have:=h.2 q (List.mem_append.2 (.inl hq))
  exact⟨((this.1.mono ob).keep hk).mono bo,this.2⟩
 ·rw[List.mem_singleton.1 hq]
  exact⟨(hx.keep hk).mono bo,hn⟩
section
variable (w:World) {o:Oper} {a:Act} {K:Act→World→Prop} {Q:Exit→Act→World→Prop}
theorem qF(s x:Operand)(ho:o.op=.call {callee:=.builtin .append,args:= #[s,x],argTypes:= #[25,25]})
  (base:Nat) (ps:List (Ex ×Value)) (v:Value) (hs:a.eval s=v) (hown:Cb w base ps v) (b c:Nat) (hx:a.eval x=.slice (some ⟨b,0,none⟩) 1 c) (hnew:Ae w b (Bg exZ (.slice none 0 0)) 27)
  (hlen:ps.length≤1000000) (hbase:base≤w.heap.size)
  (h:∀g cap w',Cb w' base (ps++[(exZ,.slice none 0 0)]) (.slice (some ⟨g,0,none⟩) (ps.length+1) cap)→w.grownBy w' v.ownBlock→(v.ownBlock=some g∨g=w.heap.size)→g<w'.heap.size→K (a.put o.dst (.slice (some ⟨g,0,none⟩) (ps.length+1) cap)) w'):o.wp Zb a w K Q:=by
 obtain⟨i0,hi,hz0,hz1,hz2⟩:=info_parts Qy;refine wp_append_lies (P:=Zb) w s x _ ho base 27 i0 _ 5 _ underlying25 hi hz0 hz1 hz2 rfl (by decide) v ps.length (Ej ps) hs hown.1 ⟨b,0,none⟩ 1 c (Bg exZ (.slice none 0 0)) hx rfl ?_ ?_ (by decide) (by unfold maxLen;omega) (by omega) hbase _ rfl ?_
 ·intro j u hu
  have h2:(⟨b,0,none⟩:Addr).add j=⟨b,j,none⟩:=by unfold Addr.add;split<;>simp_all
  rw[h2];exact hnew.at j u hu
 ·intro u hu
  simp only[Bg,List.mem_cons,List.not_mem_nil,or_false]at hu;rcases hu with rfl|rfl|rfl|rfl|rfl<;>rfl
 ·intro g cap w' hown' hg hat hlt
  exact h g cap w' (hown.snoc exZ (.slice none 0 0) Ag.zero Gp hown' hg hat) hg hat hlt
end
structure VY1 (p tb cb ob base:Nat)(va:Option Addr)(vc:Nat)(ps:List (Ex ×Value))(l r2:List Tk)(x:Ex)(W:World)(L:Nat→Bool)(sa:Option Addr)(sc:Nat)(nb:Nat)(gn:Nat)(cn:Nat)(z2 z3 z4 z5 z6 z7 z8:Value)(wx:World):Prop where
 p5_0:L 5=true→L 0=true
 p5_2:L 5=true→L 2=true
 p5_4:L 5=true→L 4=true
 p6_5:L 6=true→L 5=true
 p7_2:L 7=true→L 2=true
 p7_4:L 7=true→L 4=true
 p7_5:L 7=true→L 5=true
 p8_2:L 8=true→L 2=true
 p8_4:L 8=true→L 4=true
 p8_5:L 8=true→L 5=true
 c0:L 0=true→z2=.slice va ps.length vc
 c1:L 1=true→z3=.pointer (some ⟨p,0,none⟩)
 c2:L 2=true→z4=exV x (.slice sa x.args.length sc)
 c3:L 3=true→z5=.int .i64 ps.length
 c4:L 4=true→z6=.slice (some ⟨nb,0,none⟩) 1 1
 c5:L 5=true→z7=.slice (some ⟨gn,0,none⟩) (ps.length+1) cn
 c6:L 6=true→z8=.pointer (some ⟨gn,ps.length*5,none⟩)
 fr:AFr p ob base W wx
 pa:L 2=false→Ps wx p tb l
 pb:L 2=true→Ps wx p tb r2
 c:Ae wx cb [.pointer (some ⟨p,0,none⟩)] 64
 oa:L 8=false→Ae wx ob [.slice va ps.length vc] 25
 ob:L 8=true→Ae wx ob [.slice (some ⟨gn,0,none⟩) (ps.length+1) cn] 25
 ra:L 5=false→Cb wx base ps (.slice va ps.length vc)
 g4:L 4=true→L 5=false→Ae wx nb (Bg exZ (.slice none 0 0)) 27∧base≤nb∧(Value.slice va ps.length vc).ownBlock≠some nb
 xa:L 2=true→L 5=false→Ag (fun b=>base≤b∧(Value.slice va ps.length vc).ownBlock≠some b) wx x.args (.slice sa x.args.length sc)
 xn:L 2=true→I64 x.n
 rb:L 5=true→L 7=false→Cb wx base (ps++[(exZ,.slice none 0 0)]) (.slice (some ⟨gn,0,none⟩) (ps.length+1) cn)
 xb:L 5=true→Ag (fun b=>base≤b∧b≠gn) wx x.args (.slice sa x.args.length sc)
 rc:L 7=true→Cb wx base (ps++[(x,.slice sa x.args.length sc)]) (.slice (some ⟨gn,0,none⟩) (ps.length+1) cn)
 gb:L 5=true→base≤gn∧gn<wx.heap.size
def IY1(p tb cb ob base:Nat)(va:Option Addr)(vc:Nat)(ps:List (Ex ×Value))(l r2:List Tk)(x:Ex)(W:World)(L:Nat→Bool)(a':Act)(w':World):Prop:=
 ∃sa:Option Addr,∃sc:Nat,∃nb:Nat,∃gn:Nat,∃cn:Nat,∃z2 z3 z4 z5 z6 z7 z8:Value,VY1 p tb cb ob base va vc ps l r2 x W L sa sc nb gn cn z2 z3 z4 z5 z6 z7 z8 w'∧a'=⟨[.pointer (some ⟨ob,0,none⟩),.pointer (some ⟨cb,0,none⟩),z2,z3,z4,z5,z6,z7,z8].toArray,[]⟩
def RY1(p tb cb ob base:Nat)(va:Option Addr)(vc:Nat)(ps:List (Ex ×Value))(l r2:List Tk)(x:Ex)(W:World)(a':Act)(w':World):Prop:=
 ∃sa:Option Addr,∃sc:Nat,∃nb:Nat,∃gn:Nat,∃cn:Nat,(AFr p ob base W w'∧Ps w' p tb r2∧Ae w' cb [.pointer (some ⟨p,0,none⟩)] 64∧Ae w' ob [.slice (some ⟨gn,0,none⟩) (ps.length+1) cn] 25∧Cb w' base (ps++[(x,.slice sa x.args.length sc)]) (.slice (some ⟨gn,0,none⟩) (ps.length+1) cn))∧a'=⟨[.pointer (some ⟨ob,0,none⟩),.pointer (some ⟨cb,0,none⟩),.slice va ps.length vc,.pointer (some ⟨p,0,none⟩),exV x (.slice sa x.args.length sc),.int .i64 ps.length,.slice (some ⟨nb,0,none⟩) 1 1,.slice (some ⟨gn,0,none⟩) (ps.length+1) cn,.pointer (some ⟨gn,ps.length*5,none⟩)].toArray,[]⟩
theorem reg_Y1(p tb cb ob base:Nat)(va:Option Addr)(vc:Nat)(ps:List (Ex ×Value))(l r2:List Tk)(x:Ex)(W:World)(hps:Ps W p tb l)(hc:Ae W cb [.pointer (some ⟨p,0,none⟩)] 64)(ho:Ae W ob [.slice va ps.length vc] 25)(hrow:Cb W base ps (.slice va ps.length vc))(hpc:p<cb)(hco:cb<ob)(hob:ob<base)(hbs:base≤W.heap.size)(hll:ps.length≤1000000)(HE:Hid (∀w1,Ps w1 p tb l→Calls Zb 27 #[.pointer (some ⟨p,0,none⟩)] w1 fun e w'=> ∃s,e=.returned (exV x s)∧SFr p w1 w'∧Ps w' p tb r2∧Ag (w1.heap.size≤ ·) w' x.args s∧I64 x.n))(q2 q3 q4 q5 q6 q7 q8:Value)(J K':Act→World→Prop)(hJ:∀a' w',RY1 p tb cb ob base va vc ps l r2 x W a' w'→J a' w')(hM:∀a' w',Met J a' w'→K' a' w'):
  Code.wp Zb ((Tryz.f224.body.bind (Ld 0)).getD .skip) (Exit.then K' (fun _ _ _=>False)) ⟨[.pointer (some ⟨ob,0,none⟩),.pointer (some ⟨cb,0,none⟩),q2,q3,q4,q5,q6,q7,q8].toArray,[]⟩ W:=by
 have HPS:=Za hps;have HC:=Za hc;have HO:=Za ho;have HROW:=Za hrow;clear hps hc ho hrow
 conv=>arg 2;whnf
 (try dsimp only);refine Fp (by kernel_rfl) (by kernel_rfl) (IY1 p tb cb ob base va vc ps l r2 x W) ?_ ?_ ?_
 ·exact⟨none,0,0,0,0,q2,q3,q4,q5,q6,q7,q8,⟨(fun h=>by cases h),(fun h=>by cases h),(fun h=>by cases h),(fun h=>by cases h),(fun h=>by cases h),(fun h=>by cases h),(fun h=>by cases h),(fun h=>by cases h),(fun h=>by cases h),(fun h=>by cases h),(fun h=>by cases h),(fun h=>by cases h),(fun h=>by cases h),(fun h=>by cases h),(fun h=>by cases h),(fun h=>by cases h),(fun h=>by cases h),((AFr.refl p ob base W).old (Zh _ _).drew),(fun _=>HPS.o.old (Zh _ _).drew),(fun h=>by cases h),(HC.o.old (Zh _ _).drew),(fun _=>HO.o.old (Zh _ _).drew),(fun h=>by cases h),(fun _=>HROW.o.old (Zh _ _).drew),(fun h=>fun _=>by cases h),(fun h=>fun _=>by cases h),(fun h=>by cases h),(fun h=>fun _=>by cases h),(fun h=>by cases h),(fun h=>by cases h),(fun h=>by cases h)⟩,rfl⟩
 ·intro L act wx k hI hk hl hd
  obtain⟨sa,sc,nb,gn,cn,z2,z3,z4,z5,z6,z7,z8,hV,rfl⟩:=hI;have hk:k=0∨k=1∨k=2∨k=3∨k=4∨k=5∨k=6∨k=7∨k=8:=by
   have:k<9:=hk;omega
  rcases hk with rfl|rfl|rfl|rfl|rfl|rfl|rfl|rfl|rfl
  ·have l5:L 5=false:=by
    cases e:L 5 with
    |false=>rfl
    |true=>have:=hV.p5_0 e;rw[hl]at this;cases this
   have l8:L 8=false:=by
    cases e:L 8 with
    |false=>rfl
    |true=>have:=hV.p8_5 e;rw[l5]at this;cases this
   have ho:=(hV.oa l8).at 0 _ rfl;refine Bc _ rfl rfl (fun K' hK=>?_)
   conv=>arg 2;whnf
   go_wp2_with fail
   exact⟨sa,sc,nb,gn,cn,.slice va ps.length vc,z3,z4,z5,z6,z7,z8,⟨(fun _=>Bb L 0),kq hV.p5_2,kq hV.p5_4,kq hV.p6_5,kq hV.p7_2,kq hV.p7_4,kq hV.p7_5,kq hV.p8_2,kq hV.p8_4,kq hV.p8_5,(fun _=>rfl),kc hV.c1,kc hV.c2,kc hV.c3,kc hV.c4,kc hV.c5,kc hV.c6,hV.fr,(fun h0=>hV.pa (kb h0)),kc hV.pb,hV.c,(fun h0=>hV.oa (kb h0)),kc hV.ob,(fun h0=>hV.ra (kb h0)),(fun h0=>fun h1=>hV.g4 (kb h0) (kb h1)),(fun h0=>fun h1=>hV.xa (kb h0) (kb h1)),kc hV.xn,(fun h0=>fun h1=>hV.rb (kb h0) (kb h1)),kc hV.xb,kc hV.rc,kc hV.gb⟩,rfl⟩
  ·have hc0:=hV.c.at 0 _ rfl
   refine Bc _ rfl rfl (fun K' hK=>?_)
   conv=>arg 2;whnf
   go_wp2_with fail
   exact⟨sa,sc,nb,gn,cn,z2,.pointer (some ⟨p,0,none⟩),z4,z5,z6,z7,z8,⟨kq hV.p5_0,kq hV.p5_2,kq hV.p5_4,kq hV.p6_5,kq hV.p7_2,kq hV.p7_4,kq hV.p7_5,kq hV.p8_2,kq hV.p8_4,kq hV.p8_5,kc hV.c0,(fun _=>rfl),kc hV.c2,kc hV.c3,kc hV.c4,kc hV.c5,kc hV.c6,hV.fr,(fun h0=>hV.pa (kb h0)),kc hV.pb,hV.c,(fun h0=>hV.oa (kb h0)),kc hV.ob,(fun h0=>hV.ra (kb h0)),(fun h0=>fun h1=>hV.g4 (kb h0) (kb h1)),(fun h0=>fun h1=>hV.xa (kb h0) (kb h1)),kc hV.xn,(fun h0=>fun h1=>hV.rb (kb h0) (kb h1)),kc hV.xb,kc hV.rc,kc hV.gb⟩,rfl⟩
  ·have d1:L 1=true:=hd _ rfl ⟨1,.data⟩ (by simp) rfl
   obtain rfl:=(hV.c1 d1).symm;have l5:L 5=false:=by
    cases e:L 5 with
    |false=>rfl
    |true=>have:=hV.p5_2 e;rw[hl]at this;cases this
   have l8:L 8=false:=by
    cases e:L 8 with
    |false=>rfl
    |true=>have:=hV.p8_5 e;rw[l5]at this;cases this
   have l7:L 7=false:=by
    cases e:L 7 with
    |false=>rfl
    |true=>have:=hV.p7_5 e;rw[l5]at this;cases this
   have hps:=hV.pa hl;refine Bc _ rfl rfl (fun K' hK=>?_)
   conv=>arg 2;whnf
   go_wp2_with fail
   refine(HE.o _ hps).mono ?_;rintro e w7 ⟨s1,rfl,hf7,hp7,hx7,hn7⟩;obtain⟨a7,c7,rfl⟩:=hx7.shape;go_wp2_with fail
   exact⟨a7,c7,nb,gn,cn,z2,.pointer (some ⟨p,0,none⟩),exV x (.slice (a7) x.args.length (c7)),z5,z6,z7,z8,⟨kq hV.p5_0,(fun _=>Bb L 2),kq hV.p5_4,kq hV.p6_5,(fun _=>Bb L 2),kq hV.p7_4,kq hV.p7_5,(fun _=>Bb L 2),kq hV.p8_4,kq hV.p8_5,kc hV.c0,kc hV.c1,(fun _=>rfl),kc hV.c3,kc hV.c4,kc hV.c5,kc hV.c6,(hV.fr.trans (AFr.of_sfr hf7)),(ks),(fun _=>hp7),(hV.c.sfr hf7 (by omega)),(fun _=>(hV.oa l8).sfr hf7 (by omega)),(fun h=>by rw[Ab L (by decide)]at h;rw[l8]at h;cases h),(fun _=>(hV.ra l5).sfrB hf7 (by omega)),(fun h1 h2=>⟨Ae.sfr (hV.g4 (kb h1) (kb h2)).1 hf7 (by have:=(hV.g4 (kb h1) (kb h2)).2.1;omega),(hV.g4 (kb h1) (kb h2)).2⟩),(fun _ _=>hx7.mono (fun b hb=>by have h1:wx.heap.size≤b:=hb;have h2:=hV.fr.size;exact⟨by omega,fun e=>by have:=(World.ownsRow.lt (hV.ra l5).1 _ e).2;omega⟩)),(fun _=>hn7),(fun h _=>by rw[Ab L (by decide)]at h;rw[l5]at h;cases h),(fun h=>by rw[Ab L (by decide)]at h;rw[l5]at h;cases h),(fun h=>by rw[Ab L (by decide)]at h;rw[l7]at h;cases h),(fun h=>by rw[Ab L (by decide)]at h;rw[l5]at h;cases h)⟩,rfl⟩
  ·have d0:L 0=true:=hd _ rfl ⟨0,.data⟩ (by simp) rfl
   obtain rfl:=(hV.c0 d0).symm;refine Bc _ rfl rfl (fun K' hK=>?_)
   conv=>arg 2;whnf
   go_wp2_with fail
   exact⟨sa,sc,nb,gn,cn,.slice va ps.length vc,z3,z4,.int .i64 ps.length,z6,z7,z8,⟨kq hV.p5_0,kq hV.p5_2,kq hV.p5_4,kq hV.p6_5,kq hV.p7_2,kq hV.p7_4,kq hV.p7_5,kq hV.p8_2,kq hV.p8_4,kq hV.p8_5,kc hV.c0,kc hV.c1,kc hV.c2,(fun _=>rfl),kc hV.c4,kc hV.c5,kc hV.c6,hV.fr,(fun h0=>hV.pa (kb h0)),kc hV.pb,hV.c,(fun h0=>hV.oa (kb h0)),kc hV.ob,(fun h0=>hV.ra (kb h0)),(fun h0=>fun h1=>hV.g4 (kb h0) (kb h1)),(fun h0=>fun h1=>hV.xa (kb h0) (kb h1)),kc hV.xn,(fun h0=>fun h1=>hV.rb (kb h0) (kb h1)),kc hV.xb,kc hV.rc,kc hV.gb⟩,rfl⟩
  ·have hal:Below wx.heap.size wx (wx.alloc (.cells #[.int .i64 0,.int .i64 0,.int .i64 0,.string ⟨#[]⟩,.slice none 0 0] 27)):=bA
   have hfs:=hV.fr.size;have l5:L 5=false:=by
    cases e:L 5 with
    |false=>rfl
    |true=>have:=hV.p5_4 e;rw[hl]at this;cases this
   refine Bc _ rfl rfl (fun K' hK=>?_)
   conv=>arg 2;whnf
   go_wp2_with fail
   exact⟨sa,sc,wx.heap.size,gn,cn,z2,z3,z4,z5,.slice (some ⟨(wx.heap.size),0,none⟩) 1 1,z7,z8,⟨kq hV.p5_0,kq hV.p5_2,(fun _=>Bb L 4),kq hV.p6_5,kq hV.p7_2,(fun _=>Bb L 4),kq hV.p7_5,kq hV.p8_2,(fun _=>Bb L 4),kq hV.p8_5,kc hV.c0,kc hV.c1,kc hV.c2,kc hV.c3,(fun _=>rfl),kc hV.c5,kc hV.c6,(AFr.old (hV.fr) hal),(fun h0=>Ps.old (hV.pa (kb h0)) hal),(fun h0=>Ps.old (hV.pb (kb h0)) hal),(Ae.old (hV.c) hal),(fun h0=>Ae.old (hV.oa (kb h0)) hal),(kn hV.p8_4 hl),(fun h0=>Cb.old (hV.ra (kb h0)) hal),(fun _ _=>⟨Zd wx (Bg exZ (.slice none 0 0)) 27,by omega,fun e=>by have:=(World.ownsRow.lt (hV.ra l5).1 _ e).2;omega⟩),(fun h0=>fun h1=>Ag.old hal (hV.xa (kb h0) (kb h1))),(fun h0=>(hV.xn (kb h0))),(kn hV.p5_4 hl),(kn hV.p5_4 hl),(kn hV.p7_4 hl),(kn hV.p5_4 hl)⟩,rfl⟩
  ·have d0:L 0=true:=hd _ rfl ⟨0,.data⟩ (by simp) rfl
   obtain rfl:=(hV.c0 d0).symm;have d2:L 2=true:=hd _ rfl ⟨2,.chain⟩ (by simp) rfl;have d4:L 4=true:=hd _ rfl ⟨4,.data⟩ (by simp) rfl;obtain rfl:=(hV.c4 d4).symm;have l8:L 8=false:=by
    cases e:L 8 with
    |false=>rfl
    |true=>have:=hV.p8_5 e;rw[hl]at this;cases this
   have l7:L 7=false:=by
    cases e:L 7 with
    |false=>rfl
    |true=>have:=hV.p7_5 e;rw[hl]at this;cases this
   have hg4:=hV.g4 d4 hl;have hra:=hV.ra hl;have hxa:=hV.xa d2 hl;have hfs:=hV.fr.size;refine Bc _ rfl rfl (fun K' hK=>?_)
   conv=>arg 2;whnf
   refine qF wx _ _ rfl base ps (.slice va ps.length vc) rfl hra nb 1 rfl hg4.1 hll (Zf hbs hfs) ?_;intro g2 cap2 w2 hr2 hg2 ha2 hl2;have hge:base≤g2:=by
    rcases ha2 with e|e
    ·exact hra.rowGe _ e
    ·omega
   go_wp2_with fail
   exact⟨sa,sc,nb,g2,cap2,.slice va ps.length vc,z3,z4,z5,.slice (some ⟨nb,0,none⟩) 1 1,.slice (some ⟨(g2),0,none⟩) (ps.length+1) (cap2),z8,⟨(kd (d0)),(kd (d2)),(kd (d4)),(fun _=>Bb L 5),kq hV.p7_2,kq hV.p7_4,(fun _=>Bb L 5),kq hV.p8_2,kq hV.p8_4,(fun _=>Bb L 5),kc hV.c0,kc hV.c1,kc hV.c2,kc hV.c3,kc hV.c4,(fun _=>rfl),(kn hV.p6_5 hl),(hV.fr.grown hg2 hra.rowGe),(fun h=>by rw[Ab L (by decide)]at h;rw[d2]at h;cases h),(fun _=>(hV.pb d2).grown hg2 hra.rowGe (by omega)),(hV.c.grew hg2 (fun e=>by have:=hra.rowGe _ e;omega)),(fun _=>(hV.oa l8).grew hg2 (fun e=>by have:=hra.rowGe _ e;omega)),(fun h=>by rw[Ab L (by decide)]at h;rw[l8]at h;cases h),(ks),(fun _=>ks),(fun _=>ks),(fun _=>hV.xn d2),(fun _ _=>hr2),(fun _=>by have h1:=hxa.strong.keep (w':=w2) (fun b off y hb hy=>hg2.cell hy (fun e=>hb.1.2 e.symm));exact h1.mono (fun b hb=>⟨hb.1.1,by rintro rfl;rcases ha2 with e|e;exact hb.1.2 e;have:=hb.2;omega⟩)),(fun h=>by rw[Ab L (by decide)]at h;rw[l7]at h;cases h),(fun _=>⟨hge,hl2⟩)⟩,rfl⟩
  ·have d3:L 3=true:=hd _ rfl ⟨3,.data⟩ (by simp) rfl
   obtain rfl:=(hV.c3 d3).symm;have d5:L 5=true:=hd _ rfl ⟨5,.data⟩ (by simp) rfl;obtain rfl:=(hV.c5 d5).symm;have hgb:=hV.gb d5;refine Bc _ rfl rfl (fun K' hK=>?_)
   conv=>arg 2;whnf
   go_wp2_with fail
   exact⟨sa,sc,nb,gn,cn,z2,z3,z4,.int .i64 ps.length,z6,.slice (some ⟨gn,0,none⟩) (ps.length+1) cn,.pointer (some ⟨gn,ps.length*5,none⟩),⟨kq hV.p5_0,kq hV.p5_2,kq hV.p5_4,(kd (d5)),kq hV.p7_2,kq hV.p7_4,kq hV.p7_5,kq hV.p8_2,kq hV.p8_4,kq hV.p8_5,kc hV.c0,kc hV.c1,kc hV.c2,kc hV.c3,kc hV.c4,kc hV.c5,(fun _=>rfl),hV.fr,(fun h0=>hV.pa (kb h0)),kc hV.pb,hV.c,(fun h0=>hV.oa (kb h0)),kc hV.ob,(fun h0=>hV.ra (kb h0)),(fun h0=>fun h1=>hV.g4 (kb h0) (kb h1)),(fun h0=>fun h1=>hV.xa (kb h0) (kb h1)),kc hV.xn,(fun h0=>fun h1=>hV.rb (kb h0) (kb h1)),kc hV.xb,kc hV.rc,kc hV.gb⟩,rfl⟩
  ·have d2:L 2=true:=hd _ rfl ⟨2,.data⟩ (by simp) rfl
   obtain rfl:=(hV.c2 d2).symm;have d5:L 5=true:=hd _ rfl ⟨5,.chain⟩ (by simp) rfl;have d6:L 6=true:=hd _ rfl ⟨6,.data⟩ (by simp) rfl;obtain rfl:=(hV.c6 d6).symm;have hrb:=hV.rb d5 hl;have hxb:=hV.xb d5;have hxn:=hV.xn d2;have hgb:=hV.gb d5;have hlr:(ps++[(exZ,Value.slice none 0 0)]).length=ps.length+1:=by simp
   have hrw:=hrb.1;rw[hlr]at hrw;have k0:=hrw.cellAt (ps.length*5) (by omega);have k1:=hrw.cellAt (ps.length*5+1) (by omega);have k2:=hrw.cellAt (ps.length*5+2) (by omega);have k3:=hrw.cellAt (ps.length*5+3) (by omega);have k4:=hrw.cellAt (ps.length*5+4) (by omega);rw[List.getElem?_eq_getElem (by rw[Rd,hlr];omega)]at k0 k1 k2 k3 k4;have f0:=hrw.frozenAt (ps.length*5);have f1:=hrw.frozenAt (ps.length*5+1);have f2:=hrw.frozenAt (ps.length*5+2);have f3:=hrw.frozenAt (ps.length*5+3);have f4:=hrw.frozenAt (ps.length*5+4);refine Bc _ rfl rfl (fun K' hK=>?_)
   conv=>arg 2;whnf
   go_wp2_with fail
   exact⟨sa,sc,nb,gn,cn,z2,z3,exV x (.slice sa x.args.length sc),z5,z6,z7,.pointer (some ⟨gn,ps.length*5,none⟩),⟨kq hV.p5_0,kq hV.p5_2,kq hV.p5_4,kq hV.p6_5,(kd (d2)),(kd (hV.p5_4 d5)),(kd (d5)),kq hV.p8_2,kq hV.p8_4,kq hV.p8_5,kc hV.c0,kc hV.c1,kc hV.c2,kc hV.c3,kc hV.c4,kc hV.c5,kc hV.c6,(((((hV.fr.high hgb.1 _ _).high hgb.1 _ _).high hgb.1 _ _).high hgb.1 _ _).high hgb.1 _ _),(fun h=>by rw[Ab L (by decide)]at h;rw[d2]at h;cases h),(fun _=>((((((hV.pb d2).other (by omega) _ _).other (by omega) _ _).other (by omega) _ _).other (by omega) _ _).other (by omega) _ _)),(((((hV.c.other (by omega) _ _).other (by omega) _ _).other (by omega) _ _).other (by omega) _ _).other (by omega) _ _),(fun h=>((((((hV.oa (kb h)).other (by omega) _ _).other (by omega) _ _).other (by omega) _ _).other (by omega) _ _).other (by omega) _ _)),(fun h=>((((((hV.ob (kb h)).other (by omega) _ _).other (by omega) _ _).other (by omega) _ _).other (by omega) _ _).other (by omega) _ _)),(fun h=>by rw[Ab L (by decide)]at h;rw[d5]at h;cases h),(fun _ h=>by rw[Ab L (by decide)]at h;rw[d5]at h;cases h),(fun _ h=>by rw[Ab L (by decide)]at h;rw[d5]at h;cases h),(fun _=>hxn),(fun _=>ks),(fun _=>((((hxb.keep (Ai _ (fun e=>e.2 rfl) _ _)).keep (Ai _ (fun e=>e.2 rfl) _ _)).keep (Ai _ (fun e=>e.2 rfl) _ _)).keep (Ai _ (fun e=>e.2 rfl) _ _)).keep (Ai _ (fun e=>e.2 rfl) _ _)),(fun _=>hrb.setLast hxb hxn),(fun _=>by simpa [World.setCell]using hgb)⟩,rfl⟩
  ·have d5:L 5=true:=hd _ rfl ⟨5,.data⟩ (by simp) rfl
   obtain rfl:=(hV.c5 d5).symm;have hx:=hV.oa hl;have x1:=hx.at 0 _ rfl;have fx:=hx.fz 0;have hxl:=hx.lt;have hgb:=hV.gb d5;refine Bc _ rfl rfl (fun K' hK=>?_)
   conv=>arg 2;whnf
   go_wp2_with fail
   exact⟨sa,sc,nb,gn,cn,z2,z3,z4,z5,z6,.slice (some ⟨gn,0,none⟩) (ps.length+1) cn,z8,⟨kq hV.p5_0,kq hV.p5_2,kq hV.p5_4,kq hV.p6_5,kq hV.p7_2,kq hV.p7_4,kq hV.p7_5,(kd (hV.p5_2 d5)),(kd (hV.p5_4 d5)),(kd (d5)),kc hV.c0,kc hV.c1,kc hV.c2,kc hV.c3,kc hV.c4,kc hV.c5,kc hV.c6,(hV.fr.set _ _),(fun h=>(hV.pa (kb h)).other (by omega) _ _),(fun h=>(hV.pb (kb h)).other (by omega) _ _),(hV.c.other (by omega) _ _),(ks),(fun _=>hx.set 0 (.slice (some ⟨gn,0,none⟩) (ps.length+1) cn)),(fun h=>(hV.ra (kb h)).low hob _ _),(fun _ h=>by rw[Ab L (by decide)]at h;rw[d5]at h;cases h),(fun _ h=>by rw[Ab L (by decide)]at h;rw[d5]at h;cases h),(fun h=>hV.xn (kb h)),(fun h1 h2=>(hV.rb (kb h1) (kb h2)).low hob _ _),(fun h=>(hV.xb (kb h)).keep (Ai _ (fun e=>by have:=e.1;omega) _ _)),(fun h=>(hV.rc (kb h)).low hob _ _),(fun h=>by simpa [World.setCell]using hV.gb (kb h))⟩,rfl⟩
 ·intro L act wx hI hall
  obtain⟨sa,sc,nb,gn,cn,z2,z3,z4,z5,z6,z7,z8,hV,rfl⟩:=hI;obtain rfl:=(hV.c0 (hall 0 (by decide))).symm;obtain rfl:=(hV.c1 (hall 1 (by decide))).symm;obtain rfl:=(hV.c2 (hall 2 (by decide))).symm;obtain rfl:=(hV.c3 (hall 3 (by decide))).symm;obtain rfl:=(hV.c4 (hall 4 (by decide))).symm;obtain rfl:=(hV.c5 (hall 5 (by decide))).symm;obtain rfl:=(hV.c6 (hall 6 (by decide))).symm;exact hM _ _ (Met.intro (hJ _ _ ⟨sa,sc,nb,gn,cn,⟨hV.fr,hV.pb (hall 2 (by decide)),hV.c,hV.ob (hall 8 (by decide)),hV.rc (hall 7 (by decide))⟩,rfl⟩))
structure Hu (W:World)(p tb cb ob base:Nat)(va:Option Addr)(vc:Nat)(ps:List (Ex ×Value))(l:List Tk)(wx:World):Prop where
 fr:AFr p ob base W wx
 par:Ps wx p tb l
 c:Ae wx cb [.pointer (some ⟨p,0,none⟩)] 64
 o:Ae wx ob [.slice va ps.length vc] 25
 row:Cb wx base ps (.slice va ps.length vc)
 len:ps.length+l.length≤1000000
structure Ot (p cb ob base:Nat)(W:World):Prop where
 pc:p<cb
 co:cb<ob
 ob:ob<base
 bs:base≤W.heap.size
theorem Hu.old {W:World}{p tb cb ob base:Nat}{va:Option Addr}{vc:Nat}{ps:List (Ex ×Value)}{l:List Tk}{wx w':World}(h:Hu W p tb cb ob base va vc ps l wx)(hb:Below wx.heap.size wx w'):Hu W p tb cb ob base va vc ps l w':=
 ⟨h.fr.old hb,h.par.old hb,h.c.old hb,h.o.old hb,h.row.old hb,h.len⟩
theorem Hu.next {W:World}{p tb cb ob base:Nat}{va:Option Addr}{vc:Nat}{ps:List (Ex ×Value)}{l r:List Tk}{wx w':World}(h:Hu W p tb cb ob base va vc ps l wx)(hn:Ot p cb ob base W)(hf:SFr p wx w')(hp:Ps w' p tb r)(hl:r.length≤l.length):Hu W p tb cb ob base va vc ps r w':=
 ⟨h.fr.trans (AFr.of_sfr hf),hp,h.c.sfr hf (by have:=hn.pc;omega),h.o.sfr hf (by have:=hn.pc;have:=hn.co;omega),h.row.sfrB hf (by have:=hn.pc;have:=hn.co;have:=hn.ob;omega),by have:=h.len;omega⟩
theorem rZ(f:Nat)(hE:Ox f)(W wx:World)(p tb cb ob base:Nat)(va:Option Addr)(vc:Nat)(ps:List (Ex ×Value))(l r:List Tk)(x:Ex)(hn:Ot p cb ob base W)(h:Hu W p tb cb ob base va vc ps l wx)(hl:4*l.length+2≤f)(hx:Bf f 1 l=.ok (x,r)):
  Calls Zb 224 #[.pointer (some ⟨ob,0,none⟩),.pointer (some ⟨cb,0,none⟩)] wx fun e w'=>e=.returned (.tuple #[])∧∃sa sc gn cn,Hu W p tb cb ob base (some ⟨gn,0,none⟩) cn (ps++[(x,.slice sa x.args.length sc)]) r w':=by
 have hz:base≤wx.heap.size:=Zf hn.bs h.fr.size;have hlen:r.length<l.length:=(Fd f).1 _ _ _ _ hx;have key:=reg_Y1 p tb cb ob base va vc ps l r x wx h.par h.c h.o h.row hn.pc hn.co hn.ob hz (by have:=h.len;omega) (fun w1 h1=>by
  have h2:=hE l w1 p tb hl h1;rw[hx]at h2;refine h2.mono ?_;rintro e w' ⟨hf,v,rfl,hp,s,rfl,hs,hm⟩;exact⟨s,rfl,hf,hp,hs,hm⟩) undef undef undef undef undef undef undef _ _ (fun _ _ q=>q) (fun _ _ q=>q)
 have HFR:=Za h.fr;have HLN:=Za h.len;have HLL:=Za hlen;clear h hE hl hx hz hlen hn;go_enter func224,ntmps224
 refine wp_mono key ?_;intro e a' w' hq
 cases e with
 |normal=>
  obtain⟨sa,sc,nb,gn,cn,⟨h1,h2,h3,h4,h5⟩,rfl⟩:=hq;have hl1:(ps++[(x,Value.slice sa x.args.length sc)]).length=ps.length+1:=by simp
  refine bodyPost_end (v:=.tuple #[]) (by simp [results,results224,go_sem]) rfl ⟨rfl,sa,sc,gn,cn,HFR.o.trans h1,h2,h3,?_,?_,?_⟩
  ·rw[hl1];exact h4
  ·rw[hl1];exact h5
  ·rw[hl1];have:=HLN.o;have:=HLL.o;omega
 |_=>exact False.elim hq
structure ErrI (W:World)(p tb cb ob base:Nat)(va:Option Addr)(vc:Nat)(ps:List (Ex ×Value))(l:List Tk)(L:Nat→Bool)(z2 z3:Value)(wx:World):Prop where
 at0:Hu W p tb cb ob base va vc ps l wx
 l2:L 2=false
 l5:L 5=false
 c0:L 0=true→z2=.slice va ps.length vc
 c1:L 1=true→z3=.pointer (some ⟨p,0,none⟩)
theorem qZ(f:Nat)(hE:Ox f)(W wx:World)(p tb cb ob base:Nat)(va:Option Addr)(vc:Nat)(ps:List (Ex ×Value))(l:List Tk)(n:Int)(hn:Ot p cb ob base W)(h:Hu W p tb cb ob base va vc ps l wx)(hl:4*l.length+2≤f)(hx:Bf f 1 l=.error n):
  Calls Zb 224 #[.pointer (some ⟨ob,0,none⟩),.pointer (some ⟨cb,0,none⟩)] wx fun e w'=>e=Bk n∧AFr p ob base W w':=by
 have HE:Hid (∀w1,Ps w1 p tb l→Calls Zb 27 #[.pointer (some ⟨p,0,none⟩)] w1 fun e w'=>e=Bk n∧SFr p w1 w'):=fun w1 h1=>by
  have h2:=hE l w1 p tb hl h1;rw[hx]at h2;refine h2.mono ?_;rintro e w' ⟨hf,rfl⟩;exact⟨rfl,hf⟩
 have HN:=Za hn;have HA:=Za h;clear hE hl hx hn h;go_enter func224,ntmps224
 refine Fp (by kernel_rfl) (by kernel_rfl) (fun L a' w'=> ∃z2 z3 z4 z5 z6 z7 z8:Value,ErrI W p tb cb ob base va vc ps l L z2 z3 w'∧a'=⟨[.pointer (some ⟨ob,0,none⟩),.pointer (some ⟨cb,0,none⟩),z2,z3,z4,z5,z6,z7,z8].toArray,[]⟩) ?_ ?_ ?_
 ·exact⟨undef,undef,undef,undef,undef,undef,undef,⟨HA.o.old (Zh _ _).drew,rfl,rfl,(fun h=>by cases h),(fun h=>by cases h)⟩,rfl⟩
 ·intro L act wx k hI hk hl hd
  obtain⟨z2,z3,z4,z5,z6,z7,z8,hV,rfl⟩:=hI;have hk:k=0∨k=1∨k=2∨k=3∨k=4∨k=5∨k=6∨k=7∨k=8:=by
   have:k<9:=hk;omega
  rcases hk with rfl|rfl|rfl|rfl|rfl|rfl|rfl|rfl|rfl
  ·have h0:=hV.at0.o.at 0 _ rfl
   refine Bc _ rfl rfl (fun K' hK=>?_)
   conv=>arg 2;whnf
   go_wp2_with fail
   exact⟨.slice va ps.length vc,z3,z4,z5,z6,z7,z8,⟨hV.at0,(Ab L (by decide)).trans hV.l2,(Ab L (by decide)).trans hV.l5,(fun _=>rfl),kc hV.c1⟩,rfl⟩
  ·have h0:=hV.at0.c.at 0 _ rfl
   refine Bc _ rfl rfl (fun K' hK=>?_)
   conv=>arg 2;whnf
   go_wp2_with fail
   exact⟨z2,.pointer (some ⟨p,0,none⟩),z4,z5,z6,z7,z8,⟨hV.at0,(Ab L (by decide)).trans hV.l2,(Ab L (by decide)).trans hV.l5,kc hV.c0,(fun _=>rfl)⟩,rfl⟩
  ·have d1:L 1=true:=hd _ rfl ⟨1,.data⟩ (by simp) rfl
   obtain rfl:=(hV.c1 d1).symm;have HV:=Za hV.at0;clear hV hd;refine Bc _ rfl rfl (fun K' hK=>?_);clear hK
   conv=>arg 2;whnf
   go_wp2_with fail
   refine(HE.o _ HV.o.par).mono ?_;rintro e w7 ⟨rfl,hf⟩;unfold Bk;have HF:=Za (HV.o.fr.trans (AFr.of_sfr hf));clear hf;go_wp2_with fail
   exact⟨rfl,rfl,HF.o⟩
  ·have d0:L 0=true:=hd _ rfl ⟨0,.data⟩ (by simp) rfl
   obtain rfl:=(hV.c0 d0).symm;refine Bc _ rfl rfl (fun K' hK=>?_)
   conv=>arg 2;whnf
   go_wp2_with fail
   exact⟨.slice va ps.length vc,z3,z4,.int .i64 ps.length,z6,z7,z8,⟨hV.at0,(Ab L (by decide)).trans hV.l2,(Ab L (by decide)).trans hV.l5,kc hV.c0,kc hV.c1⟩,rfl⟩
  ·have hal:Below wx.heap.size wx (wx.alloc (.cells #[.int .i64 0,.int .i64 0,.int .i64 0,.string ⟨#[]⟩,.slice none 0 0] 27)):=bA
   refine Bc _ rfl rfl (fun K' hK=>?_)
   conv=>arg 2;whnf
   go_wp2_with fail
   exact⟨z2,z3,z4,z5,.slice (some ⟨wx.heap.size,0,none⟩) 1 1,z7,z8,⟨hV.at0.old hal,(Ab L (by decide)).trans hV.l2,(Ab L (by decide)).trans hV.l5,kc hV.c0,kc hV.c1⟩,rfl⟩
  ·have d2:L 2=true:=hd _ rfl ⟨2,.chain⟩ (by simp) rfl
   rw[hV.l2]at d2;cases d2
  ·have d5:L 5=true:=hd _ rfl ⟨5,.data⟩ (by simp) rfl
   rw[hV.l5]at d5;cases d5
  ·have d2:L 2=true:=hd _ rfl ⟨2,.data⟩ (by simp) rfl
   rw[hV.l2]at d2;cases d2
  ·have d5:L 5=true:=hd _ rfl ⟨5,.data⟩ (by simp) rfl
   rw[hV.l5]at d5;cases d5
 ·intro L act wx hI hall
  obtain⟨z2,z3,z4,z5,z6,z7,z8,hV,rfl⟩:=hI;have:=hall 2 (by decide);rw[hV.l2]at this;cases this
def mU(g:Nat)(a:List Ex)(l:List Tk):PR (List Ex):=match Bp [44] l with
 |some r=>Jv g a r
 |none=>match As [41] l with
  |.error e=>.error e
  |.ok r=>.ok (a,r)
theorem bJ {g:Nat}{a:List Ex}{l r:List Tk}{x:Ex}(h:Bf g 1 l=.ok (x,r)):Jv (g+1) a l=mU g (a++[x]) r:=by
 rw[Jv,h];rfl
theorem fR {g:Nat}{a:List Ex}{l:List Tk}{n:Int}(h:Bf g 1 l=.error n):Jv (g+1) a l=.error n:=by
 rw[Jv,h]
def dT(W:World)(p tb cb ob base:Nat)(R:PR (List Ex))(e:Ending)(w':World):Prop:=
 match R with
 |.ok (a,r)=>e=.returned (.tuple #[])∧∃va vc ps,ps.map (·.1)=a∧Hu W p tb cb ob base va vc ps r w'
 |.error n=>e=Bk n∧AFr p ob base W w'
def pA(ob cb:Nat):Value:=.func (.func 224) #[] #[.pointer (some ⟨ob,0,none⟩),.pointer (some ⟨cb,0,none⟩)]
theorem jE(f:Nat)(w:World)(p tb cb ob base:Nat)(t:Tk)(r:List Tk)(hn:Ot p cb ob base w)(h:Hu w p tb cb ob base none 0 [] (t::r) w)(y:isP [41] t=true):
  Calls Zb 125 #[.pointer (some ⟨p,0,none⟩),pA ob cb] w (dT w p tb cb ob base (Hg (f+1) (t::r))):=by
 have e1:Hg (f+1) (t::r)=.ok ([],r):=by rw[Hg,An y]
 rw[e1];have HT:=Za (Bq p tb t r [41] w h.par y);have HA:=Za h;have HN:=Za hn;clear e1 y h hn;unfold pA;go_enter func125,ntmps125
 go_wp2_with fail
 refine HT.o.mono ?_;rintro e w1 ⟨rfl,hf,hp⟩;have HA1:=Za (HA.o.next HN.o hf hp (by simp));clear hf hp;go_wp2_with fail
 first
  |(refine bodyPost_ret (results_none rfl _ _ _) rfl ?_)
  |go_end0
 exact⟨rfl,none,0,[],rfl,HA1.o⟩
structure rQ (w:World)(p tb cb ob base:Nat)(f:Nat)(R:PR (List Ex))(g:Nat)(va:Option Addr)(vc:Nat)(ps:List (Ex ×Value))(l:List Tk)(wr:World):Prop where
 arg:Hu w p tb cb ob base va vc ps l wr
 le:g≤f
 fuel:4*l.length+2≤g
 res:mU g (ps.map (·.1)) l=R
theorem cP(f:Nat)(ih:∀g,g≤f→Ox g)(w:World)(p tb cb ob base:Nat)(t:Tk)(r:List Tk)(hn:Ot p cb ob base w)(h:Hu w p tb cb ob base none 0 [] (t::r) w)(hl:4*(t::r).length+4≤f+1)(n:isP [41] t=false):
  Calls Zb 125 #[.pointer (some ⟨p,0,none⟩),pA ob cb] w (dT w p tb cb ob base (Hg (f+1) (t::r))):=by
 have e1:Hg (f+1) (t::r)=Jv f [] (t::r):=by rw[Hg,Af n]
 rw[e1];obtain⟨g,rfl⟩:∃g,f=g+1:=⟨f-1,by omega⟩;obtain⟨R,hR⟩:∃R,Jv (g+1) [] (t::r)=R:=⟨_,rfl⟩;rw[hR];have HR:=Za hR;have HT:=Za (Aj p tb t r [41] w h.par n);have HA:=Za h;have HN:=Za hn;have HFU:=Za hl;have IH:=Za ih;clear e1 n h hn hR hl ih;unfold pA;go_enter func125,ntmps125
 go_wp2_with fail
 refine HT.o.mono ?_;rintro e w1 ⟨rfl,hb⟩;have HA1:=Za (HA.o.old hb);clear hb;have HX:Hid (∀g',g'≤g+1→∀(va:Option Addr) (vc:Nat) (ps:List (Ex ×Value)) (l:List Tk) (wx:World),Hu w p tb cb ob base va vc ps l wx→4*l.length+2≤g'→(∀n,Bf g' 1 l=.error n→Calls Zb 224 #[.pointer (some ⟨ob,0,none⟩),.pointer (some ⟨cb,0,none⟩)] wx fun e w'=>e=Bk n∧AFr p ob base w w')∧
   (∀x q,Bf g' 1 l=.ok (x,q)→Calls Zb 224 #[.pointer (some ⟨ob,0,none⟩),.pointer (some ⟨cb,0,none⟩)] wx fun e w'=>e=.returned (.tuple #[])∧∃sa sc gn cn,Hu w p tb cb ob base (some ⟨gn,0,none⟩) cn (ps++[(x,.slice sa x.args.length sc)]) q w')):=
  fun g' hg va vc ps l wx ha hl=>⟨fun n hx=>qZ g' (IH.out g' hg) w wx p tb cb ob base va vc ps l n HN.o ha hl hx,fun x q hx=>rZ g' (IH.out g' hg) w wx p tb cb ob base va vc ps l q x HN.o ha hl hx⟩
 go_wp2_with fail
 cases hc:Bf g 1 (t::r)with
 |error n=>
  have hq:=(HX.o g (by omega) none 0 [] (t::r) w1 HA1.o (by have:=HFU.o;omega)).1 n hc;have e2:=HR.o;rw[fR hc]at e2;subst e2;clear hc;refine hq.mono ?_;rintro e w2 ⟨rfl,hf⟩;have HF:=Za hf;clear hf;unfold Bk;go_wp2_with fail
  exact⟨rfl,rfl,HF.o⟩
 |ok q=>
  obtain⟨x,q⟩:=q;have hq:=(HX.o g (by omega) none 0 [] (t::r) w1 HA1.o (by have:=HFU.o;omega)).2 x q hc;have e2:=HR.o;rw[bJ hc]at e2;have hlen:=(Fd g).1 _ _ _ _ hc;refine hq.mono ?_;rintro e w2 ⟨rfl,sa,sc,gn,cn,ha⟩;have HI0:Hid (rQ w p tb cb ob base (g+1) R g (some ⟨gn,0,none⟩) cn [(x,.slice sa x.args.length sc)] q w2):=⟨ha,by omega,by have:=HFU.o;omega,e2⟩;clear ha hc hlen e2;go_wp2_with fail
  go_loopw [] (fun wr=> ∃(g':Nat) (va:Option Addr) (vc:Nat) (ps:List (Ex ×Value)) (l:List Tk),Hid (rQ w p tb cb ob base (g+1) R g' va vc ps l wr)) (fun wr=>Dv p wr)
  case atStart=>exact⟨g,_,_,_,q,HI0⟩
  case round=>
   obtain⟨g',va,vc,ps,l,HI⟩:=hrel;clear HI0;obtain⟨u,l,rfl⟩:=HI.o.arg.par.ends.ne
   cases hu:isP [44] u with
   |true=>
    have HTK:=Za (Bq p tb u l [44] wr HI.o.arg.par hu);have hres:Jv g' (ps.map (·.1)) l=R:=by
     have:=HI.o.res;unfold mU at this;rw[An hu]at this;exact this
    clear hu;go_wp2_with fail
    refine HTK.o.mono ?_;rintro e w3 ⟨rfl,hf,hp⟩;have HA3:=Za (HI.o.arg.next HN.o hf hp (by simp));clear hf hp;obtain⟨g2,hg2⟩:∃g2,g'=g2+1:=⟨g'-1,by have:=HI.o.fuel;omega⟩;subst hg2;have hfu:=HI.o.fuel;rw[Zg]at hfu;have hle:=HI.o.le;go_wp2_with fail
    cases hc:Bf g2 1 l with
    |error n=>
     have hq:=(HX.o g2 (by omega) va vc ps l w3 HA3.o (by omega)).1 n hc;rw[fR hc]at hres;subst hres;clear hc;refine hq.mono ?_;rintro e w4 ⟨rfl,hf⟩;have HF:=Za hf;clear hf;unfold Bk;go_wp2_with fail
     exact⟨rfl,rfl,HF.o⟩
    |ok q2=>
     obtain⟨y,q2⟩:=q2;have hq:=(HX.o g2 (by omega) va vc ps l w3 HA3.o (by omega)).2 y q2 hc;rw[bJ hc]at hres;have hlen:=(Fd g2).1 _ _ _ _ hc;refine hq.mono ?_;rintro e w4 ⟨rfl,sa2,sc2,gn2,cn2,ha⟩;have HI4:Hid (rQ w p tb cb ob base (g+1) R g2 (some ⟨gn2,0,none⟩) cn2 (ps++[(y,.slice sa2 y.args.length sc2)]) q2 w4):=⟨ha,by omega,by omega,by rw[List.map_append];exact hres⟩;have hm:Dv p w4<Dv p wr:=by
      rw[HI4.o.arg.par.len,HI.o.arg.par.len,Zg];omega
     have HM:=Za hm;clear ha hc hlen hres hm hfu hle hq;go_wp2_with fail
     go_roundw
     case rel=>exact⟨g2,_,_,_,q2,HI4⟩
     case measure=>exact HM.o
   |false=>
    have HTK:=Za (Aj p tb u l [44] wr HI.o.arg.par hu);have hres:(match As [41] (u::l)with|.error e=>.error e|.ok r=>.ok (ps.map (·.1),r))=R:=by
     have:=HI.o.res;unfold mU at this;rw[Af hu]at this;exact this
    clear hu;go_wp2_with fail
    refine HTK.o.mono ?_;rintro e w3 ⟨rfl,hb⟩;have HA3:=Za (HI.o.arg.old hb);have hba:Below w3.heap.size w3 (w3.alloc (.cells #[.string ⟨#[41]⟩] 9)):=bA;have HA4:=Za (HA3.o.old hba);have HWN:=Za (De p tb (u::l) [41] _ HA4.o.par w3.heap.size 1 ((Zd w3 [.string ⟨#[41]⟩] 9).at 0 _ rfl));clear hb hba;go_wp2_with fail
    refine HWN.o.mono ?_;intro e w5 he
    cases hw:As [41] (u::l)with
    |error n=>
     rw[hw]at he hres;obtain⟨hf,rfl⟩:=he;have HF:=Za (HA4.o.fr.trans (AFr.of_sfr hf));dsimp only at hres;subst hres;clear hf hw;unfold Bk;go_wp2_with fail
     exact⟨rfl,rfl,HF.o⟩
    |ok q3=>
     rw[hw]at he hres;obtain⟨hf,rfl,hp⟩:=he;have HA5:=Za (HA4.o.next HN.o hf hp (Nat.le_of_lt (Bm hw)));dsimp only at hres;subst hres;clear hf hw hp;go_wp2_with fail
     first
      |go_end0
      |(refine bodyPost_ret (results_none rfl _ _ _) rfl ?_)
     exact⟨rfl,va,vc,ps,rfl,HA5.o⟩
theorem pS(f:Nat)(ih:∀g,g≤f→Ox g):gI (f+1):=by
 intro l w p tb hl h;have hmf:∀(fn:Fn) (first cap:Array Value) (w:World),(Instr.makeFunc fn first cap).run Zb w=.ok (.func fn first cap) w:=fun _ _ _ _=>rfl
 have hb1:Below w.heap.size w ((w.alloc (.cells #[.pointer (some ⟨p,0,none⟩)] 64)).alloc (.cells #[.slice none 0 0] 25)):=(bA).alloc (by simp) _;have hc1:=(Zd w [.pointer (some ⟨p,0,none⟩)] 64).alloc (.cells #[.slice none 0 0] 25);have ho1:=Zd (w.alloc (.cells #[.pointer (some ⟨p,0,none⟩)] 64)) [.slice none 0 0] 25;rw[show(w.alloc (.cells #[.pointer (some ⟨p,0,none⟩)] 64)).heap.size=w.heap.size+1 by simp]at ho1;have hp1:=h.old hb1;have hlen:l.length≤1000000:=by obtain⟨_,_,h2⟩:=h;exact h2.fit
 have HB:=Za hb1;have hpl:=h.lt;obtain⟨W,hW⟩:∃W,(w.alloc (.cells #[.pointer (some ⟨p,0,none⟩)] 64)).alloc (.cells #[.slice none 0 0] 25)=W:=⟨_,rfl⟩;have hws:W.heap.size=w.heap.size+2:=by rw[←hW];simp
 rw[hW]at hc1 ho1 hp1 HB;have hno:Ot p w.heap.size (w.heap.size+1) (w.heap.size+2) W:=⟨hpl,by omega,by omega,by omega⟩;have hat:Hu W p tb w.heap.size (w.heap.size+1) (w.heap.size+2) none 0 [] l W:=⟨AFr.refl _ _ _ _,hp1,hc1,ho1,Cb.zero _ _,by simpa using hlen⟩;have key:Calls Zb 125 #[.pointer (some ⟨p,0,none⟩),pA (w.heap.size+1) w.heap.size] W (dT W p tb w.heap.size (w.heap.size+1) (w.heap.size+2) (Hg (f+1) l)):=by
  obtain⟨t,r,rfl⟩:=hp1.ends.ne
  cases y:isP [41] t with
  |true=>exact jE f W p tb _ _ _ t r hno hat y
  |false=>exact cP f ih W p tb _ _ _ t r hno hat hl y
 have HK:=Za key;have HPL:=Za hpl;have HLN:=Za hlen;have HWS:=Za hws;have hc0:=hc1.at 0 _ rfl;have HPS:=Za h;have hwl:w.heap.size<W.heap.size:=by omega
 clear key hno hat hp1 hb1 hc1 ho1 h hlen hpl hws;unfold pA at HK;obtain⟨R,hR⟩:∃R,Hg (f+1) l=R:=⟨_,rfl⟩;rw[hR]at HK ⊢;have HRR:=Za hR;clear hR;go_enter func201,ntmps201
 go_upto_region 1 with(fail)
 clear hW;go_wp2_with fail
 refine HK.o.mono ?_;intro e w1 he
 cases R with
 |error n=>
  obtain⟨rfl,hf⟩:=he;have HF:Hid (SFr p w w1):=⟨hf.os.trans HB.o.os,hf.tape.trans HB.o.tape,hf.output.trans HB.o.output,Zf HB.o.size hf.size,fun k hk hp=>(hf.block k (by have:=HWS.o;omega) (by omega) hp (by omega)).trans (HB.o.block k hk)⟩;clear hf;unfold Bk;go_wp2_with fail
  exact⟨rfl,HF.o,rfl⟩
 |ok q=>
  obtain⟨a,r⟩:=q;obtain⟨rfl,va,vc,ps,rfl,ha⟩:=he;have hf:=ha.fr;have HF:Hid (SFr p w w1):=⟨hf.os.trans HB.o.os,hf.tape.trans HB.o.tape,hf.output.trans HB.o.output,Zf HB.o.size hf.size,fun k hk hp=>(hf.block k (by have:=HWS.o;omega) (by omega) hp (by omega)).trans (HB.o.block k hk)⟩;have HA:=Za ha;clear hf ha;go_wp2_with fail
  have d0:=HA.o.o.at 0 _ rfl;have hex:=HA.o.row.exs (show ps.length≤140737488355328 by have:=HA.o.len;omega);exact bodyPost_ret (v:=.slice va ps.length vc) (by simp [results,results201,go_sem,d0]) rfl ⟨HF.o,_,rfl,HA.o.par,hex.up (by omega)⟩
theorem Ns:∀f:Nat,Ym f∧Ox f∧Tb f∧Ww f∧gI f
 |0=>⟨fun lv l w p tb h=>by omega,fun l w p tb h=>by omega,fun l w p tb h=>by omega,fun s l w p tb h=>by omega,fun l w p tb h=>by omega⟩
 |f+1=>by
  have ih:∀g,g≤f→Ym g∧Ox g∧Tb g∧Ww g∧gI g:=fun g hg=>Ns g
  obtain⟨hC,hE,hT,hN,hA⟩:=ih f (Nat.le_refl _);have hc:=lP f hT (fun g hg=>(ih g hg).1);exact⟨hc,expr_of (f+1) hc,kY f hT hE hN,jO f hA hE,pS f (fun g hg=>(ih g hg).2.1)⟩
abbrev ystV(x:St)(a t e:Value):Value:=.agg #[.int .i64 x.kind,.string (Aa x.name),a,t,e]
def StsH(B:Nat)(l:List St)(v:Value)(w:World):Prop:=Ax (B≤ ·) w l v
def StH(B:Nat)(x:St)(v:Value)(w:World):Prop:= ∃a t e,v=ystV x a t e∧Ag (B≤ ·) w x.args a∧Ax (B≤ ·) w x.thn t∧Ax (B≤ ·) w x.els e
def InH(B:Nat)(x:Ex)(v:Value)(w:World):Prop:=Ag (B≤ ·) w [x] v
def Eo(f:Nat)(l:List Tk):PR (List St):=match As [123] l with
 |.error e=>.error e
 |.ok r=>Dr f [] r
def InsideC(f:Nat):Prop:= ∀l w p tb,4*l.length≤f→Ps w p tb l→Calls Zb 202 #[.pointer (some ⟨p,0,none⟩)] w (Gu (InH w.heap.size) w p tb (Cr f l))
def SimpleC(f:Nat):Prop:= ∀l w p tb,4*l.length≤f→Ps w p tb l→Calls Zb 204 #[.pointer (some ⟨p,0,none⟩)] w (Gu (StH w.heap.size) w p tb (Av f l))
def Tq(f:Nat):Prop:= ∀l w p tb,4*l.length≤f→Ps w p tb l→Calls Zb 203 #[.pointer (some ⟨p,0,none⟩)] w (Gu (StsH w.heap.size) w p tb (Eo f l))
def nM(f:Nat):Prop:= ∀l w p tb,4*l.length+1≤f→Ps w p tb l→Calls Zb 165 #[.pointer (some ⟨p,0,none⟩)] w (Gu (StH w.heap.size) w p tb (Dl f l))
def dU(f:Nat):Prop:= ∀l w p tb,4*l.length+2≤f→Ps w p tb l→Calls Zb 127 #[.pointer (some ⟨p,0,none⟩)] w (Gu (StsH w.heap.size) w p tb (Dr f [] l))
theorem Ax.up {B B':Nat}{w:World}{l:List St}{v:Value}(h:Ax (B≤ ·) w l v)(hb:B'≤B):Ax (B'≤ ·) w l v:=h.mono (fun b hx=>Zf hb hx)
theorem Py(f:Nat):InsideC f:=by
 intro l w p tb hl h;have HPW:=Za h.lt;have HNE:Hid (w.heap.size≠p):=by show _≠_;have:=h.lt;omega
 have HF0:=Za (SFr.refl p w);have HP0:=Za h;obtain⟨R,hR⟩:∃R,Cr f l=R:=⟨_,rfl⟩;rw[hR];have HRR:=Za hR;clear hR;have hE:=(Ns f).2.1;have HE:=Za hE;have HL:=Za hl;clear hl hE;clear h;go_enter func202,ntmps202
 have hba:Below w.heap.size w (w.alloc (.cells #[.string ⟨#[40]⟩] 9)):=bA;have HF1:=Za (HF0.o.trans (Zc hba));have HP1:=Za (HP0.o.old hba);have HWN:=Za (De p tb l [40] _ HP1.o w.heap.size 1 ((Zd w [.string ⟨#[40]⟩] 9).at 0 _ rfl));clear hba;go_wp2_with fail
 refine(HWN.o).mono ?_;intro e w2 he
 cases hA:As [40] l with
 |error n=>
  rw[hA]at he;obtain⟨hf,rfl⟩:=he;have HF:=Za (HF1.o.trans hf);have e1:Cr f l=.error n:=by unfold Cr;rw[hA]
  have e2:=HRR.o.symm.trans e1;subst e2;clear e1 hf;unfold Bk;go_wp2_with fail
  exact⟨rfl,HF.o,rfl⟩
 |ok r=>
  rw[hA]at he;obtain⟨hf,rfl,hp⟩:=he;have HF2:=Za (HF1.o.trans hf);have HP2:=Za hp;clear hf hp;have HA2:=Za hA;clear hA;clear HWN;have hlr:=Bm HA2.o;have HC:Hid (∀w1,Ps w1 p tb r→_):=fun w1 h1=>HE.o r w1 p tb (by have:=HL.o;omega) h1
  clear hlr;go_wp2_with fail
  refine(HC.o _ HP2.o).mono ?_;intro e w3 he
  cases hA:Bf f 1 r with
  |error n=>
   rw[hA]at he;obtain⟨hf,rfl⟩:=he;have HF:=Za (HF2.o.trans hf);have e1:Cr f l=.error n:=by unfold Cr;rw[HA2.o];dsimp only;rw[hA]
   have e2:=HRR.o.symm.trans e1;subst e2;clear e1 hf;unfold Bk;go_wp2_with fail
   exact⟨rfl,HF.o,rfl⟩
  |ok q=>
   obtain⟨x,r2⟩:=q;rw[hA]at he;obtain⟨hf,v,rfl,hp,hv⟩:=he;obtain⟨s3,rfl,hx,hn⟩:=hv;obtain⟨a1,a2,rfl⟩:=hx.shape;have HX3:=Za (hx.up HF2.o.size);have HN:=Za hn;clear hx hn;have HF3:=Za (HF2.o.trans hf);have HP3:=Za hp;clear hf hp;have HA3:=Za hA;clear hA;go_upto_region 3 with(fail)
   obtain⟨W,hW⟩:∃W,w3.alloc (.cells #[.int .i64 x.kind,.int .i64 x.op,.int .i64 x.n,.string (Aa x.name),.slice a1 x.args.length a2] 27)=W:=⟨_,rfl⟩;rw[hW];have hba:Below w3.heap.size w3 W:=hW ▸ bA;have HF4:=Za (HF3.o.trans (Zc hba));have HP4:=Za (HP3.o.old hba);have HX4:=Za (HX3.o.old hba);have HE4:=Za (hW ▸ Zd w3 [.int .i64 x.kind,.int .i64 x.op,.int .i64 x.n,.string (Aa x.name),.slice a1 x.args.length a2] 27);have HEP:Hid (w3.heap.size≠p):=by show _≠_;have:=HP3.o.lt;omega
   clear hba hW;obtain⟨w4,hWW⟩:∃w4,w4=W:=⟨_,rfl⟩;subst hWW;have hba:Below w4.heap.size w4 (w4.alloc (.cells #[.string ⟨#[41]⟩] 9)):=bA;have HF5:=Za (HF4.o.trans (Zc hba));have HP5:=Za (HP4.o.old hba);have HE5:=Za (HE4.o.old hba);have HX5:=Za (HX4.o.old hba);have HWN:=Za (De p tb r2 [41] _ HP5.o w4.heap.size 1 ((Zd w4 [.string ⟨#[41]⟩] 9).at 0 _ rfl));clear hba;go_wp2_with fail
   refine(HWN.o).mono ?_;intro e w6 he
   cases hA:As [41] r2 with
   |error n=>
    rw[hA]at he;obtain⟨hf,rfl⟩:=he;have HF:=Za (HF5.o.trans hf);have e1:Cr f l=.error n:=by unfold Cr;rw[HA2.o];dsimp only;rw[HA3.o];dsimp only;rw[hA]
    have e2:=HRR.o.symm.trans e1;subst e2;clear e1 hf;unfold Bk;go_wp2_with fail
    exact⟨rfl,HF.o,rfl⟩
   |ok r3=>
    rw[hA]at he;obtain⟨hf,rfl,hp⟩:=he;have HF6:=Za (HF5.o.trans hf);have HP6:=Za hp;have HE6:=Za (HE5.o.sfr hf HEP.o);have HX6:=Za (HX5.o.keep (hf.fresh (by have:=HPW.o;omega)));clear hf hp;have HA6:=Za hA;clear hA;clear HWN;obtain⟨⟨e0,e1,e2,e3,e4⟩,ef0,ef1,ef2,ef3,ef4⟩:=Bu HE6.o;have elt:=HE6.o.lt;have HB:=Za (kW HX6.o HN.o HF6.o.size);have HF7:Hid (SFr p w (w6.alloc (.cells #[.int .i64 x.kind,.int .i64 x.op,.int .i64 x.n,.string (Aa x.name),.slice a1 x.args.length a2] 27))):=HF6.o.trans (Zc (bA));have HP7:=Za (HP6.o.alloc (.cells #[.int .i64 x.kind,.int .i64 x.op,.int .i64 x.n,.string (Aa x.name),.slice a1 x.args.length a2] 27));go_wp2_with fail
    have e1:Cr f l=.ok (x,r3):=by unfold Cr;rw[HA2.o];dsimp only;rw[HA3.o];dsimp only;rw[HA6.o]
    have e2:=HRR.o.symm.trans e1;subst e2;go_ret
    exact⟨HF7.o,_,rfl,HP7.o,HB.o⟩
theorem fF(f:Nat)(hS:dU f):Tq f:=by
 intro l w p tb hl h;have HPW:=Za h.lt;have HNE:Hid (w.heap.size≠p):=by show _≠_;have:=h.lt;omega
 have HF0:=Za (SFr.refl p w);have HP0:=Za h;obtain⟨R,hR⟩:∃R,Eo f l=R:=⟨_,rfl⟩;rw[hR];have HRR:=Za hR;clear hR;have HS:=Za hS;have HL:=Za hl;clear hl hS;clear h;go_enter func203,ntmps203
 have hba:Below w.heap.size w (w.alloc (.cells #[.string ⟨#[123]⟩] 9)):=bA;have HF1:=Za (HF0.o.trans (Zc hba));have HP1:=Za (HP0.o.old hba);have HWN:=Za (De p tb l [123] _ HP1.o w.heap.size 1 ((Zd w [.string ⟨#[123]⟩] 9).at 0 _ rfl));clear hba;go_wp2_with fail
 refine(HWN.o).mono ?_;intro e w2 he
 cases hA:As [123] l with
 |error n=>
  rw[hA]at he;obtain⟨hf,rfl⟩:=he;have HF:=Za (HF1.o.trans hf);have e1:Eo f l=.error n:=by unfold Eo;rw[hA]
  have e2:=HRR.o.symm.trans e1;subst e2;clear e1 hf;unfold Bk;go_wp2_with fail
  exact⟨rfl,HF.o,rfl⟩
 |ok r=>
  rw[hA]at he;obtain⟨hf,rfl,hp⟩:=he;have HF2:=Za (HF1.o.trans hf);have HP2:=Za hp;clear hf hp;have HA2:=Za hA;clear hA;clear HWN;have hlr:=Bm HA2.o;have HC:Hid (∀w1,Ps w1 p tb r→_):=fun w1 h1=>HS.o r w1 p tb (by have:=HL.o;omega) h1
  clear hlr;go_wp2_with fail
  refine(HC.o _ HP2.o).mono ?_;intro e w3 he
  cases hA:Dr f [] r with
  |error n=>
   rw[hA]at he;obtain⟨hf,rfl⟩:=he;have HF:=Za (HF2.o.trans hf);have e1:Eo f l=.error n:=by unfold Eo;rw[HA2.o];exact hA
   have e2:=HRR.o.symm.trans e1;subst e2;clear e1 hf;unfold Bk;go_wp2_with fail
   exact⟨rfl,HF.o,rfl⟩
  |ok q=>
   obtain⟨x,r2⟩:=q;rw[hA]at he;obtain⟨hf,v,rfl,hp,hv⟩:=he;have hv:Ax (w2.heap.size≤ ·) w3 x v:=hv;obtain⟨a1,a2,rfl⟩:=hv.shape;have HX3:=Za (hv.up HF2.o.size);clear hv;have HF3:=Za (HF2.o.trans hf);have HP3:=Za hp;clear hf hp;have HA3:=Za hA;clear hA;go_wp2_with fail
   have e1:Eo f l=.ok (x,r2):=by unfold Eo;rw[HA2.o];exact HA3.o
   have e2:=HRR.o.symm.trans e1;subst e2;go_ret
   exact⟨HF3.o,_,rfl,HP3.o,HX3.o⟩
end Go.Proofs.YtcfpfnoldgnloaaGreatDoor
