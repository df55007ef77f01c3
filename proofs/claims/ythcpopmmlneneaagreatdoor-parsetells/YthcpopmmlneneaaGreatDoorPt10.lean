/-
  Programs in old memory. No condition.
-/
import Derived.Test.YthcpopmmlneneaaGreatDoorPt09
set_option linter.unusedVariables false
set_option linter.unusedSimpArgs false
namespace Go.Proofs.YthcpopmmlneneaaGreatDoor
open Go.RowKit Go.Proofs.Tryz
set_option maxHeartbeats 20000000
set_option maxRecDepth 100000
open Go renaming World→Zl,Value→Zm,wpList_append_lies→Zo
open Go.RowKit renaming Below→Zn
open Go.Lib renaming hid→Za
open World renaming setCell→Zb
open Nat renaming le_trans→Zc
open Go.Proofs.Tryz renaming prog→Zd
open Ad renaming new→Ze
open List renaming length_cons→Zf,length_append→Zg,length_take→Zh,getElem?_eq_getElem→Zi,length_map→Zj
open Int renaming eq_ofNat_of_zero_le→Zk
theorem PG8.meas {w:Zl}{f:Zm}{d:Bool}{x:Zm}{c:Zl→Prop}{b:Act}{w':Zl}(a:PG8 w f d x c b w'):b.tmps.getD 8 undef=x:=by
 obtain⟨M,X,bi,g,r,E,F,G,H,I,J,K,L,N,O,P,Q,R,S,T,a⟩:=a;obtain⟨U,V,W,Y,Z,aa,ab,ac,ad,ae,af,ag,ah,ai,aj,ak,al,am,an,ao,a⟩:=a;obtain⟨ap,aq,ar,au,av,aw,ax,ay,az,aA,aB,aC,aD,aE,aF,aG,aH,aI,aJ,aK,a⟩:=a;obtain⟨aL,aM,aN,aO,aP,aQ,aR,aS,aT,aU,aV,aW,aX,aY,aZ,ba,bb,bc,bd,be,a⟩:=a;obtain⟨bf,bg,bh,bj,bk,bl,bm,bn,bo,bp,bq,br,bs,h,i,j,k,l,m,n,a⟩:=a;obtain⟨o,p,q,s,t,u,v,y,z,A,B,C,D,a⟩:=a;obtain⟨_,e⟩:=a;subst e;rfl
theorem pP.meas {w:Zl}{f:Zm}{d:Bool}{x:Zm}{c:Zl→Prop}{b:Act}{w':Zl}(a:pP w f d x c b w'):b.tmps.getD 10 undef=x:=by
 obtain⟨L,W,aX,bi,q,D,E,F,G,H,I,J,K,M,N,O,P,Q,R,S,a⟩:=a;obtain⟨T,U,V,X,Y,Z,aa,ab,ac,ad,ae,af,ag,ah,ai,aj,ak,al,am,an,a⟩:=a;obtain⟨ao,ap,aq,ar,au,av,aw,ax,ay,az,aA,aB,aC,aD,aE,aF,aG,aH,aI,aJ,a⟩:=a;obtain⟨aK,aL,aM,aN,aO,aP,aQ,aR,aS,aT,aU,aV,aW,aY,aZ,ba,bb,bc,bd,be,a⟩:=a;obtain⟨bf,bg,bh,bj,bk,bl,bm,bn,bo,bp,bq,br,bs,g,h,i,j,k,l,m,a⟩:=a;obtain⟨n,o,p,r,s,t,u,v,y,z,A,B,C,a⟩:=a;obtain⟨_,e⟩:=a;subst e;rfl
theorem oL.meas {w:Zl}{f:Zm}{d:Bool}{x:Zm}{c:Zl→Prop}{b:Act}{w':Zl}(a:oL w f d x c b w'):b.tmps.getD 12 undef=x:=by
 obtain⟨L,W,aX,bi,g,r,E,F,G,H,I,J,K,M,N,O,P,Q,R,S,a⟩:=a;obtain⟨T,U,V,X,Y,Z,aa,ab,ac,ad,ae,af,ag,ah,ai,aj,ak,al,am,an,a⟩:=a;obtain⟨ao,ap,aq,ar,au,av,aw,ax,ay,az,aA,aB,aC,aD,aE,aF,aG,aH,aI,aJ,a⟩:=a;obtain⟨aK,aL,aM,aN,aO,aP,aQ,aR,aS,aT,aU,aV,aW,aY,aZ,ba,bb,bc,bd,be,a⟩:=a;obtain⟨bf,bg,bh,bj,bk,bl,bm,bn,bo,bp,bq,br,bs,h,i,j,k,l,m,n,a⟩:=a;obtain⟨o,p,q,s,t,u,v,y,z,A,B,C,D,a⟩:=a;obtain⟨_,e⟩:=a;subst e;rfl
theorem vC(w w2:Zl)(f:Zm)(c:Bool)(raw:List Int)(e n:Nat)(bN:n≤2)(r:Gd w raw e c (.slice none 0 0) (.slice none 0 0) (.slice none 0 0) (.slice none 0 0) w2){Z ak bv u G R S T U V W X Y aa ab ac ad ae af ag ah ai aj al am an ao ap aq ar au av aw ax ay az aA aB aC aD aE aF aG aH aI aJ aK aL aM aN aO aP aQ aR aS aT aU aV aW aX aY aZ ba bb bc bd be bf bg bh bi bj bk bl bm bn bo bp bq br bs bt bu bw bx bz bA bB bC bD bE bF bG v x y z A B C D E F H I J K L M N O P Q:Zm}(p q:Act→Zl→Prop)
  (hJ:∀d w',PG8 w f c (.int .i64 0) (fun w'=> ∃pa,Gd w raw (Jg c raw n e).2 c (.slice none 0 0) (.slice none 0 0) pa (.slice none 0 0) w'∧Do w' (w.heap.size+4) (Jg c raw n e).1 pa) d w'→p d w') (hM:∀d w',Met p d w'→q d w'):
  Code.wp Zd (eJ 0) (Exit.then q (fun _ _ _=>False)) ⟨[f,.bool c,Z,ak,.pointer (some ⟨w.heap.size,0,none⟩),.pointer (some ⟨w.heap.size+1,0,none⟩),.pointer (some ⟨w.heap.size+2,0,none⟩),.pointer (some ⟨w.heap.size+3,0,none⟩),.int .i64 (n:Int),bv,u,G,R,S,T,U,V,W,X,Y,aa,ab,ac,ad,ae,af,ag,ah,ai,aj,al,am,an,ao,ap,aq,ar,au,av,aw,ax,ay,az,aA,aB,aC,aD,aE,aF,aG,aH,aI,aJ,aK,aL,aM,aN,aO,aP,aQ,aR,aS,aT,aU,aV,aW,aX,aY,aZ,ba,bb,bc,bd,be,bf,bg,bh,bi,bj,bk,bl,bm,bn,bo,bp,bq,br,bs,bt,bu,bw,bx,bz,bA,bB,bC,bD,bE,bF,bG,v,x,y,z,A,B,C,D,E,F,H,I,J,K,L,M,N,O,P,Q].toArray,[]⟩ w2:=by
 conv=>arg 2;whnf
 refine wp_block (wp_loop (fun d w'=> ∃i,i≤n∧∃l a,Jg c raw n e=(l++(Jg c raw i a).1,(Jg c raw i a).2)∧l.length+i=n∧PG8 w f c (ι (i:Int)) (fun w'=> ∃pa,Gd w raw a c (ν) (ν) pa (ν) w'∧Do w' (w.heap.size+4) l pa) d w') (fun d _=>(intOf (d.tmps.getD 8 undef)).toNat) ⟨n,Nat.le_refl _,[],e,rfl,by simp,Z,ak,bv,u,G,R,S,T,U,V,W,X,Y,aa,ab,ac,ad,ae,af,ag,ah,ai,aj,al,am,an,ao,ap,aq,ar,au,av,aw,ax,ay,az,aA,aB,aC,aD,aE,aF,aG,aH,aI,aJ,aK,aL,aM,aN,aO,aP,aQ,aR,aS,aT,aU,aV,aW,aX,aY,aZ,ba,bb,bc,bd,be,bf,bg,bh,bi,bj,bk,bl,bm,bn,bo,bp,bq,br,bs,bt,bu,bw,bx,bz,bA,bB,bC,bD,bE,bF,bG,v,x,y,z,A,B,C,D,E,F,H,I,J,K,L,M,N,O,P,Q,⟨ν,r,Do.zero _ _⟩,rfl⟩ ?_);intro d w' b;obtain⟨i,bL,l,a,g,bM,b⟩:=b;have t:=b.meas;obtain⟨cs,cD,dN,bO,bZ,ck,cl,cm,cn,co,cp,cq,cr,ct,cu,cv,cw,cx,cy,cz,b⟩:=b;obtain⟨cA,cB,cC,cE,cF,cG,cH,cI,cJ,cK,cL,cM,cN,cO,cP,cQ,cR,cS,cT,cU,b⟩:=b;obtain⟨cV,cW,cX,cY,cZ,da,db,dc,dd,de,df,dg,dh,di,dj,dk,dl,dm,dn,dp,b⟩:=b;obtain⟨dq,dr,ds,dt,du,dv,dw,dx,dy,dz,dA,dB,dC,dD,dE,dF,dG,dH,dI,dJ,b⟩:=b;obtain⟨dK,dL,dM,dO,dP,dQ,dR,dS,dT,dU,dV,dW,dX,bP,bQ,bR,bS,bT,bU,bV,b⟩:=b;obtain⟨bW,bX,bY,ca,cb,cc,cd,ce,cf,cg,ch,ci,cj,b⟩:=b
 obtain⟨⟨pa,k,h⟩,bK⟩:=b;subst bK
 by_cases hi:1≤i
 ·refine Gm (nZ w w' f c raw a i ⟨hi,by omega⟩ l pa k h (by omega) cs cD dN bO bZ ck cl cm cn co cp cq cr ct cu cv cw cx cy cz cA cB cC cE cF cG cH cI cJ cK cL cM cN cO cP cQ cR cS cT cU cV cW cX cY cZ da db dc dd de df dg dh di dj dk dl dm dn dp dq dr ds dt du dv dw dx dy dz dA dB dC dD dE dF dG dH dI dJ dK dL dM dO dP dQ dR dS dT dU dV dW dX bP bQ bR bS bT bU bV bW bX bY ca cb cc cd ce cf cg ch ci cj (fun d w' s=>⟨⟨i-1,by omega,l++[(Xj c raw i a).1],(Xj c raw i a).2,?_,by rw[Zg,List.length_singleton];omega,?_⟩,?_⟩) (fun _ _ bJ=>bJ))
  ·obtain⟨j,rfl⟩:∃j,i=j+1:=⟨i-1,by omega⟩
   rw[g,Nat.add_sub_cancel,Jg];simp
  ·rw[show((i-1:Nat):Int)=(i:Int)-1 by omega];exact s
  ·rw[s.meas,t];simp [intOf];omega
 ·obtain rfl:i=0:=by omega
  have m:Hid (Jg c raw n e=(l,a)):=by show _=_;rw[g];simp [Jg]
  obtain⟨bI,bH⟩:=Y2 k h;rw[m.o]at hJ;clear g t k h r m bM hi bL bN;go_wp2;go_meet;exact⟨pa,bI.o,bH.o⟩
theorem Mz {D:Nat→Prop}{w:Zl}{b:Nat}(l:List Bs)(c:Ad w b (Cm l) 9)(d:D b)(g:Nat)(f:g≤l.length)(h:l.length≤1000):Bb D w (l.take g) (.slice (some ⟨b,0,none⟩) g l.length):=by
 have e:(l.take g).length=g:=by rw[Zh];omega
 refine⟨some ⟨b,0,none⟩,l.length,b,0,by rw[e],by rw[e];exact f,by rw[e];show _≤_;omega,.inr ⟨rfl,d⟩,fun i a=>?_⟩;rw[e]at a;refine c.at (0+i) _ ?_;rw[Nat.zero_add];unfold Cm;rw[List.getElem?_map,Zi (show i<l.length by omega),List.getD_eq_getElem?_getD,List.getElem?_take,if_pos a,Zi (show i<l.length by omega)];rfl
theorem qL(d:Nat)(w wr:Zl)(az:w.heap.size+4≤d)(df:d≤wr.heap.size)(ag:Zm)(y:Bool)(raw:List Int)(a i:Nat)(aC:1≤i∧i≤2)(c:List FuV)(U pa:Zm)(F:Zm)(r:Gd w raw a y U F pa (.slice none 0 0) wr)(L:List Ar)(H:Do wr (w.heap.size+4) L pa)(z:Dj wr d c F)(ab:∀x,pa.ownBlock=some x→F.ownBlock≠some x)(C:c.length≤5)(bj bu cv cG aQ bb bc bd be bf bg bh bi bk bl bm bn bo bp bq br bs bt bv bw bx bz bB bC bD bE bF bG bH bI bJ bK bL bM bN bO bP bQ bR bS bT bU bV bW bX bY bZ ca cb cc cd ce cf cg ch ci cj ck cl cm cn co cp cq cr cs ct cu cw cx cy cz cA cB cC cD cE cF cH cJ cK cL cM cN cO cP cQ cR aG aH aI aJ aK aL aM aN aO aP aR aS aT aU aV aW aX aY aZ ba:Zm){u v:Act→Zl→Prop}
  (hJ:∀f w',pP w ag y (.int .i64 ((i:Int)-1)) (fun w'=> ∃G p,p.x=(fT raw i a).1∧Gd w raw (fT raw i a).2 y U G pa (.slice none 0 0) w'∧Do w' (w.heap.size+4) L pa∧d≤w'.heap.size∧Dj w' d (c++[p]) G∧∀x,pa.ownBlock=some x→G.ownBlock≠some x) f w'→u f w') (hM:∀f w',Met u f w'→v f w'):
  Code.wp Zd (kO 2) (Exit.then v (fun _ _ _=>False)) ⟨[ag,.bool y,bj,bu,.pointer (some ⟨w.heap.size,0,none⟩),.pointer (some ⟨w.heap.size+1,0,none⟩),.pointer (some ⟨w.heap.size+2,0,none⟩),.pointer (some ⟨w.heap.size+3,0,none⟩),cv,cG,.int .i64 (i:Int),aQ,bb,bc,bd,be,bf,bg,bh,bi,bk,bl,bm,bn,bo,bp,bq,br,bs,bt,bv,bw,bx,bz,bB,bC,bD,bE,bF,bG,bH,bI,bJ,bK,bL,bM,bN,bO,bP,bQ,bR,bS,bT,bU,bV,bW,bX,bY,bZ,ca,cb,cc,cd,ce,cf,cg,ch,ci,cj,ck,cl,cm,cn,co,cp,cq,cr,cs,ct,cu,cw,cx,cy,cz,cA,cB,cC,cD,cE,cF,cH,cJ,cK,cL,cM,cN,cO,cP,cQ,cR,aG,aH,aI,aJ,aK,aL,aM,aN,aO,aP,aR,aS,aT,aU,aV,aW,aX,aY,aZ,ba].toArray,[]⟩ wr:=by
 obtain⟨M,N,rfl⟩:=z.shape;have S:=Za C;obtain⟨aF,X,ad,ae,af⟩:=info_parts lJ;obtain⟨al,au,av,aw⟩:=Y4 X ad ae af;have ap:Hid (∀k,pa.ownBlock=some k→k<wr.heap.size):=fun k e=>(H.ge e).2
 have dk:(0:Int)<(i:Int):=by omega
 clear X ad ae af C
 conv=>arg 2;whnf
 go_upto_region 18 with(fail);refine wp_cut (fun f w'=>R18 (w.heap.size+1) i a raw wr _ _ _ _ _ _ _ _ _ _ _ _ _ _ _ _ _ _ _ _ _ _ _ _ _ _ _ _ _ _ _ _ _ _ _ _ _ _ _ _ _ _ _ _ _ _ _ _ _ _ _ _ _ _ _ _ _ _ _ _ _ _ _ _ _ _ _ _ _ _ _ _ _ _ _ _ _ _ _ _ _ _ _ _ _ _ _ _ _ _ _ _ _ _ _ _ _ _ _ _ _ _ _ _ _ _ _ _ f w') ?rest (fun u v hJ hM=>Gm (vQ (w.heap.size+1) i a raw wr r.src aC u v hJ hM))
 case rest=>
 intro f h I;obtain⟨dq,dr,ds,dt,du,dv,dw,dx,dy,dz,I⟩:=I;obtain⟨⟨b,n,ax,A,J,di,Y,ac,q⟩,aA⟩:=I;subst aA;subst ax;have s:=r.sfr ac q;have V:=H.keep (Bq.sfr q (fun b A=>by have:w.heap.size+4≤b:=A;omega));have W:=z.keep (Bq.sfr q (fun b A=>by have:d≤b:=A;omega)) q.size;have dj:w.heap.size+4≤b:=by have:=r.lt;omega
 have Q:fT raw i a=(⟨Fj.getD i [],Hw.take (Ab raw a 7).1.toNat,[],[]⟩,(Ab raw a 7).2):=rfl;rw[Q]at hJ;clear Q;have aE:=Am raw a 7 (by decide);have aB:(Ab raw a 7).1.toNat≤6:=by omega
 generalize (Ab raw a 7).1.toNat=g at*;generalize Fj.getD i []=nm at*;generalize (Ab raw a 7).2=cT at*;have dl:=r.lt;have K:∀k,(Value.slice M c.length N).ownBlock=some k→k<wr.heap.size:=fun k e=>(z.ge e).2
 have aa:Ee (fun k=>d≤k∧(Value.slice M c.length N).ownBlock≠some k) h ⟨⟨nm,Hw.take g,[],[]⟩,κ n g 6,ν,ν⟩:=
  ⟨Mz Hw Y ⟨by omega,fun e=>by have:=K n e;omega⟩ g aB (by decide),Bb.zero,[],rfl,by decide,Gj.zero _ _⟩
 have m:Zn h.heap.size h (h.alloc (.cells #[σ nm,κ n g 6,ν,ν] 48)):=bA;obtain⟨an,ah,E,ar,am⟩:=Y5 (s.old m) (V.keep (Bq.below m)) (W.keep (Bq.below m) m.size) (aa.keep (Bq.below m) m.size) (Dv.new h (Fd ⟨⟨nm,Hw.take g,[],[]⟩,κ n g 6,ν,ν⟩) 48);have cY:=s.scp.at 2 _ rfl;have cZ:=s.scp.fz 2;obtain ⟨cU, cV, cW, cX⟩ := τ4 J;have dg:=s.lt;have de:=J.lt;obtain⟨T,cS⟩:=Y2 ab K;have dn:wr.heap.size≤h.heap.size:=q.size;clear r H z ac q s V W aa m J Y aE ab K;go_wp2_with (at_builtin;(refine Zo (P:=Zd) _ rfl _ _ 28 rfl d 48 aF _ 4 88 underlying28 al.o au.o av.o aw.o rfl (by decide) (ρ M c N) c.length (c.flatMap Fd) rfl E.o.1 ⟨h.heap.size,0,none⟩ 1 1 (Fd ⟨⟨nm,Hw.take g,[],[]⟩,κ n g 6,ν,ν⟩) rfl rfl (Fr am.o) (cI []) (by decide) (by have:=S.o;unfold maxLen;omega) (by have:=S.o;omega) (by simp;omega) _ rfl ?_;intro j cap O Z B l dm;have t:=an.o.grow B (fun k e=>Zc az (E.o.ge e).1);have ao:=Za t;have dp:=t.scp.at 2 _ rfl;have da:=t.scp.fz 2;have dh:=t.lt;have R:=Za (E.o.snoc _ ar.o Z B l);have ai:Hid (Do O (w.heap.size+4) L pa):=(He ah.o (D:=fun k=>pa.ownBlock=some k) (fun k e=>e) (fun k aD C=>B.block k C (fun e=>T.o k aD e.symm)));have aq:Hid (∀x,pa.ownBlock=some x→(Value.slice (some ⟨j,0,none⟩) (c.length+1) cap).ownBlock≠some x):=(fun x e ay=>by cases ay;rcases l with l|l;exact T.o _ e l;have dc:j<wr.heap.size:=ap.o j e;have dd:h.heap.size≤j:=(by rw[l];first|(simp;done)|omega);omega);clear Z B l t))
 obtain⟨ak,aj⟩:=Y2 (R.o.keep (Bq.set O (show ¬(d≤w.heap.size+2)by omega) 2 (.slice (some ⟨j,0,none⟩) (c.length+1) cap)) (by simp [Zb])) (ai.o.keep (Bq.set O (show ¬(w.heap.size+4≤w.heap.size+2)by omega) 2 (.slice (some ⟨j,0,none⟩) (c.length+1) cap)));go_meet;exact⟨_,⟨⟨nm,Hw.take g,[],[]⟩,κ n g 6,ν,ν⟩,rfl,ao.o.setCf _,aj.o,by have db:=R.o.ge (k:=j) rfl;simp [Zb];omega,ak.o,aq.o⟩
theorem Bq.then {D:Nat→Prop}{w d w2:Zl}(e:Bq D w d)(k:∀b,D b→b<w.heap.size→w2.heap[b]? =d.heap[b]?):Bq D w w2:=fun b a c=>(k b a c).trans (e b a c)
theorem Cd.strong {D:Nat→Prop}{w:Zl}{l:List Ar}{v:Zm}(f:Cd D w l v):Cd (fun b=>D b∧b<w.heap.size) w l v:=by
 obtain⟨a,cap,b,m,k,g,h,c,e⟩:=f;refine⟨a,cap,b,m,k,g,h,?_,e⟩;rcases c with c|⟨j,i⟩
 ·exact .inl c
 ·rcases Nat.eq_zero_or_pos l.length with d|d
  ·exact .inl d
  ·exact .inr ⟨j,i,World.block_lt_of_cell? _ _ (e 0 d).1⟩
theorem Bw.strong {D:Nat→Prop}{w:Zl}{l:List Fu}{v:Zm}(h:Bw D w l v):Bw (fun b=>D b∧b<w.heap.size) w l v:=by
 obtain⟨a,cap,b,p,pv,lv,g,o,j,k,e,c⟩:=h;refine⟨a,cap,b,p,pv,lv,g,o,j,k,?_,fun i d=>⟨(c i d).1,(c i d).2.1.strong,(c i d).2.2.1.strong,(c i d).2.2.2.strong⟩⟩;rcases e with e|⟨n,m⟩
 ·exact .inl e
 ·rcases Nat.eq_zero_or_pos l.length with f|f
  ·exact .inl f
  ·exact .inr ⟨n,m,World.block_lt_of_cell? _ _ (c 0 f).1.1⟩
structure Jb (w:Zl)(base:Nat)(ps:List FuV)(v:Zm):Prop where
 rest:∀d l,ps=d::l→∀q,q∈l→Ee (fun b=>base≤b∧v.ownBlock≠some b∧d.b.ownBlock≠some b) w q
 fst:∀d l,ps=d::l→Bb (fun b=>base≤b∧v.ownBlock≠some b∧d.b.ownBlock≠some b) w d.x.params d.p∧Bb (fun b=>base≤b∧v.ownBlock≠some b∧d.b.ownBlock≠some b) w d.x.locals d.l
theorem Jb.zero(w:Zl)(b:Nat)(v:Zm):Jb w b [] v:=⟨fun d l a=>(by cases a),fun d l a=>(by cases a)⟩
theorem Jb.keep {w w':Zl}{c:Nat}{h:List FuV}{v:Zm}(f:Jb w c h v)(g:Bq (c≤ ·) w w')(j:w.heap.size≤w'.heap.size):Jb w' c h v:=
 ⟨fun d l e q i=>(f.rest d l e q i).keep (g.mono (fun b a=>a.1)) j,fun d l e=>⟨(f.fst d l e).1.keep (g.mono (fun b a=>a.1)).keeps,(f.fst d l e).2.keep (g.mono (fun b a=>a.1)).keeps⟩⟩
theorem Jb.base {w:Zl}{g f:Nat}{h:List FuV}{v:Zm}(a:Jb w g h v)(c:f≤g):Jb w f h v:=
 ⟨fun d l e q i=>(a.rest d l e q i).mono (fun b q _=>⟨Zc c q.1,q.2⟩),fun d l e=>⟨(a.fst d l e).1.mono (fun b q=>⟨Zc c q.1,q.2⟩),(a.fst d l e).2.mono (fun b q=>⟨Zc c q.1,q.2⟩)⟩⟩
theorem Jb.snoc {w w':Zl}{c:Nat}{i:List FuV}{v:Zm}(r:Jb w c i v)(p:FuV)(hx:∀d l,i=d::l→Ee (fun b=>c≤b∧v.ownBlock≠some b∧d.b.ownBlock≠some b) w p)
  (C:i=[]→Bb (fun b=>c≤b∧v.ownBlock≠some b∧p.b.ownBlock≠some b) w p.x.params p.p∧Bb (fun b=>c≤b∧v.ownBlock≠some b∧p.b.ownBlock≠some b) w p.x.locals p.l) {g cap n:Nat} (t:w.grownBy w' v.ownBlock) (m:v.ownBlock=some g∨g=w.heap.size):
  Jb w' c (i++[p]) (.slice (some ⟨g,0,none⟩) n cap):=by
 have B:∀b,v.ownBlock≠some b→b<w.heap.size→(Value.slice (some ⟨g,0,none⟩) n cap).ownBlock≠some b:=by
  intro b s j e;have e:some g=some b:=e
  cases e
  rcases m with m|m
  ·exact s m
  ·omega
 have D:∀(f:Zm) (q:FuV),Ee (fun b=>c≤b∧v.ownBlock≠some b∧f.ownBlock≠some b) w q→Ee (fun b=>c≤b∧(Value.slice (some ⟨g,0,none⟩) n cap).ownBlock≠some b∧f.ownBlock≠some b) w' q:=by
  intro f q A;have s:Ee (fun b=>(c≤b∧v.ownBlock≠some b∧f.ownBlock≠some b)∧b<w.heap.size) w q:=A.mono (fun b a z=>⟨a,z⟩);have j:=s.keep (w':=w') (fun k E z=>t.block k z (fun e=>E.1.2.1 e.symm)) t.size;exact j.mono (fun b a _=>⟨a.1.1,B b a.1.2.1 a.2,a.1.2.2⟩)
 have o:∀(f:Zm) (l:List Bs) (u:Zm),Bb (fun b=>c≤b∧v.ownBlock≠some b∧f.ownBlock≠some b) w l u→Bb (fun b=>c≤b∧(Value.slice (some ⟨g,0,none⟩) n cap).ownBlock≠some b∧f.ownBlock≠some b) w' l u:=by
  intro f l u A;have j:=A.strong.keep (w':=w') (fun b G y a F=>t.cell F (fun e=>a.1.2.1 e.symm));exact j.mono (fun b a=>⟨a.1.1,B b a.1.2.1 a.2,a.1.2.2⟩)
 constructor
 ·intro d l e q h
  cases i with
  |nil=>cases e;cases h
  |cons d0 l0=>
   cases e
   rcases List.mem_append.1 h with h|h
   ·exact D _ _ (r.rest d l0 rfl q h)
   ·rw[List.mem_singleton.1 h];exact D _ _ (hx d l0 rfl)
 ·intro d l e
  cases i with
  |nil=>cases e;exact⟨o _ _ _ (C rfl).1,o _ _ _ (C rfl).2⟩
  |cons d0 l0=>cases e;exact⟨o _ _ _ (r.fst d l0 rfl).1,o _ _ _ (r.fst d l0 rfl).2⟩
structure lV (M0:Nat)(w:Zl)(raw:List Int)(a:Nat)(free:Bool)(heads:List Fu)(la:List Ar)(M:Nat)(ca cf pa pf:Zm)(ds:List FuV)(wr:Zl):Prop where
 inv:Gd w raw a free ca cf pa pf wr
 ars:Cd (fun b=>w.heap.size+4≤b∧b<M) wr la ca
 hds:Bw (fun b=>M0≤b∧b<M) wr heads cf
 fus:Dj wr M0 ds pf
 own:∀k,pf.ownBlock=some k→M≤k
 siz:M≤wr.heap.size
 sep:Jb wr M0 ds pf
 lo:∀d l,ds=d::l→∀k,d.b.ownBlock=some k→M≤k∧k<wr.heap.size
 low:w.heap.size+4≤M0∧M0≤M
 arw:wr.ownsRow 0 60 2 ca la.length (la.flatMap Gk)∧∀k,ca.ownBlock=some k→w.heap.size+4≤k∧k<M0
theorem oY(I:Nat)(w wr:Zl)(cn:Zm)(r:Bool)(raw:List Int)(a i H:Nat)(h:List Fu)(j:List Ar)(bB bC pa dj:Zm)(m:List FuV)(aE:i<h.length)(bP:h.length≤3)(bV:j.length≤2)(aY:∀f,f∈h→f.params.length≤6)(cS:lV I w raw a r h j H bB bC pa dj m wr)(E:m.length≤3)
  (q2 q3 q8 q9 q10 q11 q13 q14 q15 q16 q17 q18 q19 q20 q21 q22 q23 q24 q25 q26 q27 q28 q29 q30 q31 q32 q33 q34 q35 q36 q37 q38 q39 q40 q41 q42 q43 q44 q45 q46 q47 q48 q49 q50 q51 q52 q53 q54 q55 q56 q57 q58 q59 q60 q61 q62 q63 q64 q65 q66 q67 q68 q69 q70 q71 q72 q73 q74 q75 q76 q77 q78 q79 q80 q81 q82 q83 q84 q85 q86 q87 q88 q89 q90 q91 q92 q93 q94 q95 q96 q97 q98 q99 q100 q101 q102 q103 q104 q105 q106 q107 q108 q109 q110 q111 q112 q113 q114 q115 q116 q117 q118 q119:Zm) {ax ay:Act→Zl→Prop}
  (hJ:∀L w',oL w cn r (.int .i64 ((i:Int)+1)) (fun w'=> ∃dk p,p.x=(Pw raw ⟨[],j,h,r,false⟩ (Bc h i) a).1∧lV I w raw (Pw raw ⟨[],j,h,r,false⟩ (Bc h i) a).2 r h j H bB bC pa dk (m++[p]) w') L w'→ax L w') (hM:∀L w',Met ax L w'→ay L w'):
  Code.wp Zd (kO 4) (Exit.then ay (fun _ _ _=>False)) ⟨[cn,.bool r,q2,q3,.pointer (some ⟨w.heap.size,0,none⟩),.pointer (some ⟨w.heap.size+1,0,none⟩),.pointer (some ⟨w.heap.size+2,0,none⟩),.pointer (some ⟨w.heap.size+3,0,none⟩),q8,q9,q10,q11,.int .i64 (i:Int),q13,q14,q15,q16,q17,q18,q19,q20,q21,q22,q23,q24,q25,q26,q27,q28,q29,q30,q31,q32,q33,q34,q35,q36,q37,q38,q39,q40,q41,q42,q43,q44,q45,q46,q47,q48,q49,q50,q51,q52,q53,q54,q55,q56,q57,q58,q59,q60,q61,q62,q63,q64,q65,q66,q67,q68,q69,q70,q71,q72,q73,q74,q75,q76,q77,q78,q79,q80,q81,q82,q83,q84,q85,q86,q87,q88,q89,q90,q91,q92,q93,q94,q95,q96,q97,q98,q99,q100,q101,q102,q103,q104,q105,q106,q107,q108,q109,q110,q111,q112,q113,q114,q115,q116,q117,q118,q119].toArray,[]⟩ wr:=by
 obtain⟨aB,aT,aA,aU,cc,dx,cg,bW,cZ,bK⟩:=cS;obtain⟨G,ak⟩:=cZ;have ap:=Za bK;clear bK;obtain⟨cD,bs⟩:=Y2 cg bW;clear cg bW;obtain⟨ae,af,rfl⟩:=aU.shape;obtain⟨M,N,rfl⟩:=aT.shape;obtain⟨du,O,rfl⟩:=aA.shape;have bG:=aA;obtain⟨Q,S,dW,dV,dU,rfl,cT,dC,dX,dp,dq,ef,aZ,cj,ci⟩:=Bw.cellAt aA i aE;obtain⟨z,A,rfl⟩:=aZ.shape;obtain⟨ao,l2,rfl⟩:=cj.shape;obtain⟨U,X,rfl⟩:=ci.shape;have dL:(Bc h i).params.length≤6:=aY _ (Xg aE);have bi:Pw raw ⟨[],j,h,r,false⟩ (Bc h i) a=(⟨(Bc h i).name,(Bc h i).params,Dp.take (Ab raw a 6).1.toNat,(Gt raw 4 ⟨(Bc h i).params++Dp.take (Ab raw a 6).1.toNat,j,h,r,false⟩ (Ab raw a 6).2).1⟩,(Gt raw 4 ⟨(Bc h i).params++Dp.take (Ab raw a 6).1.toNat,j,h,r,false⟩ (Ab raw a 6).2).2):=rfl;rw[bi]at hJ;clear bi;generalize Bc h i=x at*;have bH:Hid (∀F,Az F (w.heap.size+1) raw a→Calls Zd 21 #[π (w.heap.size+1),ι 6] F (Eb F (w.heap.size+1) raw (ι (Ab raw a 6).1) (Ab raw a 6).2)):=fun F aS=>Co _ raw a 6 F aS (by decide) (by decide)
 have da:=Am raw a 6 (by decide);generalize Ab raw a 6=g at*;obtain⟨g,az⟩:=g;obtain⟨aR,bE⟩:=da;dsimp only at bH hJ aR bE;obtain⟨g,rfl⟩:=Zk aR;rw[Int.toNat_natCast]at hJ;have ab:g≤5:=by omega
 have bJ:Hid (∀v F,Az F (w.heap.size+1) raw az→Fy (w.heap.size+1) F ⟨x.params++Dp.take g,j,h,r,false⟩ v (ρ M j N) (.slice (some ⟨Q,S,none⟩) h.length O)→Calls Zd 23 #[.agg #[v,ρ M j N,.slice (some ⟨Q,S,none⟩) h.length O,.bool r,.bool false],π (w.heap.size+1),ι 4] F (Qr F (w.heap.size+1) raw (Gt raw 4 ⟨x.params++Dp.take g,j,h,r,false⟩ az))):=fun v F aS cR=>oM 4 (by decide) _ raw az _ _ _ _ F aS cR
 generalize Gt raw 4 ⟨x.params++Dp.take g,j,h,r,false⟩ az=q at*;obtain⟨ah,ds⟩:=q;dsimp only at bJ hJ;have dI:(i:Int)<(h.length:Int):=by omega
 have dF:(0:Int)≤(i:Int):=by omega
 have dG:(i:Int)≤10:=by omega
 have dz:=aB.lt;obtain⟨cz,bj,bl,bk,ag,aw,dr,cv,cr⟩:=Y9 aY aT bG aU cc aZ aE bV bP;have aC:Zn wr.heap.size wr ((wr.alloc (.cells #[σ x.name,ρ z x.params A,ρ ao x.locals l2,ρ U x.body X] 48)).alloc (.cells (Cm Dp).toArray 9)):=(bA).alloc (by simp) _;obtain⟨aN,bt⟩:=Y2 (aB.old aC) ((Ze wr [σ x.name,ρ z x.params A,ρ ao x.locals l2,ρ U x.body X] 48).alloc (.cells (Cm Dp).toArray 9));have ak:=Ze (wr.alloc (.cells #[σ x.name,ρ z x.params A,ρ ao x.locals l2,ρ U x.body X] 48)) (Cm Dp) 9;rw[show(wr.alloc (.cells #[σ x.name,ρ z x.params A,ρ ao x.locals l2,ρ U x.body X] 48)).heap.size=wr.heap.size+1 by simp]at ak;have bp:=Za ak;have bm:Hid (Bq (w.heap.size+4≤ ·) wr ((wr.alloc (.cells #[σ x.name,ρ z x.params A,ρ ao x.locals l2,ρ U x.body X] 48)).alloc (.cells (Cm Dp).toArray 9))):=Bq.below aC;have db:=aC.size;obtain ⟨bd, be, bf, bg, bh⟩ := τ5 aB.scp;clear aB aT aA bG aU cc aZ cj ci aY aC ak bV bP aE aR bE cT
 conv=>arg 2;whnf
 go_wp2_with fail;refine(bH.out _ aN.o.src).mono ?_;rintro dl y ⟨rfl,cd,Y⟩;have dK:wr.heap.size+2≤y.heap.size:=by have:=Y.size;simp at this;omega
 have bw:=Za (aN.o.sfr cd Y);have al:=bt.o.sfr Y (by omega);have bT:=bp.o.sfr Y (by omega);have bR:Bq (w.heap.size+4≤ ·) wr y:=bm.o.then (fun b c E=>Y.block b (by simp;omega) (by have:w.heap.size+4≤b:=c;omega));have dm:=al.at 2 _ rfl;have cP:=al.fz 2;have dD:=al.lt;have aj:∀(k:Nat) (i:Nat) (v:Zm),k<wr.heap.size→(y.setCell ⟨wr.heap.size,i,none⟩ v).heap[k]? =y.heap[k]? :=fun k i v cY=>Below.heap_setCell _ _ _ _ (by show k≠wr.heap.size;omega)
 obtain⟨aO,bu,bq,bn⟩:=Y4 (bw.o.other (show w.heap.size+4≤wr.heap.size by omega) 2 (.slice (some ⟨wr.heap.size+1,0,none⟩) g 5)) (al.set 2 (.slice (some ⟨wr.heap.size+1,0,none⟩) g 5)) (bT.other (show wr.heap.size+1≠wr.heap.size by omega) 2 (.slice (some ⟨wr.heap.size+1,0,none⟩) g 5)) (bR.then (fun b c E=>aj b 2 (.slice (some ⟨wr.heap.size+1,0,none⟩) g 5) E));clear bd be bf bg bh cd Y al bT bR aj aN bt bp bm bw db;have aW:=Ze (y.setCell ⟨wr.heap.size,2,none⟩ (.slice (some ⟨wr.heap.size+1,0,none⟩) g 5)) [ν,ρ M j N,.slice (some ⟨Q,S,none⟩) h.length O,.bool r,.bool false] 69;rw[show(y.setCell ⟨wr.heap.size,2,none⟩ (.slice (some ⟨wr.heap.size+1,0,none⟩) g 5)).heap.size=y.heap.size by simp [Zb]]at aW;have ai:Zn (y.setCell ⟨wr.heap.size,2,none⟩ (.slice (some ⟨wr.heap.size+1,0,none⟩) g 5)).heap.size (y.setCell ⟨wr.heap.size,2,none⟩ (.slice (some ⟨wr.heap.size+1,0,none⟩) g 5)) ((y.setCell ⟨wr.heap.size,2,none⟩ (.slice (some ⟨wr.heap.size+1,0,none⟩) g 5)).alloc (.cells #[ν,ρ M j N,.slice (some ⟨Q,S,none⟩) h.length O,.bool r,.bool false] 69)):=bA;obtain⟨bx,aL,aJ,aK,aI⟩:=Y5 (aO.o.old ai) (bu.o.old ai) (bq.o.old ai) aW (bn.o.then (fun b c E=>ai.block b (by simp [Zb];omega)));obtain ⟨bd, be, bf, bg, bh⟩ := τ5 aO.o.scp;clear ai aW;go_upto_region 26 with(fail);generalize cU:(y.setCell ⟨wr.heap.size,2,none⟩ (.slice (some ⟨wr.heap.size+1,0,none⟩) g 5)).alloc (.cells #[ν,ρ M j N,.slice (some ⟨Q,S,none⟩) h.length O,.bool r,.bool false] 69)=aQ at*;clear cU bd be bf bg bh dm cP aO bu bq bn;have dJ:=aK.o.lt;refine wp_cut (fun L w'=>R26 wr.heap.size y.heap.size x.name x.params (Dp.take g) (ρ z x.params A) (.slice (some ⟨wr.heap.size+1,0,none⟩) g 5) (ρ U x.body X) (ρ M j N) (.slice (some ⟨Q,S,none⟩) h.length O) (.bool r) (.bool false) aQ _ _ _ _ _ _ _ _ _ _ _ _ _ _ _ _ _ _ _ _ _ _ _ _ _ _ _ _ _ _ _ _ _ _ _ _ _ _ _ _ _ _ _ _ _ _ _ _ _ _ _ _ _ _ _ _ _ _ _ _ _ _ _ _ _ _ _ _ _ _ _ _ _ _ _ _ _ _ _ _ _ _ _ _ _ _ _ _ _ _ _ _ _ _ _ _ _ _ _ _ _ _ _ _ _ _ _ _ _ _ _ L w') ?rest (fun ax ay hJ hM=>Gm (yQ wr.heap.size y.heap.size x.name x.params (Dp.take g) (ρ z x.params A) (.slice (some ⟨wr.heap.size+1,0,none⟩) g 5) (ρ U x.body X) (ρ M j N) (.slice (some ⟨Q,S,none⟩) h.length O) (.bool r) (.bool false) aQ aL.o aK.o (by omega) ((aw.o.keep (aI.o.mono (fun b c=>Zc G c.1)).keeps).mono (fun b c=>by show b≠y.heap.size;have:=c.2;omega)) (Mz Dp aJ.o (by show wr.heap.size+1≠y.heap.size;omega) g (by show g≤5;exact ab) (by decide)) (by rw[Zh];have:Min.min g Dp.length≤5:=Zc (Nat.min_le_left _ _) ab;omega) ax ay hJ hM))
 case rest=>
 intro L T aV;obtain⟨dY,dZ,ea,eb,ec,ed,ee,aV⟩:=aV;obtain⟨⟨v,bX,ch,Z⟩,cW⟩:=aV;subst cW;have dM:=Z.size;obtain⟨aP,bv,br,ar⟩:=Y4 (bx.o.sfrN Z (show w.heap.size+4≤y.heap.size by omega)) (aL.o.sfr Z (by omega)) (aJ.o.sfr Z (by omega)) (aI.o.then (fun b c E=>Z.block b (by omega) (by omega)));have cf:Fy (w.heap.size+1) T ⟨x.params++Dp.take g,j,h,r,false⟩ v (ρ M j N) (.slice (some ⟨Q,S,none⟩) h.length O):=
  ⟨ch.mono (fun b c=>by show b≠w.heap.size+1;have:aQ.heap.size≤b:=c;omega),(bj.o.keep (ar.o.mono (fun b c=>c.1)).keeps).mono (fun b c=>by show b≠w.heap.size+1;have:=c.1;omega),(Bw.keep (ar.o.mono (fun b c=>Zc G c.1)).keeps bl.o).mono (fun b c=>by show b≠w.heap.size+1;have:=c.1;omega),by rw[Zg,Zh];have:Min.min g Dp.length≤5:=Zc (Nat.min_le_left _ _) ab;omega,by have:=cv.o;show j.length≤1000000;omega,by have:=cr.o;show h.length≤1000000;omega,fun f cX=>by have:=cz.o f cX;omega⟩
 have bz:=Za cf;obtain ⟨de, df, dg, dh, di⟩ := τ5 bX;clear cf bX ch Z bx aL aJ aI aK;go_wp2_with fail;refine(bJ.out v _ aP.o.src bz.o).mono ?_;rintro dl W ⟨dt,s,rfl,ce,aa,bM,bL,aX⟩;obtain⟨t,u,rfl⟩:=aX.shape;have dN:=aa.size;have bZ:=aP.o.sfr ce aa;have am:=bv.o.sfr aa (by omega);have bU:=br.o.sfr aa (by omega);have bS:Bq (w.heap.size+4≤ ·) wr W:=ar.o.then (fun b c E=>aa.block b (by omega) (by have:w.heap.size+4≤b:=c;omega));have dn:=am.at 3 _ rfl;have cQ:=am.fz 3;have dE:=am.lt;have aj:∀(k:Nat) (i:Nat) (v:Zm),k<wr.heap.size→(W.setCell ⟨wr.heap.size,i,none⟩ v).heap[k]? =W.heap[k]? :=fun k i v cY=>Below.heap_setCell _ _ _ _ (by show k≠wr.heap.size;omega)
 obtain⟨av,aM,au,V,aq,aF⟩:=Y6 (bZ.other (show w.heap.size+4≤wr.heap.size by omega) 3 (ρ t s u)) (am.set 3 (ρ t s u)) (bU.other (show wr.heap.size+1≠wr.heap.size by omega) 3 (ρ t s u)) (bS.then (fun b c E=>aj b 3 (ρ t s u) E)) (aX.toD.keep (Bq.set W (show ¬(T.heap.size+1≤wr.heap.size)by omega) 3 (ρ t s u)) (by simp [Zb])) bM;have bb:W.heap.size≤(W.setCell ⟨wr.heap.size,3,none⟩ (ρ t s u)).heap.size:=by simp [Zb]
 have cN:=Za bb;clear de df dg dh di ce aa aX bZ am bU bS aj aP bv br ar bz bM bb;go_upto_region 28 with(fail);generalize cV:W.setCell ⟨wr.heap.size,3,none⟩ (ρ t s u)=B at*;clear cV dn cQ;have bb:=cN.o;have ad:∀k,(Value.slice ae m.length af).ownBlock=some k→k<wr.heap.size:=fun k e=>(bk.o.ge e).2
 have ca:Ee (fun k=>I≤k∧(Value.slice ae m.length af).ownBlock≠some k) B ⟨⟨x.name,x.params,Dp.take g,ah⟩,ρ z x.params A,.slice (some ⟨wr.heap.size+1,0,none⟩) g 5,ρ t s u⟩:=
  ⟨(aw.o.keep (V.o.mono (fun b c=>Zc G c.1)).keeps).mono (fun b c=>⟨c.1,fun e=>by have:=ag.o b e;have:=c.2;omega⟩),Mz Dp au.o ⟨by omega,fun e=>by have:=ad _ e;omega⟩ g ab (by decide),s,aF.o,bL,aq.o.mono (fun b c _=>⟨by have:T.heap.size+1≤b:=c;omega,fun e=>by have:=ad b e;have:T.heap.size+1≤b:=c;omega⟩)⟩
 have aD:∀k,(Value.slice t s.length u).ownBlock=some k→T.heap.size+1≤k∧k<B.heap.size:=fun k e=>aq.o.2.1 k e
 have cb:∀d l,m=d::l→Ee (fun k=>I≤k∧(Value.slice ae m.length af).ownBlock≠some k∧d.b.ownBlock≠some k) B ⟨⟨x.name,x.params,Dp.take g,ah⟩,ρ z x.params A,.slice (some ⟨wr.heap.size+1,0,none⟩) g 5,ρ t s u⟩:=fun d l e=>
  have bc:=bs.o d l e
  ⟨(aw.o.keep (V.o.mono (fun b c=>Zc G c.1)).keeps).mono (fun b c=>⟨c.1,fun e=>by have:=ag.o b e;have:=c.2;omega,fun e=>by have:=(bc b e).1;have:=c.2;omega⟩),Mz Dp au.o ⟨by omega,fun e=>by have:=ad _ e;omega,fun e=>by have:=(bc _ e).2;omega⟩ g ab (by decide),s,aF.o,bL,aq.o.mono (fun b c _=>⟨by have:T.heap.size+1≤b:=c;omega,fun e=>by have:=ad b e;have:T.heap.size+1≤b:=c;omega,fun e=>by have:=(bc b e).2;have:T.heap.size+1≤b:=c;omega⟩)⟩
 have bN:Bb (fun k=>I≤k∧(Value.slice ae m.length af).ownBlock≠some k∧(Value.slice t s.length u).ownBlock≠some k) B x.params (ρ z x.params A):=
  (aw.o.keep (V.o.mono (fun b c=>Zc G c.1)).keeps).mono (fun b c=>⟨c.1,fun e=>by have:=ag.o b e;have:=c.2;omega,fun e=>by have:=(aD b e).1;have:=c.2;omega⟩)
 have bO:Bb (fun k=>I≤k∧(Value.slice ae m.length af).ownBlock≠some k∧(Value.slice t s.length u).ownBlock≠some k) B (Dp.take g) (.slice (some ⟨wr.heap.size+1,0,none⟩) g 5):=
  Mz Dp au.o ⟨by omega,fun e=>by have:=ad _ e;omega,fun e=>by have:=(aD _ e).1;omega⟩ g ab (by decide)
 have bI:=cD.o.keep (V.o.mono (fun b c=>Zc G c)) (by omega);have bF:=bk.o.keep (V.o.mono (fun b c=>Zc G c)) (by omega);have C:Zn B.heap.size B (B.alloc (.cells #[σ x.name,ρ z x.params A,.slice (some ⟨wr.heap.size+1,0,none⟩) g 5,ρ t s u] 48)):=bA;obtain⟨cy,aG,cE,cC,cF,cG,co⟩:=Y7 (av.o.old C) (bF.keep (Bq.below C) C.size) (ca.keep (Bq.below C) C.size) (bI.keep (Bq.below C) C.size) (fun d l e=>(cb d l e).keep (Bq.below C) C.size) (fun(_:m=[])=>And.intro (bN.keep (Be C)) (bO.keep (Be C))) aD;have cO:Hid (wr.heap.size≤B.heap.size):=(by show _≤_;omega);obtain⟨cw,cu⟩:=Y2 (Dv.new B (Fd ⟨⟨x.name,x.params,Dp.take g,ah⟩,ρ z x.params A,.slice (some ⟨wr.heap.size+1,0,none⟩) g 5,ρ t s u⟩) 48) (V.o.then (fun b c E=>C.block b (by omega)));obtain⟨dd,bQ,ck,cl,cm⟩:=info_parts lJ;obtain⟨cs,cH,cJ,cM,bo⟩:=Y5 bQ ck cl cm E;obtain ⟨dS, dT⟩ := τ2 av.o.prg;obtain ⟨dO, dP, dQ, dR⟩ := τ4 aM.o;have dB:=av.o.lt;have dy:=aM.o.lt;clear C ca cb bN bO bI aD bF ad bQ ck cl cm E av aM au V aq aF
 go_wp2_with (at_builtin;(refine Zo (P:=Zd) _ rfl _ _ 28 rfl I 48 dd _ 4 88 underlying28 cs.o cH.o cJ.o cM.o rfl (by decide) (ρ ae m af) m.length (m.flatMap Fd) rfl aG.o.1 ⟨B.heap.size,0,none⟩ 1 1 (Fd ⟨⟨x.name,x.params,Dp.take g,ah⟩,ρ z x.params A,.slice (some ⟨wr.heap.size+1,0,none⟩) g 5,ρ t s u⟩) rfl rfl (Fr cw.o) (cI []) (by decide) (by have:=bo.o;unfold maxLen;omega) (by have:=bo.o;omega) (by simp;omega) _ rfl ?_;intro J cap K bY ac R dH;have an:=cy.o.grow ac (fun k e=>Zc G (aG.o.ge e).1);have cx:=Za an;have U:=an.prg.at 1 _ rfl;have dv:=an.prg.fz 1;have dA:=an.lt;obtain⟨cp,cB⟩:=Y2 (aG.o.snoc _ cE.o bY ac R) (cC.o.snoc (n:=m.length+1) (g:=J) (cap:=cap) _ cF.o cG.o ac R);have ct:Hid (Bq (fun b=>w.heap.size+4≤b∧b<H) wr K):=((cu.o.mono (fun b (c:w.heap.size+4≤b∧b<H)=>c.1)).then (fun b c E=>ac.block b (by simp;omega) (fun e=>by have:=ag.o b e.symm;have:=c.2;omega)));have cA:Hid (H≤J):=(by show H≤J;rcases R with R|R;exact ag.o J R;have dw:B.heap.size≤J:=(by rw[R];first|(simp;done)|omega);omega);have ba:=ac.size;have cK:Hid (H≤K.heap.size):=(by show H≤K.heap.size;simp at ba;omega);have cL:Hid (B.heap.size≤K.heap.size):=(by show _≤_;simp at ba;omega);clear bY ac R an ba))
 obtain⟨cq,aH⟩:=Y2 (cp.o.keep (Bq.set K (show ¬(I≤w.heap.size+3)by omega) 1 (.slice (some ⟨J,0,none⟩) (m.length+1) cap)) (by simp [Zb])) (ct.o.then (w2:=K.setCell ⟨w.heap.size+3,1,none⟩ (.slice (some ⟨J,0,none⟩) (m.length+1) cap)) (fun b c E=>Below.heap_setCell _ _ _ _ (by show b≠w.heap.size+3;have:=c.1;omega)));go_meet;exact⟨_,⟨⟨x.name,x.params,Dp.take g,ah⟩,ρ z x.params A,.slice (some ⟨wr.heap.size+1,0,none⟩) g 5,ρ t s u⟩,rfl,⟨cx.o.setPf _,bj.o.keep aH.o.keeps,Bw.keep (aH.o.mono (fun b c=>⟨Zc G c.1,c.2⟩)).keeps bl.o,cq.o,fun k e=>by cases e;exact cA.o,by have:=cK.o;simpa [Zb]using this,
  cB.o.keep (Bq.set K (show ¬(I≤w.heap.size+3)by omega) 1 (.slice (some ⟨J,0,none⟩) (m.length+1) cap)) (by simp [Zb]),fun d l e k bD=>by
   have dc:(K.setCell ⟨w.heap.size+3,1,none⟩ (.slice (some ⟨J,0,none⟩) (m.length+1) cap)).heap.size=K.heap.size:=by simp [Zb]
   rw[dc];have dp:=cL.o;have dq:=cO.o
   cases m with
   |nil=>cases e;have:=co.o k bD;omega
   |cons d0 l0=>cases e;have:=bs.o d l0 rfl k bD;omega,⟨G,ak⟩,He ap.o.1 (D:=fun b=>w.heap.size+4≤b∧b<H) (fun k e=>⟨(ap.o.2 k e).1,by have:=(ap.o.2 k e).2;omega⟩) aH.o,ap.o.2⟩⟩
theorem rU(f:Nat)(w w2:Zl)(co:w.heap.size+4≤f)(cp:f≤w2.heap.size)(u:Zm)(h:Bool)(raw:List Int)(k n:Nat)(cu:n≤2)(m:List Fu)(ct:m.length≤1)(t:List Ar){q pa r:Zm}{D:List FuV}(L:D.map (·.x)=m)(K:Gd w raw k h q r pa (.slice none 0 0) w2)(I:Do w2 (w.heap.size+4) t pa)(J:Dj w2 f D r)(N:∀x,pa.ownBlock=some x→r.ownBlock≠some x){ar aE bE bP Y aj ak al am an ao ap aq au av aw ax ay az aA aB aC aD aF aG aH aI aJ aK aL aM aN aO aP aQ aR aS aT aU aV aW aX aY aZ ba bb bc bd be bf bg bh bi bj bk bl bm bn bo bp bq br bs bt bu bv bw bx bz bA bB bC bD bF bG bH bI bJ bK bL bM bN bO bQ bR bS bT bU bV bW bX bY bZ O P Q R S T U V W X Z aa ab ac ad ae af ag ah ai:Zm}(F G:Act→Zl→Prop)
  (hJ:∀d w',pP w u h (.int .i64 0) (fun w'=> ∃g e,e.map (·.x)=(m++(Iu raw n k).1)∧Gd w raw (Iu raw n k).2 h q g pa (.slice none 0 0) w'∧Do w' (w.heap.size+4) t pa∧f≤w'.heap.size∧Dj w' f e g∧∀x,pa.ownBlock=some x→g.ownBlock≠some x) d w'→F d w') (hM:∀d w',Met F d w'→G d w'):
  Code.wp Zd (eJ 2) (Exit.then G (fun _ _ _=>False)) ⟨[u,.bool h,ar,aE,.pointer (some ⟨w.heap.size,0,none⟩),.pointer (some ⟨w.heap.size+1,0,none⟩),.pointer (some ⟨w.heap.size+2,0,none⟩),.pointer (some ⟨w.heap.size+3,0,none⟩),bE,bP,.int .i64 (n:Int),Y,aj,ak,al,am,an,ao,ap,aq,au,av,aw,ax,ay,az,aA,aB,aC,aD,aF,aG,aH,aI,aJ,aK,aL,aM,aN,aO,aP,aQ,aR,aS,aT,aU,aV,aW,aX,aY,aZ,ba,bb,bc,bd,be,bf,bg,bh,bi,bj,bk,bl,bm,bn,bo,bp,bq,br,bs,bt,bu,bv,bw,bx,bz,bA,bB,bC,bD,bF,bG,bH,bI,bJ,bK,bL,bM,bN,bO,bQ,bR,bS,bT,bU,bV,bW,bX,bY,bZ,O,P,Q,R,S,T,U,V,W,X,Z,aa,ab,ac,ad,ae,af,ag,ah,ai].toArray,[]⟩ w2:=by
 conv=>arg 2;whnf
 refine wp_block (wp_loop (fun d w'=> ∃i,i≤n∧∃l a,Iu raw n k=(l++(Iu raw i a).1,(Iu raw i a).2)∧l.length+i=n∧pP w u h (ι (i:Int)) (fun w'=> ∃g e,e.map (·.x)=(m++l)∧Gd w raw a h q g pa (ν) w'∧Do w' (w.heap.size+4) t pa∧f≤w'.heap.size∧Dj w' f e g∧∀x,pa.ownBlock=some x→g.ownBlock≠some x) d w') (fun d _=>(intOf (d.tmps.getD 10 undef)).toNat) ⟨n,Nat.le_refl _,[],k,rfl,by simp,ar,aE,bE,bP,Y,aj,ak,al,am,an,ao,ap,aq,au,av,aw,ax,ay,az,aA,aB,aC,aD,aF,aG,aH,aI,aJ,aK,aL,aM,aN,aO,aP,aQ,aR,aS,aT,aU,aV,aW,aX,aY,aZ,ba,bb,bc,bd,be,bf,bg,bh,bi,bj,bk,bl,bm,bn,bo,bp,bq,br,bs,bt,bu,bv,bw,bx,bz,bA,bB,bC,bD,bF,bG,bH,bI,bJ,bK,bL,bM,bN,bO,bQ,bR,bS,bT,bU,bV,bW,bX,bY,bZ,O,P,Q,R,S,T,U,V,W,X,Z,aa,ab,ac,ad,ae,af,ag,ah,ai,⟨r,D,by rw[L,List.append_nil],K,I,cp,J,N⟩,rfl⟩ ?_);intro d w' b;obtain⟨i,cr,l,a,v,cs,b⟩:=b;have M:=b.meas;obtain⟨fl,fw,gx,gI,eS,fd,fe,ff,fg,fh,fi,fj,fk,fm,fn,fo,fp,fq,fr,fs,b⟩:=b;obtain⟨ft,fu,fv,fx,fy,fz,fA,fB,fC,fD,fE,fF,fG,fH,fI,fJ,fK,fL,fM,fN,b⟩:=b;obtain⟨fO,fP,fQ,fR,fS,fU,fV,fW,fX,fY,fZ,ga,gb,gc,gd,ge,gf,gg,gh,gi,b⟩:=b;obtain⟨gj,gk,gl,gm,gn,gp,gq,gr,gs,gt,gu,gv,gw,gy,gz,gA,gB,gC,gD,gE,b⟩:=b;obtain⟨gF,gG,gH,gJ,gK,gL,gM,gN,gO,gP,gQ,gR,gS,eH,eI,eK,eL,eM,eN,eO,b⟩:=b
 obtain⟨eP,eQ,eR,eT,eU,eV,eW,eX,eY,eZ,fa,fb,fc,b⟩:=b;obtain⟨⟨H,e,s,B,y,A,z,C⟩,cq⟩:=b;subst cq;have cv:e.length=m.length+l.length:=by have:=congrArg List.length s;rw[Zj,Zg]at this;exact this
 by_cases hi:1≤i
 ·refine Gm (qL f w w' co A u h raw a i ⟨hi,by omega⟩ e q pa H B t y z C (by omega) fl fw gx gI eS fd fe ff fg fh fi fj fk fm fn fo fp fq fr fs ft fu fv fx fy fz fA fB fC fD fE fF fG fH fI fJ fK fL fM fN fO fP fQ fR fS fU fV fW fX fY fZ ga gb gc gd ge gf gg gh gi gj gk gl gm gn gp gq gr gs gt gu gv gw gy gz gA gB gC gD gE gF gG gH gJ gK gL gM gN gO gP gQ gR gS eH eI eK eL eM eN eO eP eQ eR eT eU eV eW eX eY eZ fa fb fc (fun d w' c=>⟨⟨i-1,by omega,l++[(fT raw i a).1],(fT raw i a).2,?_,by rw[Zg,List.length_singleton];omega,?_⟩,?_⟩) (fun _ _ ch=>ch))
  ·obtain⟨j,rfl⟩:∃j,i=j+1:=⟨i-1,by omega⟩
   rw[v,Nat.add_sub_cancel,Iu];simp
  ·rw[show((i-1:Nat):Int)=(i:Int)-1 by omega]
   obtain⟨da,dl,el,ew,cH,cS,cT,cU,cV,cW,cX,cY,cZ,db,dc,dd,de,df,dg,dh,c⟩:=c;obtain⟨di,dj,dk,dm,dn,dp,dq,dr,ds,dt,du,dv,dw,dx,dy,dz,dA,dB,dC,dD,c⟩:=c;obtain⟨dE,dF,dG,dH,dI,dJ,dK,dL,dM,dN,dO,dP,dQ,dR,dS,dT,dU,dV,dW,dX,c⟩:=c;obtain⟨dY,dZ,ea,eb,ec,ed,ee,ef,eg,eh,ei,ej,ek,em,en,eo,ep,eq,er,es,c⟩:=c;obtain⟨et,eu,ev,ex,ey,ez,eA,eB,eC,eD,eE,eF,eG,cx,cy,cz,cA,cB,cC,cD,c⟩:=c;obtain⟨cE,cF,cG,cI,cJ,cK,cL,cM,cN,cO,cP,cQ,cR,c⟩:=c;obtain⟨⟨cg,p,cw,ci,cj,ck,cl,cm⟩,cn⟩:=c;exact⟨da,dl,el,ew,cH,cS,cT,cU,cV,cW,cX,cY,cZ,db,dc,dd,de,df,dg,dh,di,dj,dk,dm,dn,dp,dq,dr,ds,dt,du,dv,dw,dx,dy,dz,dA,dB,dC,dD,dE,dF,dG,dH,dI,dJ,dK,dL,dM,dN,dO,dP,dQ,dR,dS,dT,dU,dV,dW,dX,dY,dZ,ea,eb,ec,ed,ee,ef,eg,eh,ei,ej,ek,em,en,eo,ep,eq,er,es,et,eu,ev,ex,ey,ez,eA,eB,eC,eD,eE,eF,eG,cx,cy,cz,cA,cB,cC,cD,cE,cF,cG,cI,cJ,cK,cL,cM,cN,cO,cP,cQ,cR,⟨cg,e++[p],by rw[List.map_append,s,List.append_assoc,←cw];rfl,ci,cj,ck,cl,cm⟩,cn⟩
  ·rw[c.meas,M];simp [intOf];omega
 ·obtain rfl:i=0:=by omega
  have E:Hid (Iu raw n k=(l,a)):=by show _=_;rw[v];simp [Iu]
  obtain⟨cd,ca,cc,cb,cf,ce⟩:=Y6 B y A z C s;rw[E.o]at hJ;clear v M B y A z C s cv K I J N E cs hi cr cu L ct;go_wp2;go_meet;exact⟨H,e,ce.o,cd.o,ca.o,cc.o,cb.o,cf.o⟩
theorem Rn(raw:List Int)(sc:Sc):∀(l:List Fu) (f:Fu) (a:Nat),Dk raw sc (l++[f]) a=((Dk raw sc l a).1++[(Pw raw sc f (Dk raw sc l a).2).1],(Pw raw sc f (Dk raw sc l a).2).2)
 |[],f,a=>rfl
 |g::l,f,a=>by
  rw[List.cons_append,Dk,Rn raw sc l f,Dk];rfl
theorem Oh(raw:List Int)(sc:Sc):∀(l:List Fu) (a:Nat),(Dk raw sc l a).1.length=l.length
 |[],a=>rfl
 |g::l,a=>by rw[Dk,Zf,Zf,Oh raw sc l]
theorem xY(q:Nat)(w w2:Zl)(t:Zm)(e:Bool)(raw:List Int)(l n:Nat)(a:List Fu)(h:List Ar)(r s pa:Zm)(bV:a.length≤3)(bX:h.length≤2)(A:∀f,f∈a→f.params.length≤6)(y:lV q w raw l e a h n r s pa (.slice none 0 0) [] w2){ae ap bq bC B M X Y Z aa ab ac ad af ag ah ai aj ak al am an ao aq ar au av aw ax ay az aA aB aC aD aE aF aG aH aI aJ aK aL aM aN aO aP aQ aR aS aT aU aV aW aX aY aZ ba bb bc bd be bf bg bh bi bj bk bl bm bn bo bp br bs bt bu bv bw bx bz bA bB bD bE bF bG bH bI bJ bK bL bM C D E F G H I J K L N O P Q R S T U V W:Zm}(u v:Act→Zl→Prop)
  (hJ:∀d w',oL w t e (.int .i64 (a.length:Int)) (fun w'=> ∃k g,g.map (·.x)=(Dk raw ⟨[],h,a,e,false⟩ a l).1∧lV q w raw (Dk raw ⟨[],h,a,e,false⟩ a l).2 e a h n r s pa k g w') d w'→u d w') (hM:∀d w',Met u d w'→v d w'):
  Code.wp Zd (eJ 4) (Exit.then v (fun _ _ _=>False)) ⟨[t,.bool e,ae,ap,.pointer (some ⟨w.heap.size,0,none⟩),.pointer (some ⟨w.heap.size+1,0,none⟩),.pointer (some ⟨w.heap.size+2,0,none⟩),.pointer (some ⟨w.heap.size+3,0,none⟩),bq,bC,B,M,.int .i64 0,X,Y,Z,aa,ab,ac,ad,af,ag,ah,ai,aj,ak,al,am,an,ao,aq,ar,au,av,aw,ax,ay,az,aA,aB,aC,aD,aE,aF,aG,aH,aI,aJ,aK,aL,aM,aN,aO,aP,aQ,aR,aS,aT,aU,aV,aW,aX,aY,aZ,ba,bb,bc,bd,be,bf,bg,bh,bi,bj,bk,bl,bm,bn,bo,bp,br,bs,bt,bu,bv,bw,bx,bz,bA,bB,bD,bE,bF,bG,bH,bI,bJ,bK,bL,bM,C,D,E,F,G,H,I,J,K,L,N,O,P,Q,R,S,T,U,V,W].toArray,[]⟩ w2:=by
 conv=>arg 2;whnf
 refine wp_block (wp_loop (fun d w'=> ∃i:Nat,i≤a.length∧oL w t e (ι (i:Int)) (fun w'=> ∃k g,g.map (·.x)=(Dk raw ⟨[],h,a,e,false⟩ (a.take i) l).1∧lV q w raw (Dk raw ⟨[],h,a,e,false⟩ (a.take i) l).2 e a h n r s pa k g w') d w') (fun d _=>a.length-(intOf (d.tmps.getD 12 undef)).toNat) ⟨0,Nat.zero_le _,ae,ap,bq,bC,B,M,X,Y,Z,aa,ab,ac,ad,af,ag,ah,ai,aj,ak,al,am,an,ao,aq,ar,au,av,aw,ax,ay,az,aA,aB,aC,aD,aE,aF,aG,aH,aI,aJ,aK,aL,aM,aN,aO,aP,aQ,aR,aS,aT,aU,aV,aW,aX,aY,aZ,ba,bb,bc,bd,be,bf,bg,bh,bi,bj,bk,bl,bm,bn,bo,bp,br,bs,bt,bu,bv,bw,bx,bz,bA,bB,bD,bE,bF,bG,bH,bI,bJ,bK,bL,bM,C,D,E,F,G,H,I,J,K,L,N,O,P,Q,R,S,T,U,V,W,⟨ν,[],rfl,y⟩,rfl⟩ ?_);intro d w' b;obtain⟨i,bW,b⟩:=b;have z:=b.meas;obtain⟨eP,fa,fZ,gk,el,ew,eH,eI,eK,eL,eM,eN,eO,eQ,eR,eS,eT,eU,eV,eW,b⟩:=b;obtain⟨eX,eY,eZ,fb,fc,fd,fe,ff,fg,fh,fi,fj,fk,fl,fm,fn,fo,fp,fq,fr,b⟩:=b;obtain⟨fs,ft,fu,fv,fw,fx,fy,fz,fA,fB,fC,fD,fE,fF,fG,fH,fI,fJ,fK,fL,b⟩:=b;obtain⟨fM,fN,fO,fP,fQ,fR,fS,fT,fU,fV,fW,fX,fY,ga,gb,gc,gd,ge,gf,gg,b⟩:=b;obtain⟨gh,gi,gj,gl,gm,gn,gp,gq,gr,gs,gt,gu,gv,em,en,eo,ep,eq,er,es,b⟩:=b;obtain⟨et,eu,ev,ex,ey,ez,eA,eB,eC,eD,eE,eF,eG,b⟩:=b;obtain⟨⟨k,g,m,j⟩,bT⟩:=b
 subst bT;have bU:g.length=i:=by have:=congrArg List.length m;rw[Zj,Oh,Zh]at this;omega
 by_cases hi:i<a.length
 ·have bZ:a.take (i+1)=a.take i++[Bc a i]:=by rw[List.take_succ_eq_append_getElem hi];simp [Bc,Zi hi]
  refine Gm (oY q w w' t e raw _ i n a h r s pa k g hi bV bX A j (by omega) eP fa fZ gk el ew eH eI eK eL eM eN eO eQ eR eS eT eU eV eW eX eY eZ fb fc fd fe ff fg fh fi fj fk fl fm fn fo fp fq fr fs ft fu fv fw fx fy fz fA fB fC fD fE fF fG fH fI fJ fK fL fM fN fO fP fQ fR fS fT fU fV fW fX fY ga gb gc gd ge gf gg gh gi gj gl gm gn gp gq gr gs gt gu gv em en eo ep eq er es et eu ev ex ey ez eA eB eC eD eE eF eG (fun d w' c=>⟨⟨i+1,hi,?_⟩,?_⟩) (fun _ _ bQ=>bQ))
  ·rw[show((i+1:Nat):Int)=(i:Int)+1 by omega,bZ,Rn]
   obtain⟨cE,cP,dP,ea,cb,cm,cx,cy,cz,cA,cB,cC,cD,cF,cG,cH,cI,cJ,cK,cL,c⟩:=c;obtain⟨cM,cN,cO,cQ,cR,cS,cT,cU,cV,cW,cX,cY,cZ,da,db,dc,dd,de,df,dg,c⟩:=c;obtain⟨dh,di,dj,dk,dl,dm,dn,dp,dq,dr,ds,dt,du,dv,dw,dx,dy,dz,dA,dB,c⟩:=c;obtain⟨dC,dD,dE,dF,dG,dH,dI,dJ,dK,dL,dM,dN,dO,dQ,dR,dS,dT,dU,dV,dW,c⟩:=c;obtain⟨dX,dY,dZ,eb,ec,ed,ee,ef,eg,eh,ei,ej,ek,cc,cd,ce,cf,cg,ch,ci,c⟩:=c;obtain⟨cj,ck,cl,cn,co,cp,cq,cr,cs,ct,cu,cv,cw,c⟩:=c;obtain⟨⟨ca,p,bY,bR⟩,bS⟩:=c;exact⟨cE,cP,dP,ea,cb,cm,cx,cy,cz,cA,cB,cC,cD,cF,cG,cH,cI,cJ,cK,cL,cM,cN,cO,cQ,cR,cS,cT,cU,cV,cW,cX,cY,cZ,da,db,dc,dd,de,df,dg,dh,di,dj,dk,dl,dm,dn,dp,dq,dr,ds,dt,du,dv,dw,dx,dy,dz,dA,dB,dC,dD,dE,dF,dG,dH,dI,dJ,dK,dL,dM,dN,dO,dQ,dR,dS,dT,dU,dV,dW,dX,dY,dZ,eb,ec,ed,ee,ef,eg,eh,ei,ej,ek,cc,cd,ce,cf,cg,ch,ci,cj,ck,cl,cn,co,cp,cq,cr,cs,ct,cu,cv,cw,⟨ca,g++[p],by rw[List.map_append,m,←bY];rfl,bR⟩,bS⟩
  ·rw[c.meas,z];simp [intOf];omega
 ·obtain rfl:i=a.length:=by omega
  rw[List.take_length]at m j;have gw:=j.inv.scp.at 2 _ rfl;obtain⟨gx,gy,bP⟩:=j.hds.shape;obtain⟨bN,bO⟩:=Y2 j m;subst bP;have gz:=j.inv.lt;clear z j m y bU hi bW A;go_wp2;go_meet;exact⟨k,g,bO.o,bN.o⟩
def tD(w:Zl)(p:Pr)(g:Ending)(w':Zl):Prop:=
 ∃c f a e,g=.returned (.agg #[c,f])∧Zn w.heap.size w w'∧Cd (w.heap.size≤ ·) w' p.arrays c∧(w'.ownsRow w.heap.size 60 2 c p.arrays.length (p.arrays.flatMap Gk)∧∀k,c.ownBlock=some k→k<e)∧w.heap.size≤e∧a.map (·.x)=p.funcs∧a.length≤3∧Dj w' e a f∧Jb w' e a f∧Cd (fun b=>f.ownBlock≠some b∧∀d l,a=d::l→d.b.ownBlock≠some b) w' p.arrays c
def sI(w:Zl)(p:Pr)(f:Ending)(w':Zl):Prop:=
 ∃e c a,f=.returned (.agg #[e,c])∧Zn w.heap.size w w'∧Cd (w.heap.size≤ ·) w' p.arrays e∧a.map (·.x)=p.funcs∧a.length≤3∧Dj w' w.heap.size a c∧Jb w' w.heap.size a c∧Cd (fun b=>c.ownBlock≠some b∧∀d l,a=d::l→d.b.ownBlock≠some b) w' p.arrays e
def GivesPr(w:Zl)(p:Pr)(d:Ending)(w':Zl):Prop:=
 ∃b c a,d=.returned (.agg #[b,c])∧Zn w.heap.size w w'∧Cd (w.heap.size≤ ·) w' p.arrays b∧a.map (·.x)=p.funcs∧a.length≤3∧Dj w' w.heap.size a c
theorem Dj.base {w:Zl}{d c:Nat}{g:List FuV}{v:Zm}(a:Dj w d g v)(f:c≤d):Dj w c g v:=
 ⟨Og a.1 (fun k e=>Zc f (a.ge e).1),fun p h=>(a.2 p h).mono (fun b q _=>⟨Zc f q.1,q.2⟩)⟩
theorem aH(b:Bool)(raw:List Int):∀n a,(Jg b raw n a).1.length=n
 |0,a=>rfl
 |n+1,a=>by rw[Jg,Zf,aH b raw n]
theorem aW(raw:List Int):∀n a,(Iu raw n a).1.length=n
 |0,a=>rfl
 |n+1,a=>by rw[Iu,Zf,aW raw n]
def Pre0(w:Zl)(raw:List Int)(a:Zl):Prop:=Az a (w.heap.size+1) raw 0∧Zn w.heap.size w a∧Ad a w.heap.size [.slice none 0 0,.slice none 0 0] 30∧a.heap.size=w.heap.size+2
theorem nH(w:Zl)(raw:List Int){v:Zm}(g:Ib (· <w.heap.size) w raw v):Pre0 w raw ((w.alloc (.cells #[.slice none 0 0,.slice none 0 0] 30)).alloc (.cells #[v,.int .i64 0] 67)):=by
 have c:Zn w.heap.size w ((w.alloc (.cells #[ν,ν] 30)).alloc (.cells #[v,ι 0] 67)):=(bA).alloc (by simp) _;have d:=Ze (w.alloc (.cells #[ν,ν] 30)) [v,ι 0] 67;rw[show(w.alloc (.cells #[ν,ν] 30)).heap.size=w.heap.size+1 by simp]at d;refine⟨⟨v,d,?_,Nat.zero_le _⟩,c,(Ze w _ _).alloc _,by simp⟩;have a:=g.keep (Be c);obtain⟨e,f,b,m,l,h,a,i,j,k⟩:=a;exact⟨e,f,b,m,l,h,a,i.imp id (fun q=>⟨q.1,by have:=q.2;omega⟩),j,k⟩
theorem pinv_of {w:Zl}{raw:List Int}{a:Zl}(b:Bool)(e:Pre0 w raw a):Gd w raw 0 b (.slice none 0 0) (.slice none 0 0) (.slice none 0 0) (.slice none 0 0) ((a.alloc (.cells #[.slice none 0 0,.slice none 0 0,.slice none 0 0,.bool b,.bool false] 69)).alloc (.cells #[.slice none 0 0,.slice none 0 0] 30)):=by
 obtain⟨f,g,h,d⟩:=e;have c:Zn a.heap.size a ((a.alloc (.cells #[ν,ν,ν,.bool b,.bool false] 69)).alloc (.cells #[ν,ν] 30)):=(bA).alloc (by simp) _;have q1:=(Ze a [ν,ν,ν,.bool b,.bool false] 69).alloc (.cells #[ν,ν] 30);have q2:=Ze (a.alloc (.cells #[ν,ν,ν,.bool b,.bool false] 69)) [ν,ν] 30;rw[show(a.alloc (.cells #[ν,ν,ν,.bool b,.bool false] 69)).heap.size=a.heap.size+1 by simp,d]at q2;rw[d]at q1;exact⟨g.trans (c.mono (by omega)),f.old c,h.old c,q1,q2⟩
theorem tR(u:List Int)(r:Bool)(bt:Zm)(w:Zl)(N:Ia (· <w.heap.size) w u bt):Calls Zd 6 #[bt,.bool r] w (tD w (Kt u r)):=by
 obtain⟨J,G,rfl⟩:=N.shape;have ej:=N.len;have af:=Za N;obtain⟨raw,aE⟩:∃raw,raw=u.take 400:=⟨_,rfl⟩;have ag:=Za aE;have V:Kt u r=⟨(Kd raw r).1,(Dk raw (Jr raw r) (Jr raw r).funcs (Qb raw (Kd raw r).2).2).1⟩:=by rw[aE];rfl
 have X:=Ht raw r;have bm:Jr raw r=⟨[],(Kd raw r).1,Lc::(Qb raw (Kd raw r).2).1,r,false⟩:=rfl;rw[bm]at V X;have aA:Kd raw r=Jg r raw (Ab raw 0 3).1.toNat (Ab raw 0 3).2:=rfl;have bg:∀a,Qb raw a=Iu raw (Ab raw a 3).1.toNat (Ab raw a 3).2:=fun _=>rfl
 generalize Kd raw r=dG at*;obtain⟨c,K⟩:=dG;have aB:=bg K;clear bg bm;dsimp only at V X;generalize Qb raw K=B at*;obtain⟨E,ah⟩:=B;dsimp only at V X;have ek:c.length≤2:=by
  have y:=congrArg (fun q=>q.1.length) aA;have aw:=Am raw 0 3 (by decide);simp only[aH]at y;omega
 have bf:E.length≤2:=by
  have y:=congrArg (fun q=>q.1.length) aB;have aw:=Am raw K 3 (by decide);simp only[aW]at y;omega
 obtain⟨ad,ae,dO⟩:=Y3 aA aB X;rw[V];clear V aE N aA aB X;have ep:Ad (w.alloc (.cells #[ν,ν] 30)) w.heap.size [ν,ν] 30:=Ze _ _ _;clear ep;go_enter func6,ntmps6
 go_upto_if 20 with(fail)
 go_cut [] (fun ew=>Pre0 w raw ew)
 case first=>
  by_cases h400:400<u.length
  ·have em:(400:Int)<(u.length:Int):=by omega
   have eI:(400:Int)≤(G:Int):=by
    obtain⟨A,eA,b,eK,er,y,_⟩:=af.o
    cases er;omega
   go_wp2;go_meet;have bj:=af.o.take 400 (by omega) (by decide);rw[←ag.o]at bj;have y:raw.length=400:=by rw[ag.o,Zh];omega
   exact nH w raw bj
  ·have em:(u.length:Int)≤400:=by omega
   have dU:Hid (Ib (· <w.heap.size) w raw (ρ J u G)):=by
    have e:raw=u:=by rw[ag.o];exact List.take_of_length_le (by omega)
    show Ib _ _ _ _
    rw[e];have:=af.o.take u.length (Nat.le_refl _) (by omega);rwa[List.take_length]at this
   go_wp2;go_meet;exact nH w raw dU.o
 case rest=>
 have aT:=Za hcut;have en:=hcut.2.2.2;clear hcut af ag ej;obtain⟨aS,ao⟩:=Y2 (fun ac a y=>Co (w.heap.size+1) raw a 3 ac y (by decide) (by decide)) (pinv_of r aT.o);have N:=Am raw 0 3 (by decide);have al:=Za (fun ac y=>aS.o ac 0 y);generalize Ab raw 0 3=g at*;obtain⟨n,ap⟩:=g;obtain⟨H,T⟩:=N;dsimp only at al ad H T;obtain⟨n,rfl⟩:=Zk H;rw[Int.toNat_natCast]at ad;have Z:n≤2:=by omega
 have Q:=Za Z;clear H T aT Z;go_wp2_with fail;refine(al.o _ ao.o.src).mono ?_;rintro eu ev ⟨rfl,bl,be⟩;have aX:=Za (ao.o.sfr bl be);clear bl be ao al en
 go_upto_block 0 with(fail);refine wp_cut (fun A w'=>PG8 w (ρ J u G) r (ι 0) (fun w'=> ∃pa,Gd w raw (Jg r raw n ap).2 r (ν) (ν) pa (ν) w'∧Do w' (w.heap.size+4) (Jg r raw n ap).1 pa) A w') ?rest (fun R S hJ hM=>Gm (vC w ev (ρ J u G) r raw ap n Q.o aX.o R S hJ hM))
 case rest=>
 intro A m h;obtain⟨bZ,ck,dv,ex,bH,ey,bS,bT,bU,bV,bW,bX,bY,ca,cb,cc,cd,ce,cf,cg,h⟩:=h;obtain⟨ch,ci,cj,cl,cm,cn,co,cp,cq,cr,cs,ct,cu,cv,cw,cx,cy,cz,cA,cB,h⟩:=h;obtain⟨cC,cD,cE,cF,cG,cH,cJ,cK,cL,cM,cN,cO,cP,cQ,cR,cS,cT,cU,cV,cW,h⟩:=h;obtain⟨cX,cY,cZ,da,db,dc,dd,de,df,dg,dh,di,dj,dk,dl,dm,dn,dp,dq,dr,h⟩:=h;obtain⟨ds,dt,du,dw,dx,dy,dz,dA,dB,dC,dD,dE,dF,bv,bw,bx,bz,bB,bC,bD,h⟩:=h;obtain⟨bE,bF,bG,bI,bJ,bK,bL,bM,bN,bO,bP,bQ,bR,h⟩:=h;obtain⟨⟨pa,C,L⟩,U⟩:=h;subst U;rw[←ad.o]at C L;dsimp only at C L;clear ad aX Q;obtain⟨i,j,rfl⟩:=L.shape;have dQ:=Za ek;have aD:=C.setC (ρ i c j);have ba:=L.keep (Bq.set m (show ¬(w.heap.size+4≤w.heap.size+2)by omega) 1 (ρ i c j));have ax:Zn (m.setCell ⟨w.heap.size+2,1,none⟩ (ρ i c j)).heap.size (m.setCell ⟨w.heap.size+2,1,none⟩ (ρ i c j)) ((m.setCell ⟨w.heap.size+2,1,none⟩ (ρ i c j)).alloc (.cells #[.string ⟨#[109,97,105,110]⟩,ν,ν,ν] 48)):=bA;have aR:w.heap.size+4≤m.heap.size:=C.lt;have aM:Hid (m.heap.size≤((m.setCell ⟨w.heap.size+2,1,none⟩ (ρ i c j)).alloc (.cells #[.string ⟨#[109,97,105,110]⟩,ν,ν,ν] 48)).heap.size):=(by show _≤_;simp [Zb]);obtain⟨dT,dH⟩:=Y2 (aD.old ax) (ba.keep (Bq.below ax))
 have aC:=Dv.new (m.setCell ⟨w.heap.size+2,1,none⟩ (ρ i c j)) (Fd ⟨Lc,ν,ν,ν⟩) 48;rw[show(m.setCell ⟨w.heap.size+2,1,none⟩ (ρ i c j)).heap.size=m.heap.size by simp [Zb]]at aC;have dR:=Za aC;have ec:=C.scp.at 1 _ rfl;have eg:=C.scp.fz 1;have ed:=aD.scp.at 2 _ rfl;have bq:=C.prg.at 0 _ rfl;have aZ:=C.lt;have aK:Hid (∀k,(Value.slice i c.length j).ownBlock=some k→k<m.heap.size):=fun k e=>(L.ge e).2
 obtain⟨et,bh,bn,bo,bp⟩:=info_parts lJ;obtain⟨dP,dX,dY,eb⟩:=Y4 bh bn bo bp;clear ax aC C L aD ba bh bn bo bp;go_upto_region 15 with(at_builtin;(refine Zo (P:=Zd) _ rfl _ _ 28 rfl m.heap.size 48 et _ 4 88 underlying28 dP.o dX.o dY.o eb.o rfl (by decide) (ν) 0 [] rfl (Dj.zero _ _).1 ⟨m.heap.size,0,none⟩ 1 1 (Fd ⟨Lc,ν,ν,ν⟩) rfl rfl (Fr dR.o) (cI []) (by decide) (by unfold maxLen;omega) (by omega) aM.o _ rfl ?_;intro g cap ak bi W I eJ;have aa:=dT.o.grow W (fun k e=>by cases e);have aU:=Za aa;have eO:=aa.scp.at 2 _ rfl;have eD:=aa.scp.fz 2;have eG:=aa.lt;have aN:=Za ((Dj.zero _ m.heap.size).snoc ⟨Lc,ν,ν,ν⟩ ⟨Bb.zero,Bb.zero,[],rfl,by decide,Gj.zero _ _⟩ bi W I);have aG:Hid (Do ak (w.heap.size+4) c (ρ i c j)):=(He dH.o (D:=fun _=>True) (fun k e=>trivial) (fun k eH el=>W.block k el (fun e=>by cases e)));have dZ:Hid (m.heap.size≤ak.heap.size):=Zc aM.o W.size;have aY:Hid (∀x,(Value.slice i c.length j).ownBlock=some x→(Value.slice (some ⟨g,0,none⟩) (0+1) cap).ownBlock≠some x):=(fun x e av=>by cases av;rcases I with I|I;cases I;have eE:g<m.heap.size:=aK.o g e;have eF:m.heap.size≤g:=(by rw[I];simp [Zb]);omega);clear bi W I aa))
 obtain⟨an,aO,aI⟩:=Y3 (aU.o.setCf (.slice (some ⟨g,0,none⟩) (0+1) cap)) (aN.o.keep (Bq.set ak (show ¬(m.heap.size≤w.heap.size+2)by omega) 2 (.slice (some ⟨g,0,none⟩) (0+1) cap)) (by simp [Zb])) (aG.o.keep (Bq.set ak (show ¬(w.heap.size+4≤w.heap.size+2)by omega) 2 (.slice (some ⟨g,0,none⟩) (0+1) cap)));have eo:=Am raw K 3 (by decide);have am:=Za (fun ac y=>aS.o ac K y);generalize Ab raw K 3=eh at*;obtain⟨ab,aq⟩:=eh;obtain⟨H,T⟩:=eo;dsimp only at am ae H T;obtain⟨ab,rfl⟩:=Zk H;rw[Int.toNat_natCast]at ae;have Z:ab≤2:=by omega
 have Q:=Za Z;clear H T Z ec eg ed bq aZ;go_wp2_with fail;refine(am.o _ an.o.src).mono ?_;rintro eu bu ⟨rfl,bk,M⟩;obtain⟨aV,aJ,aP⟩:=Y3 (an.o.sfr bk M) (aI.o.keep (Bq.sfr M (fun b s=>by have:w.heap.size+4≤b:=s;omega))) (aO.o.keep (Bq.sfr M (fun b s=>by have:m.heap.size≤b:=s;omega)) M.size);have ea:Hid (m.heap.size≤bu.heap.size):=(by have y:=dZ.o;have aw:=M.size;show _≤_;simp [Zb]at aw;omega);clear bk M an aI aO am aU aN aG
 go_upto_block 2 with(fail);refine wp_cut (fun A w'=>pP w (ρ J u G) r (ι 0) (fun w'=> ∃au bs,bs.map (·.x)=([Lc]++(Iu raw ab aq).1)∧Gd w raw (Iu raw ab aq).2 r (ρ i c j) au (ρ i c j) (ν) w'∧Do w' (w.heap.size+4) c (ρ i c j)∧m.heap.size≤w'.heap.size∧Dj w' m.heap.size bs au∧∀x,(Value.slice i c.length j).ownBlock=some x→au.ownBlock≠some x) A w') ?rest (fun R S hJ hM=>Gm (rU m.heap.size w bu aR ea.o (ρ J u G) r raw aq ab Q.o [Lc] (by decide) c rfl aV.o aJ.o aP.o aY.o R S hJ hM))
 case rest=>
 intro A F h;obtain⟨bZ,ck,ez,dv,bH,ey,bS,bT,bU,bV,bW,bX,bY,ca,cb,cc,cd,ce,cf,cg,h⟩:=h;obtain⟨ch,ci,cj,cl,cm,cn,co,cp,cq,cr,cs,ct,cu,cv,cw,cx,cy,cz,cA,cB,h⟩:=h;obtain⟨cC,cD,cE,cF,cG,cH,cJ,cK,cL,cM,cN,cO,cP,cQ,cR,cS,cT,cU,cV,cW,h⟩:=h;obtain⟨cX,cY,cZ,da,db,dc,dd,de,df,dg,dh,di,dj,dk,dl,dm,dn,dp,dq,dr,h⟩:=h;obtain⟨ds,dt,du,dw,dx,dy,dz,dA,dB,dC,dD,dE,dF,bv,bw,bx,bz,bB,bC,bD,h⟩:=h;obtain⟨bE,bF,bG,bI,bJ,bK,bL,bM,bN,bO,bP,bQ,bR,h⟩:=h;obtain⟨⟨ar,aF,Y,aj,ai,es,bd,_⟩,U⟩:=h;subst U;rw[←ae.o]at Y aj;dsimp only at Y aj;have eq:aF.length≤3:=by have:=congrArg List.length Y;rw[Zj,Zg,List.length_singleton]at this;omega
 have az:=bd.fus (show aF.length≤140737488355328 by omega);rw[Y]at az;have aL:Hid (lV m.heap.size w raw ah r (Lc::E) c F.heap.size (ρ i c j) ar (ρ i c j) (ν) [] F):=
  ⟨aj,(ai.ars (show c.length≤140737488355328 by omega)).strong,Bw.strong az,Dj.zero _ _,fun k e=>(by cases e),Nat.le_refl _,Jb.zero _ _ _,fun d l e=>(by cases e),⟨aR,es⟩,Og ai (fun k e=>Nat.zero_le _),fun k e=>⟨(ai.ge e).1,aK.o k e⟩⟩
 clear Y aj ai bd eq az aV aJ aP aY ae Q aF;have aQ:=Za bf;clear bf
 go_upto_block 4 with(fail);refine wp_cut (fun A w'=>oL w (ρ J u G) r (ι ((Lc::E).length:Int)) (fun w'=> ∃br t,t.map (·.x)=(Dk raw ⟨[],c,Lc::E,r,false⟩ (Lc::E) ah).1∧lV m.heap.size w raw (Dk raw ⟨[],c,Lc::E,r,false⟩ (Lc::E) ah).2 r (Lc::E) c F.heap.size (ρ i c j) ar (ρ i c j) br t w') A w') ?rest (fun R S hJ hM=>Gm (xY m.heap.size w F (ρ J u G) r raw ah F.heap.size (Lc::E) c (ρ i c j) ar (ρ i c j) (by have:=aQ.o;rw[Zf];omega) dQ.o (fun f ei=>(dO.o f ei).2.1) aL.o R S hJ hM))
 case rest=>
 intro A O h;obtain⟨bZ,ck,ez,dv,ex,bH,bS,bT,bU,bV,bW,bX,bY,ca,cb,cc,cd,ce,cf,cg,h⟩:=h;obtain⟨ch,ci,cj,cl,cm,cn,co,cp,cq,cr,cs,ct,cu,cv,cw,cx,cy,cz,cA,cB,h⟩:=h;obtain⟨cC,cD,cE,cF,cG,cH,cJ,cK,cL,cM,cN,cO,cP,cQ,cR,cS,cT,cU,cV,cW,h⟩:=h;obtain⟨cX,cY,cZ,da,db,dc,dd,de,df,dg,dh,di,dj,dk,dl,dm,dn,dp,dq,dr,h⟩:=h;obtain⟨ds,dt,du,dw,dx,dy,dz,dA,dB,dC,dD,dE,dF,bv,bw,bx,bz,bB,bC,bD,h⟩:=h;obtain⟨bE,bF,bG,bI,bJ,bK,bL,bM,bN,bO,bP,bQ,bR,h⟩:=h;obtain⟨⟨br,t,ay,s⟩,U⟩:=h;subst U;obtain⟨pa,z,rfl⟩:=s.fus.shape;have bc:t.length≤3:=by have:=congrArg List.length ay;rw[Zj,Oh,Zf]at this;have:=aQ.o;omega
 obtain⟨dM,dL⟩:=Y2 ay bc;obtain ⟨bq, eL⟩ := τ2 s.inv.prg;obtain ⟨eM, eN⟩ := τ2 s.inv.res;have eB:=s.inv.res.fz 0;have eC:=s.inv.res.fz 1;have aZ:=s.inv.lt;obtain⟨dV,dK,dI,dN,dJ,dW⟩:=Y6 ((s.inv.res.set 0 (ρ i c j)).set 1 (ρ pa t z)) ((s.inv.bel.setCell (p:=⟨w.heap.size,0,none⟩) (by show w.heap.size≤w.heap.size;omega) (ρ i c j)).setCell (p:=⟨w.heap.size,1,none⟩) (by show w.heap.size≤w.heap.size;omega) (ρ pa t z)) (((s.ars.keep (Al O (show ¬(w.heap.size+4≤w.heap.size∧w.heap.size<F.heap.size)by omega) 0 (ρ i c j))).keep (Al _ (show ¬(w.heap.size+4≤w.heap.size∧w.heap.size<F.heap.size)by omega) 1 (ρ pa t z))).mono (fun b s=>(by have:=s.1;omega:w.heap.size≤b))) ((s.fus.keep (Bq.set O (show ¬(m.heap.size≤w.heap.size)by omega) 0 (ρ i c j)) (by simp [Zb])).keep (Bq.set _ (show ¬(m.heap.size≤w.heap.size)by omega) 1 (ρ pa t z)) (by simp [Zb])) (((s.ars.keep (Al O (show ¬(w.heap.size+4≤w.heap.size∧w.heap.size<F.heap.size)by omega) 0 (ρ i c j))).keep (Al _ (show ¬(w.heap.size+4≤w.heap.size∧w.heap.size<F.heap.size)by omega) 1 (ρ pa t z))).mono (D':=fun b=>(Value.slice pa t.length z).ownBlock≠some b∧∀d l,t=d::l→d.b.ownBlock≠some b) (fun b bb=>⟨fun e=>by have:=s.own b e;have:=bb.2;omega,fun d l e av=>by have:=(s.lo d l e b av).1;have:=bb.2;omega⟩)) ((s.sep.keep (Bq.set O (show ¬(m.heap.size≤w.heap.size)by omega) 0 (ρ i c j)) (by simp [Zb])).keep (Bq.set _ (show ¬(m.heap.size≤w.heap.size)by omega) 1 (ρ pa t z)) (by simp [Zb]));have dS:Hid (((O.setCell ⟨w.heap.size,0,none⟩ (ρ i c j)).setCell ⟨w.heap.size,1,none⟩ (ρ pa t z)).ownsRow w.heap.size 60 2 (ρ i c j) c.length (c.flatMap Gk)∧∀k,(Value.slice i c.length j).ownBlock=some k→k<m.heap.size):=
  ⟨Og (He (He s.arw.1 (D:=fun b=>w.heap.size+4≤b) (fun k e=>(s.arw.2 k e).1) (Bq.set O (show ¬(w.heap.size+4≤w.heap.size)by omega) 0 (ρ i c j))) (D:=fun b=>w.heap.size+4≤b) (fun k e=>(s.arw.2 k e).1) (Bq.set _ (show ¬(w.heap.size+4≤w.heap.size)by omega) 1 (ρ pa t z))) (fun k e=>by have:=(s.arw.2 k e).1;omega),fun k e=>(s.arw.2 k e).2⟩
 clear s ay bc aL;go_wp2_with fail;obtain ⟨ee, ef⟩ := τ2 dV.o;exact bodyPost_ret (v:=.agg #[ρ i c j,ρ pa t z]) (by simp [results,results6,go_sem,ee,ef]) rfl ⟨_,_,t,m.heap.size,rfl,dK.o,dI.o,dS.o,by omega,dM.o,dL.o,dN.o,dW.o,dJ.o⟩
theorem sV(b:List Int)(a:Bool)(c:Zm)(w:Zl)(n:Ia (· <w.heap.size) w b c):Calls Zd 6 #[c,.bool a] w (sI w (Kt b a)):=
 (tR b a c w n).mono fun _ _ ⟨o,p,e,q,f,g,h,_,d,i,j,k,l,m⟩=>⟨o,p,e,f,g,h,i,j,k.base d,l.base d,m⟩
theorem yK(b:List Int)(a:Bool)(c:Zm)(w:Zl)(k:Ia (· <w.heap.size) w b c):Calls Zd 6 #[c,.bool a] w (GivesPr w (Kt b a)):=
 (sV b a c w k).mono fun _ _ ⟨l,m,d,e,f,g,h,i,j,_⟩=>⟨l,m,d,e,f,g,h,i,j⟩
theorem fus_of {D:Nat→Prop}{w:Zl}{o:Nat}{a:List FuV}{v:Zm}(h:w.ownsRow o 48 4 v a.length (a.flatMap Fd))(y:∀k,v.ownBlock=some k→D k)(C:∀p,p∈a→Ee D w p)(B:Cv a.length):Bw D w (a.map (·.x)) v:=by
 have e:(a.map (·.x)).length=a.length:=Zj _;rcases h.2 with⟨rfl,G⟩|⟨g,cap,J,rfl,L,M,A,m,N,O⟩
 ·have:a=[]:=List.length_eq_zero_iff.1 G
  subst this;exact Bw.zero
 ·let z:FuV:=⟨Fu.nil,undef,undef,undef⟩
  refine⟨some ⟨g,0,none⟩,cap,g,0,(fun i=>(a.getD i z).p),(fun i=>(a.getD i z).l),(fun i=>(a.getD i z).b),by rw[e],by rw[e];exact A,by rw[e];exact B,.inr ⟨rfl,y g rfl⟩,fun i d=>?_⟩;rw[e]at d;obtain⟨p,n,hx,m⟩:∃p,a[i]? =some p∧Bc (a.map (·.x)) i=p.x∧p∈a:=⟨a[i],Zi d,by simp [Bc,Zi d],List.getElem_mem d⟩;have I:a.getD i z=p:=by rw[List.getD_eq_getElem?_getD,n];rfl
  rw[hx];dsimp only;rw[I];have c:∀q u,q<4→(Fd p)[q]? =some u→w.cell? ⟨g,0+i*4+q,none⟩=some u:=by
   intro q u E F;have f:=Li h (i*4+q) u (by rw[Se Fd 4 (fun _=>rfl) a i q p n E];exact F)
   rwa[show 0+(i*4+q)=0+i*4+q by omega]at f
  obtain⟨f,r,H,s,K,t⟩:=C p m;have j:=t.sts (show H.length≤140737488355328 by omega);rw[s]at j;exact⟨⟨c 0 _ (by decide) rfl,c 1 _ (by decide) rfl,c 2 _ (by decide) rfl,c 3 _ (by decide) rfl⟩,f,r,j⟩
structure My (w:Zl)(p:Pr)(n:Nat)(va vf:Zm)(ds:List FuV):Prop where
 ars:Cd (· <n) w p.arrays va
 own:w.ownsRow 0 48 4 vf ds.length (ds.flatMap Fd)
 eq:ds.map (·.x)=p.funcs
 len:ds.length≤3
 lt:∀q,q∈ds→Ee (fun b=>b<n∧vf.ownBlock≠some b) w q
 row:∀k,vf.ownBlock=some k→k<n
theorem My.fus {w:Zl}{p:Pr}{n:Nat}{g d:Zm}{c:List FuV}(a:My w p n g d c):Bw (· <n) w p.funcs d:=by
 have q:=fus_of a.own a.row (fun q f=>(a.lt q f).mono (fun b e _=>e.1)) (show c.length≤140737488355328 by have:=a.len;omega)
 rwa[a.eq]at q
theorem My.fo {w:Zl}{p:Pr}{n:Nat}{g d:Zm}{a:List FuV}(c:My w p n g d a):Dj w 0 a d:=⟨c.own,fun q f=>(c.lt q f).mono (fun b e _=>⟨Nat.zero_le _,e.2⟩)⟩
theorem My.keep {w w':Zl}{p:Pr}{n:Nat}{e f:Zm}{d:List FuV}(a:My w p n e f d)(g:∀k,k<n→k<w.heap.size→w'.heap[k]? =w.heap[k]?)(l:w.heap.size≤w'.heap.size):My w' p n e f d:=
 have c:Bq (· <n) w w':=fun k h i=>g k h i
 ⟨a.ars.keep c.keeps,He a.own a.row c,a.eq,a.len,fun q j=>(a.lt q j).keep (c.mono (fun b c=>c.1)) l,a.row⟩
theorem My.old {w w':Zl}{p:Pr}{n:Nat}{c d:Zm}{a:List FuV}(e:My w p n c d a)(b:Zn w.heap.size w w'):My w' p n c d a:=e.keep (fun k _ f=>b.block k f) b.size
theorem My.of {w w':Zl}{p:Pr}{g h:Zm}{a:List FuV}(i:Cd (w.heap.size≤ ·) w' p.arrays g)(j:a.map (·.x)=p.funcs)(f:a.length≤3)(d:Dj w' w.heap.size a h):My w' p w'.heap.size g h a:=
 ⟨i.strong.mono (fun b c=>c.2),Og d.1 (fun _ _=>Nat.zero_le _),j,f,fun q l=>(d.2 q l).mono (fun b c f=>⟨f,c.2⟩),fun k e=>(d.ge e).2⟩
end Go.Proofs.YthcpopmmlneneaaGreatDoor
