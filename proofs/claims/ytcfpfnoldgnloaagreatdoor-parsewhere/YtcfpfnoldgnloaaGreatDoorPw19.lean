/-
  Pieces as tokens with blanks behind them: the text, what Scan gives, what may stand beside what. No condition.
-/
import Derived.Test.YtcfpfnoldgnloaaGreatDoorPw18
import Derived.Test.YtcfpfnoldgnloaaGreatDoorPw17
set_option linter.unusedVariables false
set_option linter.unusedSimpArgs false
namespace Go.Proofs.YtcfpfnoldgnloaaGreatDoor
open Go.RowKit
set_option maxHeartbeats 20000000
set_option maxRecDepth 100000
open Go.Lib renaming hid→Za,hasPrefix→Zf,decDigits→Zi,nDigits→Zo
open List renaming mem_cons_self→Zb,cons_append→Zc,append_assoc→Zd,length_append→Ze,mem_cons_of_mem→Zg,nil_append→Zj,flatMap_cons→Zk,append_nil→Zm,isPrefixOf→Zn,cons_ne_nil→Zp,mem_cons→Zq
open Go.Proofs.Tryz renaming prog→Zh
open Bool renaming and_eq_true→Zl
theorem args_ev {l:List Ex}(hl:∀y,y∈l→WEx y){ts:List Tk}{u:Tk}{rest:List Tk}(h1:For ts (Jf (l.map Cn)))(hu:isP [41] u=true):Ev (fun f=>Ej f (ts++u::rest)) (.ok (l,rest)):=by
 cases l with
 |nil=>
  have:ts=[]:=h1.nil;subst this;exact dM hu
 |cons x l=>
  rw[Nk]at h1;refine Xn ?_ (Pk l [] x ts rest u (fun y hy=>⟨(fG (hl y hy)).2,hl y hy⟩) h1 hu);obtain⟨w,l',e',n1,n2⟩:=Sr (hl x Zb) 0;have e0:Dl x 0=Cn x:=by
   unfold Dl Hn;rw[if_neg];rintro⟨q1,q2⟩;have:=Rm (hl x Zb);unfold aW at this;rw[if_pos q1]at this;omega
  rw[e0]at e';obtain⟨a,b,rfl,e2⟩:=Qi h1 (by rw[Jh,e'];rfl);rw[Zc];exact Af (Cy (by rw[e2];exact n1))
theorem Kd {t:Tk}{r:List Tk}(h:t.kind=1):Dk (t::r)= .ok (t.text,r):=by
 have e:Gt 1 (t::r)= .ok (t,r):=if_pos h;unfold Dk;rw[e]
theorem stp1(t:Nat)(s:Bs)(x:Ex):Gl t (.mk 1 s [x] [] [])=Ef t (nmp s:: .g [32]::sg [61]:: .g [32]::(Cn x++[sg [59]])):=by
 rw[Gl];unfold Ci;rw[if_pos rfl];simp only[Zd,Zc,Zj];rfl
theorem stp2(t:Nat)(s:Bs)(x y:Ex):Gl t (.mk 2 s [x,y] [] [])=Ef t (nmp s::sg [91]::(Cn x++sg [93]:: .g [32]::sg [61]:: .g [32]::(Cn y++[sg [59]]))):=by
 rw[Gl];unfold Ci;rw[if_neg (by decide),if_pos rfl];simp only[Zd,Zc,Zj];rfl
theorem stp3(t:Nat)(x:Ex)(a b:List St):Gl t (.mk 3 [] [x] a b)=Ef t (wd [105,102]:: .g [32]::sg [40]::(Cn x++[sg [41],.g [32],sg [123]]))++(Fg (t+1) a++((if b.isEmpty then []else Ef t [sg [125],.g [32],wd [101,108,115,101],.g [32],sg [123]]++Fg (t+1) b)++Ef t [sg [125]])):=by
 rw[Gl];unfold Ci;rw[if_neg (by decide),if_neg (by decide),if_pos rfl];simp only[Zd,Zc,Zj];rfl
theorem stp4(t:Nat)(x:Ex)(a:List St):Gl t (.mk 4 [] [x] a [])=Ef t (wd [119,104,105,108,101]:: .g [32]::sg [40]::(Cn x++[sg [41],.g [32],sg [123]]))++(Fg (t+1) a++Ef t [sg [125]]):=by
 rw[Gl];unfold Ci;rw[if_neg (by decide),if_neg (by decide),if_neg (by decide),if_pos rfl];simp only[Zd,Zc,Zj];rfl
theorem stp5(t:Nat):Gl t (.mk 5 [] [] [] [])=Ef t [wd [98,114,101,97,107],sg [59]]:=by
 rw[Gl];unfold Ci;rw[if_neg (by decide),if_neg (by decide),if_neg (by decide),if_neg (by decide),if_pos rfl]
theorem stp6(t:Nat):Gl t (.mk 6 [] [] [] [])=Ef t [wd [99,111,110,116,105,110,117,101],sg [59]]:=by
 rw[Gl];unfold Ci;rw[if_neg (by decide),if_neg (by decide),if_neg (by decide),if_neg (by decide),if_neg (by decide),if_pos rfl]
theorem stp7(t:Nat)(x:Ex):Gl t (.mk 7 [] [x] [] [])=Ef t (wd [114,101,116,117,114,110]:: .g [32]::(Cn x++[sg [59]])):=by
 rw[Gl];unfold Ci;rw[if_neg (by decide),if_neg (by decide),if_neg (by decide),if_neg (by decide),if_neg (by decide),if_neg (by decide),if_pos rfl];simp only[Zd,Zc,Zj];rfl
theorem stp8(t:Nat)(x:Ex):Gl t (.mk 8 [] [x] [] [])=Ef t (wd [112,114,105,110,116]::sg [40]::(Cn x++[sg [41],sg [59]])):=by
 rw[Gl];unfold Ci;rw[if_neg (by decide),if_neg (by decide),if_neg (by decide),if_neg (by decide),if_neg (by decide),if_neg (by decide),if_neg (by decide),if_pos rfl];simp only[Zd,Zc,Zj];rfl
theorem stp9(t:Nat)(x:Ex):Gl t (.mk 9 [] [x] [] [])=Ef t (wd [116,114,97,112]::sg [40]::(Cn x++[sg [41],sg [59]])):=by
 rw[Gl];unfold Ci;rw[if_neg (by decide),if_neg (by decide),if_neg (by decide),if_neg (by decide),if_neg (by decide),if_neg (by decide),if_neg (by decide),if_neg (by decide),if_pos rfl];simp only[Zd,Zc,Zj];rfl
theorem nY(t:Nat)(s:Bs)(l:List Ex):Gl t (.mk 10 [] [.mk 5 0 0 s l] [] [])=Ef t (nmp s::sg [40]::(Jf (l.map Cn)++[sg [41],sg [59]])):=by
 rw[Gl];unfold Ci;rw[if_neg (by decide),if_neg (by decide),if_neg (by decide),if_neg (by decide),if_neg (by decide),if_neg (by decide),if_neg (by decide),if_neg (by decide),if_neg (by decide),if_pos rfl];show Ef t (Cn (.mk 5 0 0 s l)++[sg [59]])=_
 rw[Ml];simp only[Zd,Zc,Zj]
theorem Nl {f:Nat}{a:Tk}{l r:List Tk}{x:St}{u:Tk}{s:Bs}(ha:isP s a=true)(h1:(s==[105,102])=false)(h2:(s==[119,104,105,108,101])=false)(h:Ap f (a::l)= .ok (x,u::r))(hu:isP [59] u=true):Cx (f+1) (a::l)= .ok (x,r):=
 Na (Af (isnt ha h1)) (Af (isnt ha h2)) h hu
theorem oR {x:St}(h:WSt x):oH x:=by
 induction h with
 |set s x h hx=>
  intro t ts rest hf hne;rw[stp1]at hf;obtain⟨a,r,rfl,ha,hr⟩:=(Ib hf).cons;obtain⟨e,r,rfl,he,hr⟩:=(For.gap hr).cons;obtain⟨t1,t2,rfl,h1,h2⟩:=(For.gap hr).app;obtain⟨u,q,rfl,hu,hq⟩:=h2.cons;have hu:=Cv hu;have he:=Cv he;obtain⟨k1,k2,k3⟩:=Ey ha;rw[show a::e::(t1++u::q)++rest=a::e::(t1++u::rest)from by rw[hq.nil];simp];refine Ev.one (Ve hx (rest:=rest) h1 (.inr (.inr (.inr (.inl (Dc hu)))))) (fun f e1=> ?_);(try dsimp only at e1 ⊢);have nk:∀s,isP s a=false:=fun s=>Md (.inl k1)
  refine Na (Af (nk _)) (Af (nk _)) ?_ hu;unfold Ap
  iterate 5 (rw[Af (nk _)];dsimp only)
  rw[Kd k1];dsimp only;rw[Af (isnt he (by decide))];dsimp only;rw[Af (isnt he (by decide))];dsimp only;rw[Bz he];dsimp only;rw[e1];dsimp only;rw[k2]
 |store s x y h hx hy=>
  intro t ts rest hf hne;rw[stp2]at hf;obtain⟨a,r,rfl,ha,hr⟩:=(Ib hf).cons;obtain⟨o,r,rfl,ho,hr⟩:=hr.cons;obtain⟨t1,t2,rfl,h1,h2⟩:=hr.app;obtain⟨c,r,rfl,hc,hr⟩:=h2.cons;obtain⟨e,r,rfl,he,hr⟩:=(For.gap hr).cons;obtain⟨t3,t4,rfl,h3,h4⟩:=(For.gap hr).app;obtain⟨u,q,rfl,hu,hq⟩:=h4.cons;have hu:=Cv hu;have he:=Cv he;have ho:=Cv ho;have hc:=Cv hc;obtain⟨k1,k2,k3⟩:=Ey ha;rw[show a::o::(t1++c::e::(t3++u::q))++rest=a::o::(t1++c::e::(t3++u::rest))from by rw[hq.nil];simp];refine Ev.both (Ve hx (rest:=e::(t3++u::rest)) h1 (.inr (.inl (Dc hc)))) (Ve hy (rest:=rest) h3 (.inr (.inr (.inr (.inl (Dc hu)))))) (fun f e1 e2=> ?_);(try dsimp only at e1 e2 ⊢);have nk:∀s,isP s a=false:=fun s=>Md (.inl k1)
  refine Na (Af (nk _)) (Af (nk _)) ?_ hu;unfold Ap
  iterate 5 (rw[Af (nk _)];dsimp only)
  rw[Kd k1];dsimp only;rw[Af (isnt ho (by decide))];dsimp only;rw[An ho];dsimp only;rw[e1];dsimp only;rw[Bz hc];dsimp only;rw[Bz he];dsimp only;rw[e2];dsimp only;rw[k2]
 |cond x a b hx ha hb iha ihb=>
  intro t ts rest hf hne;rw[stp3]at hf;obtain⟨q1,q2,rfl,g1,g2⟩:=hf.app;obtain⟨i,r,rfl,hi,hr⟩:=(Ib g1).cons;obtain⟨p,r,rfl,hp,hr⟩:=(For.gap hr).cons;obtain⟨tx,r,rfl,h1,hr⟩:=hr.app;obtain⟨c,r,rfl,hc,hr⟩:=hr.cons;obtain⟨o,r,rfl,ho,hr⟩:=(For.gap hr).cons;rw[hr.nil];obtain⟨ta,r,rfl,hta,hr⟩:=g2.app;obtain⟨te,r,rfl,hte,hr⟩:=hr.app;obtain⟨z,r,rfl,hz,hr⟩:=(Ib hr).cons;rw[hr.nil];have hi:=Li hi;have hp:=Cv hp;have hc:=Cv hc;have ho:=Cv ho;have hz:=Cv hz;have ga:=fun u rest hu=>Ke a (fun y hy=>⟨ha y hy,iha y hy⟩) [] ta u rest hta hu
  cases b with
  |nil=>
   rw[if_pos (show([]:List St).isEmpty=true from rfl)]at hte;rw[hte.nil];rw[show i::p::(tx++[c,o])++(ta++([]++[z]))++rest=i::(p::(tx++c::(o::(ta++z::rest))))from by simp];refine Ev.both (Lw hx (rest:=o::(ta++z::rest)) hp h1 hc) (ga z rest hz) (fun f e1 e2=> ?_);(try dsimp only at e1 e2 ⊢);rw[Cx,An hi];dsimp only;rw[e1];dsimp only;rw[Bz ho];dsimp only;rw[e2];dsimp only;rw[show Bh [101,108,115,101] rest=none from hne];rfl
  |cons y l=>
   rw[if_neg (by simp)]at hte;obtain⟨r1,tb,rfl,f1,f2⟩:=hte.app;obtain⟨z0,r,rfl,hz0,hr⟩:=(Ib f1).cons;obtain⟨el,r,rfl,hel,hr⟩:=(For.gap hr).cons;obtain⟨o2,r,rfl,ho2,hr⟩:=(For.gap hr).cons;rw[hr.nil];have hz0:=Cv hz0;have hel:=Li hel;have ho2:=Cv ho2;have gb:=Ke (y::l) (fun x hx=>⟨hb x hx,ihb x hx⟩) [] tb z rest f2 hz;rw[show i::p::(tx++[c,o])++(ta++([z0,el,o2]++tb++[z]))++rest=i::(p::(tx++c::(o::(ta++z0::(el::o2::(tb++z::rest))))))from by simp];obtain⟨n1,e1⟩:=Lw hx (rest:=o::(ta++z0::(el::o2::(tb++z::rest)))) hp h1 hc;obtain⟨n2,e2⟩:=ga z0 (el::o2::(tb++z::rest)) hz0;obtain⟨n3,e3⟩:=gb;refine Ev.succ ⟨max n1 (max n2 n3),fun f hf=> ?_⟩;have e1:=e1 f (by omega);have e2:=e2 f (by omega);have e3:=e3 f (by omega);(try dsimp only at e1 e2 e3 ⊢);rw[Cx,An hi];dsimp only;rw[e1];dsimp only;rw[Bz ho];dsimp only;rw[e2];dsimp only;rw[An hel];dsimp only;rw[Bz ho2];dsimp only;rw[e3];rfl
 |loop x a hx ha iha=>
  intro t ts rest hf hne;rw[stp4]at hf;obtain⟨q1,q2,rfl,g1,g2⟩:=hf.app;obtain⟨i,r,rfl,hi,hr⟩:=(Ib g1).cons;obtain⟨p,r,rfl,hp,hr⟩:=(For.gap hr).cons;obtain⟨tx,r,rfl,h1,hr⟩:=hr.app;obtain⟨c,r,rfl,hc,hr⟩:=hr.cons;obtain⟨o,r,rfl,ho,hr⟩:=(For.gap hr).cons;rw[hr.nil];obtain⟨ta,r,rfl,hta,hr⟩:=g2.app;obtain⟨z,r,rfl,hz,hr⟩:=(Ib hr).cons;rw[hr.nil];have hi:=Li hi;have hp:=Cv hp;have hc:=Cv hc;have ho:=Cv ho;have hz:=Cv hz;have ga:=Ke a (fun y hy=>⟨ha y hy,iha y hy⟩) [] ta z rest hta hz;rw[show i::p::(tx++[c,o])++(ta++[z])++rest=i::(p::(tx++c::(o::(ta++z::rest))))from by simp];refine Ev.both (Lw hx (rest:=o::(ta++z::rest)) hp h1 hc) ga (fun f e1 e2=> ?_);(try dsimp only at e1 e2 ⊢);rw[Cx,Af (isnt hi (by decide))];dsimp only;rw[An hi];dsimp only;rw[e1];dsimp only;rw[Bz ho];dsimp only;rw[e2];rfl
 |brk=>
  intro t ts rest hf hne;rw[stp5]at hf;obtain⟨a,r,rfl,ha,hr⟩:=(Ib hf).cons;obtain⟨u,q,rfl,hu,hq⟩:=hr.cons;rw[hq.nil];have hu:=Cv hu;have ha:=Li ha;refine Ev.const (fun f=> ?_);(try dsimp only);refine Nl ha (by decide) (by decide) ?_ hu;unfold Ap;rw[An ha];rfl
 |cont=>
  intro t ts rest hf hne;rw[stp6]at hf;obtain⟨a,r,rfl,ha,hr⟩:=(Ib hf).cons;obtain⟨u,q,rfl,hu,hq⟩:=hr.cons;rw[hq.nil];have hu:=Cv hu;have ha:=Li ha;refine Ev.const (fun f=> ?_);(try dsimp only);refine Nl ha (by decide) (by decide) ?_ hu;unfold Ap;rw[Af (isnt ha (by decide))];dsimp only;rw[An ha];rfl
 |ret x hx=>
  intro t ts rest hf hne;rw[stp7]at hf;obtain⟨a,r,rfl,ha,hr⟩:=(Ib hf).cons;obtain⟨t1,t2,rfl,h1,h2⟩:=(For.gap hr).app;obtain⟨u,q,rfl,hu,hq⟩:=h2.cons;have hu:=Cv hu;have ha:=Li ha;rw[show a::(t1++u::q)++rest=a::(t1++u::rest)from by rw[hq.nil];simp];refine Ev.one (Ve hx (rest:=rest) h1 (.inr (.inr (.inr (.inl (Dc hu)))))) (fun f e1=> ?_);(try dsimp only at e1 ⊢);refine Nl ha (by decide) (by decide) ?_ hu;unfold Ap
  iterate 2 (rw[Af (isnt ha (by decide))];dsimp only)
  rw[An ha];dsimp only;rw[e1]
 |print x hx=>
  intro t ts rest hf hne;rw[stp8]at hf;obtain⟨a,r,rfl,ha,hr⟩:=(Ib hf).cons;obtain⟨p,r,rfl,hp,hr⟩:=hr.cons;obtain⟨t1,t2,rfl,h1,h2⟩:=hr.app;obtain⟨c,r,rfl,hc,hr⟩:=h2.cons;obtain⟨u,q,rfl,hu,hq⟩:=hr.cons;have hu:=Cv hu;have ha:=Li ha;have hp:=Cv hp;have hc:=Cv hc;rw[show a::p::(t1++c::u::q)++rest=a::(p::(t1++c::(u::rest)))from by rw[hq.nil];simp];refine Ev.one (Lw hx (rest:=u::rest) hp h1 hc) (fun f e1=> ?_);(try dsimp only at e1 ⊢);refine Nl ha (by decide) (by decide) ?_ hu;unfold Ap
  iterate 3 (rw[Af (isnt ha (by decide))];dsimp only)
  rw[An ha];dsimp only;rw[e1]
 |trap x hx=>
  intro t ts rest hf hne;rw[stp9]at hf;obtain⟨a,r,rfl,ha,hr⟩:=(Ib hf).cons;obtain⟨p,r,rfl,hp,hr⟩:=hr.cons;obtain⟨t1,t2,rfl,h1,h2⟩:=hr.app;obtain⟨c,r,rfl,hc,hr⟩:=h2.cons;obtain⟨u,q,rfl,hu,hq⟩:=hr.cons;have hu:=Cv hu;have ha:=Li ha;have hp:=Cv hp;have hc:=Cv hc;rw[show a::p::(t1++c::u::q)++rest=a::(p::(t1++c::(u::rest)))from by rw[hq.nil];simp];refine Ev.one (Lw hx (rest:=u::rest) hp h1 hc) (fun f e1=> ?_);(try dsimp only at e1 ⊢);refine Nl ha (by decide) (by decide) ?_ hu;unfold Ap
  iterate 4 (rw[Af (isnt ha (by decide))];dsimp only)
  rw[An ha];dsimp only;rw[e1]
 |call s l hx=>
  intro t ts rest hf hne;rw[nY]at hf;have hl:∀y,y∈l→WEx y:=by cases hx with|call _ _ _ _ h=>exact h
  obtain⟨a,r,rfl,ha,hr⟩:=(Ib hf).cons;obtain⟨p,r,rfl,hp,hr⟩:=hr.cons;obtain⟨t1,t2,rfl,h1,h2⟩:=hr.app;obtain⟨c,r,rfl,hc,hr⟩:=h2.cons;obtain⟨u,q,rfl,hu,hq⟩:=hr.cons;have hu:=Cv hu;have hp:=Cv hp;have hc:=Cv hc;obtain⟨k1,k2,k3⟩:=Ey ha;rw[show a::p::(t1++c::u::q)++rest=a::p::(t1++c::(u::rest))from by rw[hq.nil];simp];refine Ev.one (args_ev hl (rest:=u::rest) h1 hc) (fun f e1=> ?_);(try dsimp only at e1 ⊢);have nk:∀s,isP s a=false:=fun s=>Md (.inl k1)
  refine Na (Af (nk _)) (Af (nk _)) ?_ hu;unfold Ap
  iterate 5 (rw[Af (nk _)];dsimp only)
  rw[Kd k1];dsimp only;rw[An hp];dsimp only;rw[e1];dsimp only;rw[k2]
def Hj(x:Bs):List Pc:=[wd [105,110,116],.g [32],nmp x]
def Qy(x:Bs):List Pc:=Ef 1 [wd [105,110,116],.g [32],nmp x,sg [59]]
def Vl(f:Fu):List Pc:=Jf (f.params.map Hj)++([sg [41],.g [32],sg [123],.g [10]]++(f.locals.flatMap Qy++(Fg 1 f.body++Ef 0 [sg [125]])))
def Vn(f:Fu):List Pc:=wd [105,110,116]:: .g [32]::nmp f.name::sg [40]::Vl f
def bV(a:Ar):List Pc:=Ef 0 [wd [105,110,116],.g [32],nmp a.name,sg [91],nu a.size,sg [93],sg [59]]
def Km(p:Pr):List Pc:=p.arrays.flatMap bV++p.funcs.flatMap Vn
theorem Ou {α:Type}(f:α→List Pc)(g:α→Bs)(h:∀x,Ay (f x)=g x):∀l:List α,Ay (l.flatMap f)=l.flatMap g
 |[]=>rfl
 |x::l=>by rw[Zk,Zk,As,h,Ou f g h l]
theorem lP(f:Fu):Ay (Vn f)=Im f:=by
 unfold Vn Vl Im Fm;rw[show wd [105,110,116]::Pc.g [32]::nmp f.name::sg [40]::(Jf (f.params.map Hj)++([sg [41],.g [32],sg [123],.g [10]]++(f.locals.flatMap Qy++(Fg 1 f.body++Ef 0 [sg [125]]))))=[wd [105,110,116],Pc.g [32],nmp f.name,sg [40]]++(Jf (f.params.map Hj)++([sg [41],.g [32],sg [123],.g [10]]++(f.locals.flatMap Qy++(Fg 1 f.body++Ef 0 [sg [125]]))))from rfl];rw[As,As,As,As,As,eD,Mp,List.map_map];rw[Ou Qy (fun x=>ln 1 [[105,110,116,32],x,[59]]) (fun x=>Gc _ _ _ (by simp [Ay,Pc.text]))];rw[Gc 0 [sg [125]] [[125]] rfl];rw[show(Ay∘Hj)=Jn from funext fun x=>by simp [Hj,Ay,Pc.text,Jn]];simp [Ay,Pc.text]
theorem kW(a:Ar):Ay (bV a)=Nu a:=Gc _ _ _ (by simp [Ay,Pc.text])
theorem Rx(p:Pr):Ay (Km p)=Fi p:=by
 unfold Km Fi Em Fd;rw[As,Ou bV Nu kW,Ou Vn Im lP]
def WFu(f:Fu):Prop:=Au f.name=true∧(∀x,x∈f.params→Au x=true)∧(∀x,x∈f.locals→Au x=true)∧∀x,x∈f.body→WSt x
theorem wfu_of {f:Fu}(h:Gb f=true):WFu f:=by
 unfold Gb at h;simp only[Zl,List.all_eq_true]at h;obtain⟨⟨⟨⟨h1,h2⟩,h3⟩,h4⟩,h5⟩:=h;exact⟨h1,h2,h3,fun x hx=>gJ 40 x (h5 x hx)⟩
theorem Xy:∀(l:List Bs) (a:List Bs) (x:Bs) (ts rest:List Tk) (t:Tk),For ts (Hj x++l.flatMap (fun y=>[sg [44],.g [32]]++Hj y))→isP [41] t=true→
  Ev (fun f=>Ha f a (ts++t::rest)) (.ok (a++x::l,rest))
 |[],a,x,ts,rest,t,hf,ht=>by
  rw[List.flatMap_nil,Zm]at hf;obtain⟨i,r,rfl,hi,hr⟩:=For.cons (show For ts (wd [105,110,116]:: .g [32]::[nmp x])from hf);obtain⟨n,r,rfl,hn,hr⟩:=(For.gap hr).cons;obtain⟨k1,k2,k3⟩:=Ey hn;rw[hr.nil];refine Ev.const (fun f=> ?_);(try dsimp only);show Ha (f+1) a (i::n::t::rest)=_
  rw[Ha,Bz (Li hi)];dsimp only;rw[Kd k1];dsimp only;rw[Af (isnt ht (by decide))];dsimp only;rw[Bz ht];dsimp only;rw[k2]
 |y::l,a,x,ts,rest,t,hf,ht=>by
  rw[Zk]at hf;obtain⟨i,r,rfl,hi,hr⟩:=For.cons (show For ts (wd [105,110,116]:: .g [32]::nmp x::sg [44]:: .g [32]::(Hj y++l.flatMap (fun y=>[sg [44],.g [32]]++Hj y)))from hf);obtain⟨n,r,rfl,hn,hr⟩:=(For.gap hr).cons;obtain⟨c,r,rfl,hc,hr⟩:=hr.cons;obtain⟨k1,k2,k3⟩:=Ey hn;have hc:=Cv hc;have ih:=Xy l (a++[x]) y r rest t (For.gap hr) ht;rw[show a++x::y::l=a++[x]++y::l from by simp];refine Ev.one ih (fun f e1=> ?_);(try dsimp only at e1 ⊢);show Ha (f+1) a (i::n::c::(r++t::rest))=_
  rw[Ha,Bz (Li hi)];dsimp only;rw[Kd k1];dsimp only;rw[An hc];dsimp only;rw[k2];exact e1
theorem Yh:∀(l:List Bs) (a:List Bs) (ts rest:List Tk),For ts (l.flatMap Qy)→Bh [105,110,116] rest=none→
  Ev (fun f=>Dv f a (ts++rest)) (.ok (a++l,rest))
 |[],a,ts,rest,hf,ht=>by
  rw[For.nil (show For ts []from hf),Zm];refine Ev.const (fun f=> ?_);(try dsimp only);show Dv (f+1) a rest=_
  rw[Dv,ht]
 |x::l,a,ts,rest,hf,ht=>by
  rw[Zk]at hf;obtain⟨t1,t2,rfl,h1,h2⟩:=hf.app;obtain⟨i,r,rfl,hi,hr⟩:=(Ib h1).cons;obtain⟨n,r,rfl,hn,hr⟩:=(For.gap hr).cons;obtain⟨c,r,rfl,hc,hr⟩:=hr.cons;rw[hr.nil];obtain⟨k1,k2,k3⟩:=Ey hn;have ih:=Yh l (a++[x]) t2 rest h2 ht;rw[show a++x::l=a++[x]++l from by simp];refine Ev.one ih (fun f e1=> ?_);(try dsimp only at e1 ⊢);show Dv (f+1) a (i::n::c::(t2++rest))=_
  rw[Dv,An (Li hi)];dsimp only;rw[Kd k1];dsimp only;rw[Bz (Cv hc)];dsimp only;rw[k2];exact e1
theorem kQ {t:Nat}{l:List St}(hl:∀x,x∈l→WSt x){ts rest:List Tk}{u:Tk}(hf:For ts (Fg t l))(hu:isP [125] u=true):Bh [105,110,116] (ts++u::rest)=none:=by
 cases l with
 |nil=>
  rw[Fg]at hf;rw[hf.nil];exact Af (isnt hu (by decide))
 |cons y l=>
  rw[Fg]at hf;obtain⟨s1,s2,rfl,g1,g2⟩:=hf.app;obtain⟨w,l',e1,n1,n2,n3⟩:=Pj (hl y Zb) t;obtain⟨c,r,rfl,e2⟩:=Qi g1 e1;exact Af (Cy (by rw[e2];exact n3))
theorem mH {g:Fu}(hg:WFu g){ts rest:List Tk}(hf:For ts (Vl g)):Ev (fun f=>Cj f g.name (ts++rest)) (.ok (g,rest)):=by
 obtain⟨nm,ps,ls,bd⟩:=g;obtain⟨_,_,_,hb⟩:=hg;dsimp only[Vl]at hf hb ⊢;obtain⟨tp,r,rfl,hp,hr⟩:=hf.app;have hr:For r (sg [41]:: .g [32]::sg [123]:: .g [10]::(ls.flatMap Qy++(Fg 1 bd++Ef 0 [sg [125]]))):=hr;obtain⟨c,r,rfl,hc,hr⟩:=For.cons hr;obtain⟨o,r,rfl,ho,hr⟩:=For.cons (For.gap hr);obtain⟨tl,r,rfl,hl,hr⟩:=(For.gap hr).app;obtain⟨tb,r,rfl,hb2,hr⟩:=hr.app;obtain⟨z,r,rfl,hz,hr⟩:=(Ib hr).cons;rw[hr.nil];have hz:=Cv hz;have hc:=Cv hc;have ho:=Cv ho;obtain⟨n1,e1⟩:=Yh ls [] tl (tb++z::rest) hl (kQ hb hb2 hz);obtain⟨n2,e2⟩:=Ke bd (fun x hx=>⟨hb x hx,oR (hb x hx)⟩) [] tb z rest hb2 hz;rw[show tp++c::o::(tl++(tb++[z]))++rest=tp++c::o::(tl++(tb++z::rest))from by simp]
 cases ps with
 |nil=>
  rw[For.nil (show For tp []from hp)];refine⟨max n1 n2,fun f hf=> ?_⟩;have e1:=e1 f (by omega);have e2:=e2 f (by omega);(try dsimp only at e1 e2 ⊢);unfold Cj;rw[show([]:List Tk)++c::o::(tl++(tb++z::rest))=c::o::(tl++(tb++z::rest))from rfl,An hc];dsimp only;rw[Bz ho];dsimp only;rw[e1];dsimp only;rw[e2];rfl
 |cons x l=>
  have hp':For tp (Hj x++l.flatMap (fun y=>[sg [44],.g [32]]++Hj y)):=by
   have e:Jf ((x::l).map Hj)=Hj x++l.flatMap (fun y=>[sg [44],.g [32]]++Hj y):=by
    show Hj x++(l.map Hj).flatMap _=_;rw[List.flatMap_map]
   rw[←e];exact hp
  obtain⟨n3,e3⟩:=Xy l [] x tp (o::(tl++(tb++z::rest))) c hp' hc;have hno:Bh [41] (tp++c::o::(tl++(tb++z::rest)))=none:=by
   obtain⟨i,r,rfl,hi,_⟩:=For.cons (show For tp (wd [105,110,116]:: .g [32]::nmp x::l.flatMap (fun y=>[sg [44],.g [32]]++Hj y))from hp');exact Af (isnt (Li hi) (by decide))
  refine⟨max n1 (max n2 n3),fun f hf=> ?_⟩;have e1:=e1 f (by omega);have e2:=e2 f (by omega);have e3:=e3 f (by omega);(try dsimp only at e1 e2 e3 ⊢);unfold Cj;rw[hno];dsimp only;rw[e3];dsimp only;rw[Bz ho];dsimp only;rw[e1];dsimp only;rw[e2];rfl
theorem Xd:∀(l:List Fu) (p:Pr) (ts:List Tk) (u:Tk),(∀x,x∈l→WFu x)→For ts (l.flatMap Vn)→u.kind=5→Ev (fun f=>Ca f p (ts++[u])) (.ok ({p with funcs:=p.funcs++l},[u]))
 |[],p,ts,u,hl,hf,hu=>by
  rw[For.nil (show For ts []from hf),Zm];refine Ev.const (fun f=> ?_);(try dsimp only);show Ca (f+1) p [u]=_
  rw[Ca,if_pos (show(([u]:List Tk).head?.map (·.kind)).getD 0=5 from hu)]
 |g::l,p,ts,u,hl,hf,hu=>by
  rw[Zk]at hf;obtain⟨t1,t2,rfl,h1,h2⟩:=hf.app;obtain⟨i,r,rfl,hi,hr⟩:=For.cons (show For t1 (wd [105,110,116]:: .g [32]::nmp g.name::sg [40]::Vl g)from h1);obtain⟨n,r,rfl,hn,hr⟩:=(For.gap hr).cons;obtain⟨o,r,rfl,ho,hr⟩:=hr.cons;obtain⟨k1,k2,k3⟩:=Ey hn;obtain⟨j1,_,_⟩:=Ey hi;have ho:=Cv ho;have ih:=Xd l {p with funcs:=p.funcs++[g]} t2 u (fun x hx=>hl x (Zg _ hx)) h2 hu;rw[show({p with funcs:=p.funcs++g::l}:Pr)= {({p with funcs:=p.funcs++[g]}:Pr)with funcs:=({p with funcs:=p.funcs++[g]}:Pr).funcs++l}from by simp];obtain⟨n1,e1⟩:=mH (hl g Zb) (rest:=t2++[u]) hr;obtain⟨n2,e2⟩:=ih;refine Ev.succ ⟨max n1 n2,fun f hf=> ?_⟩;have e1:=e1 f (by omega);have e2:=e2 f (by omega);(try dsimp only at e1 e2 ⊢);rw[show i::n::o::r++t2++[u]=i::n::o::(r++(t2++[u]))from by simp];rw[Ca,if_neg (show ¬((i::n::o::(r++(t2++[u]))).head?.map (·.kind)).getD 0=5 from by show ¬i.kind=5;rw[j1];decide),Bz (Li hi)];dsimp only;rw[Kd k1];dsimp only;rw[show(if p.funcs.isEmpty=true then Bh [91] (o::(r++(t2++[u])))else none)=none from by
   split
   ·exact Af (isnt ho (by decide))
   ·rfl]
  dsimp only;rw[Bz ho];dsimp only;rw[k2,e1];exact e2
theorem cJ:∀(m:List Ar) (A:List Ar) (l:List Fu) (ts:List Tk) (u:Tk),(∀x,x∈l→WFu x)→For ts (m.flatMap bV++l.flatMap Vn)→u.kind=5→Ev (fun f=>Ca f ⟨A,[]⟩ (ts++[u])) (.ok (⟨A++m,l⟩,[u]))
 |[],A,l,ts,u,hl,hf,hu=>by
  rw[Zm];exact Xd l ⟨A,[]⟩ ts u hl hf hu
 |a::m,A,l,ts,u,hl,hf,hu=>by
  rw[Zk,Zd]at hf;obtain⟨t1,t2,rfl,h1,h2⟩:=hf.app;obtain⟨i,r,rfl,hi,hr⟩:=(Ib h1).cons;obtain⟨n,r,rfl,hn,hr⟩:=(For.gap hr).cons;obtain⟨o,r,rfl,ho,hr⟩:=hr.cons;obtain⟨s,r,rfl,hs,hr⟩:=hr.cons;obtain⟨c,r,rfl,hc,hr⟩:=hr.cons;obtain⟨e,r,rfl,he,hr⟩:=hr.cons;rw[hr.nil];obtain⟨k1,k2,k3⟩:=Ey hn;obtain⟨s1,s2,s3⟩:=Ey hs;obtain⟨j1,_,_⟩:=Ey hi;have ho:=Cv ho;have ih:=cJ m (A++[a]) l t2 u hl h2 hu;rw[show A++a::m=A++[a]++m from by simp];refine Ev.one ih (fun f e2=> ?_);(try dsimp only at e2 ⊢);rw[show [i,n,o,s,c,e]++t2++[u]=i::n::o::s::c::e::(t2++[u])from by simp];rw[Ca,if_neg (show ¬((i::n::o::s::c::e::(t2++[u])).head?.map (·.kind)).getD 0=5 from by show ¬i.kind=5;rw[j1];decide),Bz (Li hi)];dsimp only;rw[Kd k1];dsimp only;rw[if_pos (show List.isEmpty ([]:List Fu)=true from rfl),An ho];dsimp only;rw[show Gt 3 (s::c::e::(t2++[u]))= .ok (s,c::e::(t2++[u]))from if_pos s1];dsimp only;rw[Bz (Cv hc)];dsimp only;rw[Bz (Cv he)];dsimp only;rw[k2,s3];exact e2
theorem gV {p:Pr}(hp:∀x,x∈p.funcs→WFu x){ts:List Tk}{u:Tk}(hf:For ts (Km p))(hu:u.kind=5):Ev (fun f=>Ca f ⟨[],[]⟩ (ts++[u])) (.ok (p,[u])):=cJ p.arrays [] p.funcs ts u hp hf hu
def Ag(b0:Bs)(l:List (Bs ×Bs)):Bs:=b0++l.flatMap (fun p=>p.1++p.2)
def Bv(l:Bs):Nat:=l.count 10
def Fc(c:UInt8):Bool:=c==32||c==9||c==10||c==13
structure rI (c:Bs):Prop where
 pre:∃r,c=47::47::r
 nofeed:(10:UInt8) ∉ c
 valid:Lib.validD c=true
 mark:Lib.contains c [239,191,189]=false
structure Mg (b0:Bs)(l:List (Bs ×Bs)):Prop where
 blank:∀c,c∈b0→Fc c=true
 comm:∀p,p∈l→rI p.1∧(∀c,c∈p.2→Fc c=true)∧∃r,p.2=10::r
theorem Pp {c:UInt8}(h:Fc c=true):c.toNat<128∧Iz (c.toNat:Nat)=true:=by
 simp only[Fc,Bool.or_eq_true,beq_iff_eq]at h;rcases h with((rfl|rfl)|rfl)|rfl<;>exact⟨by decide,by decide⟩
theorem qY(c:Bs)(s:Bs)(h:(10:UInt8) ∉ c):Lib.index (c++10::s) [10]=(c.length:Int):=by
 induction c with
 |nil=>simp [Lib.index]
 |cons x c ih=>
  have hx:x≠10:=fun e=>h (by rw[e];exact Zb)
  have i:=ih (fun hm=>h (Zg _ hm));rw[Zc,Lib.index];have hp:([10]:List UInt8).isPrefixOf (x::(c++10::s))=false:=by
   simp [Zn];exact fun e=>hx e.symm
  rw[hp,i];have:((c.length:Int)== -1)=false:=by rw[beq_eq_false_iff_ne];omega
  rw[this];simp
theorem cut_at(c s:Bs)(h:(10:UInt8) ∉ c):Lib.cut (c++10::s) [10]=(c,s,true):=by
 unfold Lib.cut;rw[qY c s h,if_pos (by omega)];simp
theorem gap_len(b0:Bs)(c b:Bs)(l:List (Bs ×Bs)):Ag b0 ((c,b)::l)=b0++(c++Ag b l):=by
 unfold Ag;simp
theorem Sj(a b:Bs):Bv (a++b)=Bv a+Bv b:=List.count_append
theorem pJ(c:Bs)(h:(10:UInt8) ∉ c):Bv c=0:=List.count_eq_zero.2 h
theorem Mf(a b:Bs)(n:Nat)(hn:n=(a++b).length):(Aa (a++b)).extract a.length n=Aa b:=by
 subst hn;apply ByteArray.ext
 rw[ByteArray.data_extract];simp [Aa]
theorem pB(b0:Bs)(l:List (Bs ×Bs))(r:Bs)(hg:Mg b0 l)(hr:Hr Iz r)(hp:Zf r [47,47]=false)(hz:(Ag b0 l++r).length≤1000000)(w:World)(hl:Iy w):
  Calls Zh 40 #[.string (Aa (Ag b0 l++r))] w fun e w'=>e= .returned (.tuple #[.string (Aa r),.int .i64 (Bv (Ag b0 l)),.bool true])∧Below w.heap.size w w':=by
 have HGP:=Za hg;have HR:=Za hr;have HP:=Za hp;have HL:=Za hl;have HZ:=Za hz;obtain⟨T,hT⟩:∃T,Bv (Ag b0 l)=T:=⟨_,rfl⟩;rw[hT];have hT2:T≤1000000:=by
  rw[←hT];unfold Bv;have:=List.count_le_length (a:=(10:UInt8)) (l:=Ag b0 l);rw[Ze]at hz;omega
 have HTT:=Za hT;clear hg hr hp hl hz hT;go_enter Tryz.func40,Tryz.ntmps40
 go_wp2_with fail
 go_loopw [0,3] (fun s0 s3 wr=> ∃(b1:Bs) (l1:List (Bs ×Bs)) (n:Nat),s0= .string (Aa (Ag b1 l1++r))∧s3= .int .i64 n∧Mg b1 l1∧n+Bv (Ag b1 l1)=T∧(Ag b1 l1++r).length≤1000000∧l1.length≤l.length∧Below w.heap.size w wr) (fun s0 _ _=>match s0 with| .string s=>s.size|_=>0)
 case atStart=>exact⟨b0,l,0,rfl,rfl,HGP.out,by rw[HTT.out];omega,HZ.out,Nat.le_refl _,Below.refl _ _⟩
 case round=>
  obtain⟨b1,l1,n,rfl,rfl,hg1,hn,hz1,hll,hb⟩:=hrel;have HL1:=Za (HL.out.old hb);have HB:=Za hb;have HG1:=Za hg1;have nI:(n:Int)≤1000000:=by omega
  have nJ:(0:Int)≤(n:Int):=by omega
  have HN:=Za hn
  cases l1 with
  |nil=>
   have e1:Ag b1 []=b1:=by simp [Ag]
   rw[e1]at hn hz1 ⊢;have HN:=Za hn;have HR1:=Za (fun w1=>Xp b1 r (fun c hc=>Pp (hg1.blank c hc)) HR.out w1);have HX1:=Za (Ie b1 r);have hl1:(b1.length:Int)≤((b1++r).length:Int):=by rw[Ze];omega
   have hl2:b1.length≤(b1++r).length:=by rw[Ze];omega
   have HZ1:=Za hz1;clear hg1 hb hn hz1 e1;go_wp2_with fail
   refine(HR1.out _).mono ?_;rintro e w1 ⟨rfl,hb1⟩;have HB1:=Za (HB.out.trans (hb1.mono HB.out.size));have HL2:=Za (HL1.out.old hb1);clear hb1;go_wp2_with fail
   rw[HX1.out];refine(Tryz.strings_Count_one (Aa b1) 10 w1).mono ?_;rintro e w2 ⟨he,hw2⟩;have he2:e= .returned (.int .i64 (Bv b1:Int)):=he;subst he2;obtain rfl:w1=w2:=hw2.symm;clear he;have fI:(n:Int)+(Bv b1:Int)≤1000000:=by have:=HN.out;omega
   have fJ:(0:Int)≤(Bv b1:Int):=by omega
   go_wp2_with fail
   have hxd:=Mf b1 r _ rfl
   first|rw[hxd]|(simp only[Ze]at hxd;rw[hxd])
   clear hxd;refine(Tryz.strings_HasPrefix (Aa (r)) (Aa [47,47]) w1).mono ?_;rintro e w2 ⟨he,hw2⟩;have he2:e= .returned (.bool false):=by rw[he];show Ending.returned (.bool (Zf r [47,47]))=_;rw[HP.out]
   subst he2;obtain rfl:w1=w2:=hw2.symm;clear he;go_wp2_with fail
   go_ret3
   exact⟨by rw[show(T:Int)=(n:Int)+(Bv b1:Int)from by have:=HN.out;omega];rfl,HB1.out⟩
  |cons p l1=>
   obtain⟨c,b2⟩:=p;obtain⟨hco,hb2,b3,hb3⟩:=hg1.comm _ Zb;have hb3:b2=10::b3:=hb3;have hco:rI c:=hco;obtain⟨c3,hc3⟩:=hco.pre;have e1:=gap_len b1 c b2 l1;have e2:Ag b1 ((c,b2)::l1)++r=b1++(c++(Ag b2 l1++r)):=by rw[e1];simp
   rw[e2]at hz1 ⊢;have hfe:Bv (Ag b1 ((c,b2)::l1))=Bv b1+Bv (Ag b2 l1):=by rw[e1,Sj,Sj,pJ c hco.nofeed];omega
   rw[hfe]at hn;have hg2:Mg b2 l1:=⟨hb2,fun p hp=>hg1.comm p (Zg _ hp)⟩;have hes:Hr Iz (c++(Ag b2 l1++r)):= .inr ⟨47,47::(c3++(Ag b2 l1++r)),by rw[hc3];rfl,by decide,by decide⟩;have hcut:Lib.cut (c++(Ag b2 l1++r)) [10]=(c,(Ag b2 l1++r).drop 1,true):=by
    have:Ag b2 l1++r=10::(b3++(l1.flatMap (fun p=>p.1++p.2)++r)):=by unfold Ag;rw[hb3];simp
    rw[this,cut_at c _ hco.nofeed];rfl
   have hpre:Zf (c++(Ag b2 l1++r)) [47,47]=true:=by rw[hc3];simp [Zf]
   have HPR:=Za hpre;have hz2:(c++(Ag b2 l1++r)).length≤1000000:=by rw[Ze]at hz1;omega
   have HCM:=Za (fun w1 h=>cI c (Ag b2 l1++r) hcut hco.valid hco.mark hz2 w1 h);have HR1:=Za (fun w1=>Xp b1 (c++(Ag b2 l1++r)) (fun x hx=>Pp (hg1.blank x hx)) hes w1);have HX1:=Za (Ie b1 (c++(Ag b2 l1++r)));have hl1:(b1.length:Int)≤((b1++(c++(Ag b2 l1++r))).length:Int):=by rw[Ze];omega
   have hl2:b1.length≤(b1++(c++(Ag b2 l1++r))).length:=by rw[Ze];omega
   have hl3:(c.length:Int)≤((c++(Ag b2 l1++r)).length:Int):=by rw[Ze];omega
   have hl4:c.length≤(c++(Ag b2 l1++r)).length:=by rw[Ze];omega
   have HG2:=Za hg2;have HN2:=Za hn;have HZ2:Hid ((Ag b2 l1++r).length≤1000000):=by show _≤_;rw[Ze]at hz2;omega
   have HME:Hid ((Ag b2 l1++r).length<(b1++(c++(Ag b2 l1++r))).length):=by
    show _<_;rw[hc3];simp only[Ze,List.length_cons];omega
   have HLL:Hid (l1.length≤l.length):=by show _≤_;rw[List.length_cons]at hll;omega
   clear hg1 hb hn hz1 e1 e2 hfe hg2 hes hcut hpre hz2 hco hb2 hb3 hc3 hll HN;have HX2:=Za (Mf b1 (c++(Ag b2 l1++r)));have HX3:=Za (Mf c (Ag b2 l1++r));have HREL:=Za (show ∃q,Ag b2 l1++r=q from⟨_,rfl⟩);obtain⟨q,hq⟩:=HREL.out;have HQ:=Za hq;clear HREL;rw[hq]at HX2 HX3 HX1 HPR HCM HR1 hl1 hl2 hl3 hl4 HZ2 HME ⊢;clear hq;obtain⟨u,hu⟩:∃u,c++q=u:=⟨_,rfl⟩;rw[hu]at HX2 HX3 HX1 HPR HCM HR1 hl1 hl2 hl3 hl4 HME ⊢;clear hu;go_wp2_with fail
   refine(HR1.out _).mono ?_;rintro e w1 ⟨rfl,hb1⟩;have HB1:=Za (HB.out.trans (hb1.mono HB.out.size));have HL2:=Za (HL1.out.old hb1);clear hb1;go_wp2_with fail
   rw[HX1.out];refine(Tryz.strings_Count_one (Aa b1) 10 w1).mono ?_;rintro e w2 ⟨he,hw2⟩;have he2:e= .returned (.int .i64 (Bv b1:Int)):=he;subst he2;obtain rfl:w1=w2:=hw2.symm;clear he;have fI:(n:Int)+(Bv b1:Int)≤1000000:=by have:=HN2.out;omega
   have fJ:(0:Int)≤(Bv b1:Int):=by omega
   go_wp2_with fail
   have hxd:=HX2.out _ rfl
   first|rw[hxd]|(simp only[Ze]at hxd;rw[hxd])
   clear hxd;refine(Tryz.strings_HasPrefix (Aa u) (Aa [47,47]) w1).mono ?_;rintro e w2 ⟨he,hw2⟩;have he2:e= .returned (.bool true):=by rw[he];show Ending.returned (.bool (Zf u [47,47]))=_;rw[HPR.out]
   subst he2;obtain rfl:w1=w2:=hw2.symm;clear he;go_wp2_with fail
   refine(HCM.out _ HL2.out).mono ?_;rintro e w2 ⟨rfl,hb2⟩;have HB2:=Za (HB1.out.trans (hb2.mono HB1.out.size));clear hb2;go_wp2_with fail
   have hxd:=HX3.out _ rfl
   first|rw[hxd]|(simp only[Ze]at hxd;rw[hxd])
   clear hxd;go_roundw
   case rel=>exact⟨b2,l1,n+Bv b1,by rw[HQ.out],by go_num,HG2.out,by have:=HN2.out;omega,by rw[HQ.out];exact HZ2.out,HLL.out,HB2.out⟩
   case measure=>exact HME.out
theorem ext_one(a:UInt8)(b:Bs)(n:Nat)(hn:n=(a::b).length):(Aa (a::b)).extract 1 n=Aa b:=Mf [a] b n hn
theorem pL(a:UInt8)(b c:Bs)(m n:Nat)(hm:m=1+b.length)(hn:n=(a::(b++c)).length):(Aa (a::(b++c))).extract m n=Aa c:=by
 have:m=(a::b).length:=by rw[hm,List.length_cons];omega
 rw[this];exact Mf (a::b) c n hn
theorem qH(a z:UInt8)(b c:Bs)(m:Nat)(hm:m=b.length+2):(Aa (a::(b++z::c))).extract 0 m=Aa (a::(b++[z])):=by
 subst hm;have h:=Ie (a::(b++[z])) c;simpa using h
theorem gR(r:Nat)(x rest:Bs)(hr1:32≤r)(hr2:r≠39)(hr3:r≠92)(hr4:r≠65533)(hr5:r≤1114111)(hx:x.length≤4)(hd:Lib.decodeGo (Aa (x++39::rest))=(r,x.length))(hz:(39::(x++39::rest)).length≤1000000)(w:World)(hl:Iy w):
  Calls Zh 93 #[.string (Aa (39::(x++39::rest)))] w fun e w'=>e= .returned (.tuple #[Gu 3 (39::(x++[39])) r 0,.bool true])∧Below w.heap.size w w':=by
 have q1:((r:Int)==39)=false:=by rw[beq_eq_false_iff_ne];omega
 have q2:((r:Int)==92)=false:=by rw[beq_eq_false_iff_ne];omega
 have q3:((r:Int)==65533)=false:=by rw[beq_eq_false_iff_ne];omega
 have q4:(32:Int)≤(r:Int):=by omega
 have q6:¬((r:Int)<32):=by omega
 have q7:decide ((r:Int)<32)=false:=decide_eq_false q6;have q5:(r:Int)≤1114111:=by omega
 have xI:(x.length:Int)≤4:=by omega
 have xJ:(0:Int)≤(x.length:Int):=by omega
 have hL:(39::(x++39::rest)).length=x.length+2+rest.length:=by simp;omega
 have HX1:=Za (ext_one 39 (x++39::rest));have HX2:=Za (pL 39 x (39::rest));have HX3:=Za (qH 39 39 x rest);have HP:=Za (show Zf (39::rest) [39]=true by simp [Zf]);have HD:=Za hd;have HL:=Za hl;have HZ:=Za hz;have HLE:=Za hL;have HO:=Za (Ae.new w [.int .i64 0,.string ⟨#[]⟩,.int .i64 0,.int .i64 0] 50);have HB0:=Za ((Below.refl w.heap.size w).alloc (Nat.le_refl _) (.cells #[.int .i64 0,.string ⟨#[]⟩,.int .i64 0,.int .i64 0] 50));have l1:x.length+2≤(39::(x++39::rest)).length:=by omega
 have l2:(x.length:Int)+2≤((39::(x++39::rest)).length:Int):=by omega
 have l3:1≤(39::(x++39::rest)).length:=by omega
 have l4:(1:Int)≤((39::(x++39::rest)).length:Int):=by omega
 clear hd hl hz hL hr2 hr3 hr4;obtain⟨s,hs⟩:∃s,39::(x++39::rest)=s:=⟨_,rfl⟩;obtain⟨u,hu⟩:∃u,x++39::rest=u:=⟨_,rfl⟩;obtain⟨v,hv⟩:∃v,(39::rest:Bs)=v:=⟨_,rfl⟩;obtain⟨k,hk⟩:∃k,(39::(x++[39]):Bs)=k:=⟨_,rfl⟩;rw[hs]at HX1 HX2 HX3 HZ HLE l1 l2 l3 l4 ⊢;rw[hu]at HX1 HD;rw[hv]at HX2 HP;rw[hk]at HX3 ⊢;clear hs hu hv hk;go_enter Tryz.func93,Tryz.ntmps93
 go_wp2_with fail
 rw[HX1.out _ rfl];refine(Tryz.utf8_DecodeRuneInString (Aa u) _ (HL.out.old HB0.out).utf).mono ?_;rw[HD.out];rintro e w1 ⟨rfl,hb1⟩;have HO1:=Za (HO.out.old hb1);have HB1:=Za (HB0.out.trans (hb1.mono HB0.out.size));clear hb1;go_wp2_with fail
 rw[HX2.out _ _ rfl rfl];refine(Tryz.strings_HasPrefix (Aa v) (Aa [39]) w1).mono ?_;rintro e w2 ⟨he,hw2⟩;have he2:e= .returned (.bool true):=by rw[he];show Ending.returned (.bool (Zf v [39]))=_;rw[HP.out]
 subst he2;obtain rfl:w1=w2:=hw2.symm;clear he;have g0:=HO1.out.at 0 _ rfl;have f0:=HO1.out.fz 0;have g1:=HO1.out.at 1 _ rfl;have f1:=HO1.out.fz 1;have g2:=HO1.out.at 2 _ rfl;have f2:=HO1.out.fz 2;have g3:=HO1.out.at 3 _ rfl;have f3:=HO1.out.fz 3;have gl:=HO1.out.lt;have hx3:=HX3.out _ rfl;go_wp2_with fail
 have HS:=Za ((((HO1.out.set 0 (.int .i64 3)).set 1 (.string (Aa k))).set 2 (.int .i64 r)).set 3 (.int .i64 0));have e0:=HS.out.at 0 _ rfl;have e1:=HS.out.at 1 _ rfl;have e2:=HS.out.at 2 _ rfl;have e3:=HS.out.at 3 _ rfl;exact bodyPost_ret (v:= .tuple #[Gu 3 k r 0,.bool true]) (by simp [results,Tryz.results93,go_sem,Gu,e0,e1,e2,e3]) rfl ⟨rfl,bQ w _ HB1.out _ _ _ _⟩
inductive Kj:Bs→Int→Int→Prop
 |name (x:Bs) (hx:Au x=true) (hk:Ia x=false) (c:UInt8) (t:Bs) (hc:x=c::t) (hl:Ck c=true) (ha:∀c,c∈x→c.toNat<128∧Ki (c.toNat:Nat)=true):Kj x 1 0
 |word (x:Bs) (hk:Ia x=true) (c:UInt8) (t:Bs) (hc:x=c::t) (hl:Ck c=true) (ha:∀c,c∈x→c.toNat<128∧Ki (c.toNat:Nat)=true):Kj x 2 0
 |num (u:Nat) (hu:(Zi u).length≤19) (hi:u≤9223372036854775807) (c:UInt8) (t:Bs) (hc:Zi u=c::t) (hd:Db c=true):Kj (Zi u) 3 u
 |quote (r:Nat) (x:Bs) (hr1:32≤r) (hr2:r≠39) (hr3:r≠92) (hr4:r≠65533) (hr5:r≤1114111) (hx:x.length≤4) (hd:∀rest,Lib.decodeGo (Aa (x++39::rest))=(r,x.length)):Kj (39::(x++[39])) 3 r
 |sign (x:Bs) (hs:Ld x=true) (c:UInt8) (t:Bs) (hc:x=c::t) (h7:c.toNat<128) (hn:Ck c=false∧Db c=false∧c≠39):Kj x 4 0
theorem Ir {c:UInt8}(h:Ck c=true):c.toNat<128:=by
 simp [Ck,UInt8.le_iff_toNat_le]at h
 by_cases e:c=95
 ·rw[e];decide
 ·simp only[e,false_or,or_false]at h
  omega
theorem Oe {c:UInt8}(h:Db c=true):c.toNat<128:=by
 simp [Db,UInt8.le_iff_toNat_le]at h;omega
theorem lX {x:Bs}{k n:Int}(h:Kj x k n)(b:UInt8)(r:Bs)(hb:Fc b=true)(hz:(x++b::r).length≤1000000)(w:World)(hl:Iy w):
  Calls Zh 41 #[.string (Aa (x++b::r))] w fun e w'=>e= .returned (.tuple #[Gu k x n 0,.bool true])∧Below w.heap.size w w':=by
 have hbl:=Pp hb;have hbc:b=32∨b=9∨b=10∨b=13:=by
  simp only[Fc,Bool.or_eq_true,beq_iff_eq]at hb;rcases hb with((h|h)|h)|h<;>simp [h]
 have hw:Hr Ki (b::r):= .inr ⟨b,r,rfl,hbl.1,by rcases hbc with rfl|rfl|rfl|rfl<;>decide⟩;have hd:Hr Fh (b::r):= .inr ⟨b,r,rfl,hbl.1,by rcases hbc with rfl|rfl|rfl|rfl<;>decide⟩
 cases h with
 |name x hx hk c t hc hll ha=>
  have hT:=fun w1 (_:Below w.heap.size w w1)=>Xk x (b::r) ha hw hk hx w1
  rw[hc]at hT ⊢;exact Mi c (t++b::r) hll (Ir hll) 1 (c::t) 0 w hT
 |word x hk c t hc hll ha=>
  have hT:=fun w1 (_:Below w.heap.size w w1)=>Yd x (b::r) ha hw hk w1
  rw[hc]at hT ⊢;exact Mi c (t++b::r) hll (Ir hll) 2 (c::t) 0 w hT
 |num u hu hi c t hc hdd=>
  have hT:=fun w1 (hb1:Below w.heap.size w w1)=>Sv u (b::r) hu hi hd w1 (hl.old hb1).lt (hl.old hb1).pow
  rw[hc]at hT ⊢;exact Qj c (t++b::r) hdd (Oe hdd) 3 (c::t) u w hT
 |quote q y hr1 hr2 hr3 hr4 hr5 hx hdq=>
  have e:39::(y++[39])++b::r=39::(y++39::(b::r)):=by simp
  rw[e]at hz ⊢;exact dQ 39 (y++39::(b::r)) rfl (by decide) 3 (39::(y++[39])) q w (fun w1 hb1=>gR q y (b::r) hr1 hr2 hr3 hr4 hr5 hx (hdq _) hz w1 (hl.old hb1))
 |sign x hs c t hc h7 hn=>
  have hT:=fun w1 (_:Below w.heap.size w w1)=>Sg x (b::r) hs (fun _=>⟨b,r,rfl,by rcases hbc with rfl|rfl|rfl|rfl<;>decide,by rcases hbc with rfl|rfl|rfl|rfl<;>decide,by rcases hbc with rfl|rfl|rfl|rfl<;>decide⟩) w1
  rw[hc]at hT ⊢;exact Mr c (t++b::r) hn h7 4 (c::t) 0 w hT
structure It where
 x:Bs
 k:Int
 n:Int
 b:Bs
 l:List (Bs ×Bs)
def It.gap(i:It):Bs:=Ag i.b i.l
structure ItOk (i:It):Prop where
 tok:Kj i.x i.k i.n
 gap:Mg i.b i.l
 head:∃c t,i.b=c::t
def Cs(l:List It):Bs:=l.flatMap (fun i=>i.x++i.gap)
def Ms(line:Nat):List It→List Tk
 |[]=>[]
 |i::l=>⟨i.k,i.x,i.n,line⟩::Ms (line+Bv i.gap) l
theorem Nq(i:It)(l:List It):Cs (i::l)=i.x++(i.gap++Cs l):=by
 unfold Cs;simp
theorem Ub(line:Nat)(l:List It):(Ms line l).length=l.length:=by
 induction l generalizing line with
 |nil=>rfl
 |cons i l ih=>simp [Ms,ih]
theorem ItOk.blank {i:It}(h:ItOk i)(r:Bs):∃c t,i.gap++r=c::t∧Fc c=true:=by
 obtain⟨c,t,e⟩:=h.head;refine⟨c,t++(i.l.flatMap (fun p=>p.1++p.2)++r),?_,h.gap.blank c (by rw[e];exact Zb)⟩;unfold It.gap Ag;rw[e];simp
theorem nV(c:UInt8)(h:c.toNat≠32∧c.toNat≠9∧c.toNat≠10∧c.toNat≠13):Iz (c.toNat:Nat)=false:=by
 obtain⟨h1,h2,h3,h4⟩:=h;unfold Iz;have g1:((c.toNat:Int)==32)=false:=by rw[beq_eq_false_iff_ne];omega
 have g2:((c.toNat:Int)==9)=false:=by rw[beq_eq_false_iff_ne];omega
 have g3:((c.toNat:Int)==10)=false:=by rw[beq_eq_false_iff_ne];omega
 have g4:((c.toNat:Int)==13)=false:=by rw[beq_eq_false_iff_ne];omega
 simp [g1,g2,g3,g4]
 try omega
theorem Rr {c:UInt8}(h:Ck c=true):65≤c.toNat:=by
 simp [Ck,UInt8.le_iff_toNat_le]at h
 by_cases e:c=95
 ·rw[e];decide
 ·simp only[e,false_or,or_false]at h
  omega
theorem dB {c:UInt8}(h:Db c=true):48≤c.toNat:=by
 simp [Db,UInt8.le_iff_toNat_le]at h;omega
theorem Qo {c:UInt8}{t:Bs}(h7:c.toNat<128)(h:c.toNat≠32∧c.toNat≠9∧c.toNat≠10∧c.toNat≠13):Hr Iz (c::t):= .inr ⟨c,t,rfl,h7,nV c h⟩
theorem Kj.ends {x:Bs}{k n:Int}(h:Kj x k n)(r:Bs):Hr Iz (x++r):=by
 cases h with
 |name x hx hk c t hc hl ha=>rw[hc];have:=Rr hl;exact Qo (Ir hl) (by omega)
 |word x hk c t hc hl ha=>rw[hc];have:=Rr hl;exact Qo (Ir hl) (by omega)
 |num u hu hi c t hc hd=>rw[hc];have:=dB hd;exact Qo (Oe hd) (by omega)
 |quote q y=>exact Qo (c:=39) (t:=y++[39]++r) (by decide) (by decide)
 |sign x hs c t hc h7 hn=>
  rcases Hg hs with rfl|rfl|rfl|rfl|rfl|rfl|rfl|rfl|rfl|rfl|rfl|rfl|rfl|rfl|rfl|rfl|rfl|rfl|rfl|rfl|rfl|rfl|rfl|rfl|rfl|rfl|rfl<;>(rw[Zc];exact Qo (by decide) (by decide))
theorem Kj.noComment {x:Bs}{k n:Int}(h:Kj x k n)(b:UInt8)(hb:Fc b=true)(r:Bs):Zf (x++b::r) [47,47]=false:=by
 have hne:b≠47:=by rintro rfl;simp [Fc]at hb
 have key:∀(c:UInt8) (t:Bs),c≠47→Zf (c::t) [47,47]=false:=fun c t hc=>by
  have h1:((47:UInt8)==c)=false:=by rw[beq_eq_false_iff_ne];exact fun e=>hc e.symm
  show([47,47]:List UInt8).isPrefixOf (c::t)=false
  rw[Zn,h1];rfl
 have key2:∀(t:Bs),Zf (47::b::t) [47,47]=false:=fun t=>by
  have h1:((47:UInt8)==b)=false:=by rw[beq_eq_false_iff_ne];exact fun e=>hne e.symm
  show([47,47]:List UInt8).isPrefixOf (47::b::t)=false
  rw[Zn,Zn,h1];rfl
 cases h with
 |name x hx hk c t hc hl ha=>rw[hc,Zc];exact key _ _ (by rintro rfl;simp [Ck]at hl)
 |word x hk c t hc hl ha=>rw[hc,Zc];exact key _ _ (by rintro rfl;simp [Ck]at hl)
 |num u hu hi c t hc hd=>rw[hc,Zc];exact key _ _ (by rintro rfl;simp [Db]at hd)
 |quote q y=>exact key 39 (y++[39]++b::r) (by decide)
 |sign x hs c t hc h7 hn=>
  rcases Hg hs with rfl|rfl|rfl|rfl|rfl|rfl|rfl|rfl|rfl|rfl|rfl|rfl|rfl|rfl|rfl|rfl|rfl|rfl|rfl|rfl|rfl|rfl|rfl|rfl|rfl|rfl|rfl<;>first|(rw[Zc];exact key _ _ (by decide))|exact key2 r
theorem Mb {w w':World}{base size n:Nat}{e:TypeId}{v:Value}{xs:List Value}(h:w.ownsRow base e size v n xs)(hb:Below w.heap.size w w'):w'.ownsRow base e size v n xs:=by
 refine⟨h.1,?_⟩;rcases h.2 with hn|⟨g,cap,cur,rfl,hg,hh,r⟩
 ·exact .inl hn
 ·refine .inr ⟨g,cap,cur,rfl,hg,?_,r⟩
  rw[hb.block g (by
   rcases Nat.lt_or_ge g w.heap.size with h'|h'
   ·exact h'
   ·simp [Array.getElem?_eq_none h']at hh)]
  exact hh
theorem Nr {w:World}{base size n:Nat}{e:TypeId}{v:Value}{xs:List Value}(h:w.ownsRow base e size v n xs){k:Nat}(hk:v.ownBlock≠some k)(i:Nat)(x:Value):(w.setCell ⟨k,i,none⟩ x).ownsRow base e size v n xs:=by
 refine⟨h.1,?_⟩;rcases h.2 with hn|⟨g,cap,cur,rfl,hg,hh,r⟩
 ·exact .inl hn
 ·refine .inr ⟨g,cap,cur,rfl,hg,?_,r⟩
  rw[Below.heap_setCell _ _ _ _ (by rintro rfl;exact hk rfl)];exact hh
theorem zrow_at {w:World}{base size n g:Nat}{e:TypeId}{cap:Nat}{xs:List Value}(h:w.ownsRow base e size (.slice (some ⟨g,0,none⟩) n cap) n xs)(j:Nat)(u:Value)(hu:xs[j]? =some u):w.cell? ⟨g,j,none⟩=some u:=by
 have h1:=h.cells (g:=g) rfl j u hu;have h2:(⟨g,0,none⟩:Addr).add j=⟨g,j,none⟩:=by unfold Addr.add;split<;>simp_all
 rwa[h2]at h1
theorem gM {w:World}{base size n:Nat}{e:TypeId}{v:Value}{xs:List Value}(h:w.ownsRow base e size v n xs):(v= .slice none 0 0∧n=0)∨∃g cap,v= .slice (some ⟨g,0,none⟩) n cap:=by
 rcases h.2 with h'|⟨g,cap,cur,rfl,_⟩
 ·exact .inl h'
 ·exact .inr ⟨g,cap,rfl⟩
theorem gA {w:World}{base size n:Nat}{e:TypeId}{v:Value}{xs:List Value}(h:w.ownsRow base e size v n xs):∃a cap,v= .slice a n cap:=by
 rcases gM h with⟨rfl,rfl⟩|⟨g,cap,rfl⟩
 ·exact⟨none,0,rfl⟩
 ·exact⟨_,_,rfl⟩
theorem Su {B:Nat}{a w w':World}(h:Below B a w){row:Option Nat}(hg:w.grownBy w' row)(hr:∀k,row=some k→B≤k)(hB:B≤w.heap.size):Below B a w':=
 ⟨hg.os.trans h.os,hg.tape.trans h.tape,hg.output.trans h.output,Nat.le_trans h.size hg.size,fun k hk=>(hg.block k (Nat.lt_of_lt_of_le hk hB) (fun e=>by have:=hr k e.symm;omega)).trans (h.block k hk)⟩
theorem Gq {B:Nat}{a w:World}(h:Below B a w){k:Nat}(hk:B≤k)(i:Nat)(v:Value):Below B a (w.setCell ⟨k,i,none⟩ v):=h.setCell (p:=⟨k,i,none⟩) hk v
theorem Ae.grow {w w':World}{b:Nat}{cs:List Value}{T:TypeId}(h:Ae w b cs T){row:Option Nat}(hg:w.grownBy w' row)(hr:row≠some b):Ae w' b cs T:=(hg.block b h.lt (fun e=>hr e.symm)).trans h
theorem Ae.news {w:World}{b:Nat}{cs:List Value}{T:TypeId}(h:Ae w b cs T):∀j u,cs[j]? =some u→w.cell? ((⟨b,0,none⟩:Addr).add j)=some u:=by
 intro j u hu;have h2:(⟨b,0,none⟩:Addr).add j=⟨b,j,none⟩:=by unfold Addr.add;split<;>simp_all
 rw[h2];exact h.at j u hu
theorem We {α:Type}(f:α→List Value)(k:Nat)(hf:∀x,(f x).length=k):∀(l:List α) (i q:Nat) (p:α),l[i]? =some p→q<k→(l.flatMap f)[i*k+q]? =(f p)[q]?
 |[],i,q,p,h,_=>by simp at h
 |x::l,0,q,p,h,hq=>by
  simp at h;subst h;rw[Zk,List.getElem?_append_left (by rw[hf];omega)];simp
 |x::l,i+1,q,p,h,hq=>by
  simp at h;have:=We f k hf l i q p h hq;rw[Zk,List.getElem?_append_right (by rw[hf,Nat.add_mul];omega),←this];congr 1;rw[hf,Nat.add_mul];omega
def jE(w:World)(l:List Int)(v:Value):Prop:=
 ∃a cap b off,v= .slice a l.length cap∧(l.length=0∨a=some ⟨b,off,none⟩)∧l.length≤9223372036854775807∧
  ∀i,i<l.length→w.cell? ⟨b,off+i,none⟩=some (.int .i64 (l.getD i 0))∧I64 (l.getD i 0)
theorem jE.old {w w':World}{l:List Int}{v:Value}(h:jE w l v)(hb:Below w.heap.size w w'):jE w' l v:=by
 obtain⟨a,cap,b,off,h1,h2,h3,h4⟩:=h;exact⟨a,cap,b,off,h1,h2,h3,fun i hi=>⟨Ad hb (h4 i hi).1,(h4 i hi).2⟩⟩
theorem jE.slice {w:World}{l:List Int}{v:Value}(h:jE w l v):∃a cap,v= .slice a l.length cap:=by
 obtain⟨a,cap,b,off,h1,_⟩:=h;exact⟨a,cap,h1⟩
theorem jE.at {w:World}{l:List Int}{a:Option Addr}{n cap:Nat}(h:jE w l (.slice a n cap))(i:Nat)(hi:i<l.length):∃b off,a=some ⟨b,off,none⟩∧b<w.heap.size∧w.cell? ⟨b,off+i,none⟩=some (.int .i64 (l.getD i 0))∧I64 (l.getD i 0):=by
 obtain⟨a',cap',b,off,h1,h2,h3,h4⟩:=h
 cases h1
 rcases h2 with h2|h2
 ·omega
 ·exact⟨b,off,h2,World.block_lt_of_cell? _ _ (h4 i hi).1,(h4 i hi).1,(h4 i hi).2⟩
def Vv(w:World)(l:List (Int ×Int))(v:Value):Prop:=
 ∃a cap b off,v= .slice a l.length cap∧(l.length=0∨a=some ⟨b,off,none⟩)∧l.length≤9223372036854775807∧
  ∀i,i<l.length→w.cell? ⟨b,off+i*2,none⟩=some (.int .i64 (l.getD i (0,0)).1)∧w.cell? ⟨b,off+i*2+1,none⟩=some (.int .i64 (l.getD i (0,0)).2)∧I64 (l.getD i (0,0)).1∧I64 (l.getD i (0,0)).2
theorem Vv.old {w w':World}{l:List (Int ×Int)}{v:Value}(h:Vv w l v)(hb:Below w.heap.size w w'):Vv w' l v:=by
 obtain⟨a,cap,b,off,h1,h2,h3,h4⟩:=h;exact⟨a,cap,b,off,h1,h2,h3,fun i hi=>⟨Ad hb (h4 i hi).1,Ad hb (h4 i hi).2.1,(h4 i hi).2.2⟩⟩
theorem Vv.slice {w:World}{l:List (Int ×Int)}{v:Value}(h:Vv w l v):∃a cap,v= .slice a l.length cap:=by
 obtain⟨a,cap,b,off,h1,_⟩:=h;exact⟨a,cap,h1⟩
theorem Vv.at {w:World}{l:List (Int ×Int)}{a:Option Addr}{n cap:Nat}(h:Vv w l (.slice a n cap))(i:Nat)(hi:i<l.length):∃b off,a=some ⟨b,off,none⟩∧b<w.heap.size∧w.cell? ⟨b,off+i*2,none⟩=some (.int .i64 (l.getD i (0,0)).1)∧w.cell? ⟨b,off+i*2+1,none⟩=some (.int .i64 (l.getD i (0,0)).2)∧I64 (l.getD i (0,0)).1∧I64 (l.getD i (0,0)).2:=by
 obtain⟨a',cap',b,off,h1,h2,h3,h4⟩:=h
 cases h1
 rcases h2 with h2|h2
 ·omega
 ·exact⟨b,off,h2,World.block_lt_of_cell? _ _ (h4 i hi).1,h4 i hi⟩
structure rL (x:Bs)(k n:Int)(rest:Bs):Prop where
 ends:Hr Iz (x++rest)
 nocomm:Zf (x++rest) [47,47]=false
 ne:x≠[]
 call:∀w,(x++rest).length≤1000000→Iy w→Calls Zh 41 #[.string (Aa (x++rest))] w fun e w'=>e= .returned (.tuple #[Gu k x n 0,.bool true])∧Below w.heap.size w w'
theorem Kj.ne {x:Bs}{k n:Int}(h:Kj x k n):x≠[]:=by
 cases h with
 |name x hx hk c t hc hl ha=>rw[hc];exact Zp _ _
 |word x hk c t hc hl ha=>rw[hc];exact Zp _ _
 |num u hu hi c t hc hd=>rw[hc];exact Zp _ _
 |quote q y=>exact Zp _ _
 |sign x hs c t hc h7 hn=>rw[hc];exact Zp _ _
theorem Kj.at {x:Bs}{k n:Int}(h:Kj x k n)(b:UInt8)(r:Bs)(hb:Fc b=true):rL x k n (b::r):=
 ⟨h.ends _,h.noComment b hb r,h.ne,fun w hz hl=>lX h b r hb hz w hl⟩
def Lt(z:Bs):List It→Prop
 |[]=>True
 |i::l=>rL i.x i.k i.n (i.gap++(Cs l++z))∧Mg i.b i.l∧Lt z l
theorem Lt.of(z:Bs):∀(l:List It),(∀i,i∈l→ItOk i)→Lt z l
 |[],_=>trivial
 |i::l,h=>by
  have hi:=h i Zb;obtain⟨c,t,e,hc⟩:=hi.blank (Cs l++z);refine⟨?_,hi.gap,Lt.of z l (fun j hj=>h j (Zg _ hj))⟩;rw[e];exact hi.tok.at c t hc
def iQ(line:Nat):List It→Nat
 |[]=>line
 |i::l=>iQ (line+Bv i.gap) l
structure gH (ok:Bool)(z:Bs):Prop where
 ends:Hr Iz z
 nocomm:Zf z [47,47]=false
 nil:ok=true→z=[]
 bad:ok=false→z≠[]∧∀w,Iy w→Calls Zh 41 #[.string (Aa z)] w fun e w'=>e= .returned (.tuple #[Gu 0 [] 0 0,.bool false])∧Below w.heap.size w w'
theorem Lt.front {ok:Bool}{z:Bs}(hz:gH ok z){l:List It}(h:Lt z l):Hr Iz (Cs l++z)∧Zf (Cs l++z) [47,47]=false:=by
 cases l with
 |nil=>exact⟨hz.ends,hz.nocomm⟩
 |cons i l=>
  have e:Cs (i::l)++z=i.x++(i.gap++(Cs l++z)):=by rw[Nq];simp
  rw[e];exact⟨h.1.ends,h.1.nocomm⟩
def qX(ok:Bool)(w:World)(L:List Tk)(line:Nat)(e:Ending)(w':World):Prop:=
 Below w.heap.size w w'∧(if ok=true then ∃v,e= .returned (.tuple #[v,.int .i64 0,.int .i64 0])∧Gn w' w.heap.size (L++[⟨5,[],0,line⟩]) v else e= .returned (.tuple #[.slice none 0 0,.int .i64 20,.int .i64 line]))
theorem rO(l:Bs):Bv l≤l.length:=List.count_le_length
theorem pF(ok:Bool)(z:Bs)(hz:gH ok z)(b0:Bs)(l0:List (Bs ×Bs))(hg:Mg b0 l0)(li0:List It)(hi:Lt z li0)(hlen:(Ag b0 l0++(Cs li0++z)).length≤20000)(w:World)(hl:Iy w):
  Calls Zh 20 #[.string (Aa (Ag b0 l0++(Cs li0++z)))] w (qX ok w (Ms (1+Bv (Ag b0 l0)) li0) (iQ (1+Bv (Ag b0 l0)) li0)):=by
 obtain⟨ALL,hall⟩:∃A,Ms (1+Bv (Ag b0 l0)) li0=A:=⟨_,rfl⟩;obtain⟨END,hend⟩:∃A,iQ (1+Bv (Ag b0 l0)) li0=A:=⟨_,rfl⟩;rw[hall,hend];obtain⟨q,hq⟩:∃q,Ag b0 l0++(Cs li0++z)=q:=⟨_,rfl⟩;rw[hq]at hlen ⊢;have HQ:=Za hq;have HZ:=Za hz;have HG:=Za hg;have HI:=Za hi;have HL:=Za hl;have HALL:=Za hall;have HEND:=Za hend;have hlenI:(q.length:Int)≤20000:=by omega
 obtain⟨i0,hi0,hz0,hz1,hz2⟩:=info_parts infoTk;have HI0:=Za hi0;have HZ0:=Za hz0;have HZ1:=Za hz1;have HZ2:=Za hz2;clear hi0 hz0 hz1 hz2 hq hz hg hi hl hall hend;go_enter Tryz.func20,Tryz.ntmps20
 go_wp2_with fail
 go_loopw [0,2,5] (fun s0 s2 s5 wr=> ∃(b1:Bs) (l1:List (Bs ×Bs)) (n:Nat) (li:List It) (done:List Tk) (q1:Bs),s0= .string (Aa q1)∧s5= .int .i64 n∧q1=Ag b1 l1++(Cs li++z)∧Gn wr w.heap.size done s2∧Mg b1 l1∧Lt z li∧done++Ms (n+Bv (Ag b1 l1)) li=ALL∧iQ (n+Bv (Ag b1 l1)) li=END∧done.length+q1.length≤20000∧n+q1.length≤20001∧Below w.heap.size w wr) (fun s0 _ _ _=>match s0 with| .string s=>s.size|_=>0)
 case atStart=>exact⟨b0,l0,1,li0,[],q,rfl,rfl,HQ.out.symm,Gn.zero _ _,HG.out,HI.out,HALL.out,HEND.out,by simpa using hlen,by omega,Below.refl _ _⟩
 case round=>
  obtain⟨b1,l1,n,li,done,q1,rfl,rfl,hq1,hown,hg1,hi1,hall,hend,hdl,hnl,hb⟩:=hrel;obtain⟨oa,oc,rfl⟩:=gA hown;have HL1:=Za (HL.out.old hb);have HB:=Za hb;obtain⟨f1,f2⟩:=hi1.front HZ.out;have HSK:Hid (∀w1,Iy w1→Calls Zh 40 #[.string (Aa q1)] w1 fun e w'=>e= .returned (.tuple #[.string (Aa (Cs li++z)),.int .i64 (Bv (Ag b1 l1)),.bool true])∧Below w1.heap.size w1 w'):=by
   intro w1 h1;rw[hq1];exact pB b1 l1 (Cs li++z) hg1 f1 f2 (by rw[←hq1];omega) w1 h1
  have hfe:Bv (Ag b1 l1)+(Cs li++z).length≤q1.length:=by
   have:=rO (Ag b1 l1);have e:=congrArg List.length hq1;rw[Ze]at e;omega
  have HOWN:=Za hown;have HOB:Hid (∀k,(Value.slice oa done.length oc).ownBlock=some k→w.heap.size≤k∧k<wr.heap.size):=fun k e=>hown.ge e
  clear f1 f2 hq1 hown hg1 hb;obtain⟨F,hF⟩:∃F,Bv (Ag b1 l1)=F:=⟨_,rfl⟩;rw[hF]at HSK hfe hall hend;clear hF;have nI:(n:Int)+(F:Int)≤1000000:=by omega
  have nJ:(0:Int)≤(n:Int)+(F:Int):=by omega
  have hN:(n:Int)+(F:Int)=((n+F:Nat):Int):=by omega
  have HN:=Za hN;clear hN
  cases li with
  |nil=>
   have er:Cs []++z=z:=by simp [Cs]
   rw[er]at HSK hfe;clear er;have hall':done=ALL:=by rw[←hall];simp [Ms]
   have hend':n+F=END:=hend;have HA:=Za hall';have HE:=Za hend';have hbad:=HZ.out.bad;have hnil:=HZ.out.nil;clear hall hend hall' hend' hi1
   cases ok with
   |true=>
    have hz0:=hnil rfl;subst hz0;clear hbad hnil;go_wp2_with fail
    refine(HSK.out _ HL1.out).mono ?_;rintro e w1 ⟨rfl,hb1⟩;have HB1:=Za (HB.out.trans (hb1.mono HB.out.size));have HOWN1:=Za (Mb HOWN.out hb1);have hsz1:=hb1.size;have hbA:Below w1.heap.size w1 (w1.alloc (.cells #[.int .i64 5,.string ⟨#[]⟩,.int .i64 0,.int .i64 ((n:Int)+(F:Int))] 50)):=bA;have HOWN2:=Za (Mb HOWN1.out hbA);have HB2:=Za (HB1.out.trans (hbA.mono HB1.out.size));have HNEW:=Za (Ae.new w1 [.int .i64 5,.string ⟨#[]⟩,.int .i64 0,.int .i64 ((n:Int)+(F:Int))] 50);clear hb1 hbA;go_wp2_with (at_builtin;(refine wpList_append_lies (P:=Zh) _ rfl _ _ 46 rfl w.heap.size 50 i0 _ 4 40 Tryz.underlying46 HI0.out HZ0.out HZ1.out HZ2.out rfl (by decide) (.slice oa done.length oc) done.length (done.flatMap Gd) rfl HOWN2.out ⟨w1.heap.size,0,none⟩ 1 1 (Gd ⟨5,[],0,(n:Int)+(F:Int)⟩) rfl rfl HNEW.out.news (Sy _) (by decide) (by unfold maxLen;omega) (by omega) (by have:=HB2.out.size;exact this) _ rfl ?_;intro g cap w11 hown hgrow hat hlt11;have HB11:=Za (Su HB2.out hgrow (fun k e=>(HOB.out k e).1) HB2.out.size);have HS:=Za (Gn.snoc ⟨5,[],0,(n:Int)+(F:Int)⟩ hown);clear hown hgrow hat))
    go_ret3
    refine⟨HB11.out,?_⟩;rw[if_pos rfl];refine⟨_,rfl,?_⟩;have hs:=HS.out;rw[HN.out,HE.out]at hs;rw[HA.out]at hs;rw[←HA.out]at hs ⊢;exact hs
   |false=>
    obtain⟨hz0,hbc⟩:=hbad rfl;have hze:z.isEmpty=false:=by simpa using hz0
    have HBC:=Za hbc;clear hbad hnil hz0 hbc;go_wp2_with fail
    refine(HSK.out _ HL1.out).mono ?_;rintro e w1 ⟨rfl,hb1⟩;have HB1:=Za (HB.out.trans (hb1.mono HB.out.size));have HL2:=Za (HL1.out.old hb1);have HO:=Za (Ae.new w1 [.int .i64 0,.string ⟨#[]⟩,.int .i64 0,.int .i64 0] 50);have hbA:Below w1.heap.size w1 (w1.alloc (.cells #[.int .i64 0,.string ⟨#[]⟩,.int .i64 0,.int .i64 0] 50)):=bA;have HL3:=Za (HL2.out.old hbA);have HB2:=Za (HB1.out.trans (hbA.mono HB1.out.size));have hge:w.heap.size≤w1.heap.size:=HB1.out.size;clear hb1 hbA;go_wp2_with fail
    refine(HBC.out _ HL3.out).mono ?_;rintro e w3 ⟨rfl,hb3⟩;unfold Gu;have HO3:=Za (HO.out.old hb3);have HB3:=Za (HB2.out.trans (hb3.mono HB2.out.size));clear hb3;have q0:=HO3.out.at 0 _ rfl;have f0:=HO3.out.fz 0;have q1:=HO3.out.at 1 _ rfl;have f1:=HO3.out.fz 1;have q2:=HO3.out.at 2 _ rfl;have f2:=HO3.out.fz 2;have q3:=HO3.out.at 3 _ rfl;have f3:=HO3.out.fz 3;have ql:=HO3.out.lt;go_wp2_with fail
    go_ret3
    refine⟨Gq (Gq (Gq (Gq HB3.out hge _ _) hge _ _) hge _ _) hge _ _,?_⟩;rw[if_neg (by decide),HN.out,HE.out];rfl
  |cons i l=>
   obtain⟨htk,hgi,hil⟩:=hi1;have hr:Cs (i::l)++z=i.x++(i.gap++(Cs l++z)):=by rw[Nq];simp
   rw[hr]at HSK hfe;clear hr;have hall':(done++[⟨i.k,i.x,i.n,((n+F:Nat):Int)⟩])++Ms (n+F+Bv (Ag i.b i.l)) l=ALL:=by rw[←hall];simp [Ms,It.gap]
   have hend':iQ (n+F+Bv (Ag i.b i.l)) l=END:=hend;have HA:=Za hall';have HE:=Za hend';have HGI:=Za hgi;have HIL:=Za hil;have hxne:=htk.ne;have hzl:(i.x++(i.gap++(Cs l++z))).length≤1000000:=by omega
   have HTK:Hid (∀w1,Iy w1→Calls Zh 41 #[.string (Aa (i.x++(i.gap++(Cs l++z))))] w1 fun e w'=>e= .returned (.tuple #[Gu i.k i.x i.n 0,.bool true])∧Below w1.heap.size w1 w'):=fun w1 h1=>htk.call w1 hzl h1
   clear hall hend hall' hend' hgi hil htk hzl;have hxp:0<i.x.length:=List.length_pos_iff.2 hxne;obtain⟨q',hq'⟩:∃q',i.gap++(Cs l++z)=q':=⟨_,rfl⟩;have HQ':=Za hq';rw[hq']at HSK hfe HTK;clear hq' hxne;have HXD:=Za (Mf i.x q');have hrl:(i.x++q').length=i.x.length+q'.length:=Ze;have hre:(i.x++q').isEmpty=false:=by
    cases hx:i.x with
    |nil=>rw[hx]at hxp;simp at hxp
    |cons c t=>rfl
   obtain⟨r,hr⟩:∃r,i.x++q'=r:=⟨_,rfl⟩;rw[hr]at HSK hfe HTK HXD hrl hre;clear hr;obtain⟨xx,hxx⟩:∃xx,i.x=xx:=⟨_,rfl⟩;rw[hxx]at HXD hrl hxp HTK HA;obtain⟨kk,hkk⟩:∃kk,i.k=kk:=⟨_,rfl⟩;obtain⟨nn,hnn⟩:∃nn,i.n=nn:=⟨_,rfl⟩;rw[hkk,hnn]at HTK HA;clear hxx hkk hnn;have hx1:(xx.length:Int)≤(r.length:Int):=by omega
   have hx2:xx.length≤r.length:=by omega
   go_wp2_with fail
   refine(HSK.out _ HL1.out).mono ?_;rintro e w1 ⟨rfl,hb1⟩;have HB1:=Za (HB.out.trans (hb1.mono HB.out.size));have HL2:=Za (HL1.out.old hb1);have HOWN1:=Za (Mb HOWN.out hb1);have hsz1:=hb1.size;have HO:=Za (Ae.new w1 [.int .i64 0,.string ⟨#[]⟩,.int .i64 0,.int .i64 0] 50);have hbA:Below w1.heap.size w1 (w1.alloc (.cells #[.int .i64 0,.string ⟨#[]⟩,.int .i64 0,.int .i64 0] 50)):=bA;have HL3:=Za (HL2.out.old hbA);have HB2:=Za (HB1.out.trans (hbA.mono HB1.out.size));have HOWN2:=Za (Mb HOWN1.out hbA);have hge:w.heap.size≤w1.heap.size:=HB1.out.size;clear hb1 hbA;go_wp2_with fail
   refine(HTK.out _ HL3.out).mono ?_;rintro e w3 ⟨rfl,hb3⟩;unfold Gu;have HO3:=Za (HO.out.old hb3);have HB3:=Za (HB2.out.trans (hb3.mono HB2.out.size));have HOWN3:=Za (Mb HOWN2.out hb3);clear hb3;have q0:=HO3.out.at 0 _ rfl;have f0:=HO3.out.fz 0;have q1:=HO3.out.at 1 _ rfl;have f1:=HO3.out.fz 1;have q2:=HO3.out.at 2 _ rfl;have f2:=HO3.out.fz 2;have q3:=HO3.out.at 3 _ rfl;have f3:=HO3.out.fz 3;have ql:=HO3.out.lt;go_upto_region 14 with(fail)
   have HS:=Za (((((HO3.out.set 0 (.int .i64 kk)).set 1 (.string (Aa xx))).set 2 (.int .i64 nn)).set 3 (.int .i64 0)).set 3 (.int .i64 ((n:Int)+(F:Int))));have HBS:=Za (Gq (Gq (Gq (Gq (Gq HB3.out hge 0 (.int .i64 kk)) hge 1 (.string (Aa xx))) hge 2 (.int .i64 nn)) hge 3 (.int .i64 0)) hge 3 (.int .i64 ((n:Int)+(F:Int))));have hbo:(Value.slice oa done.length oc).ownBlock≠some w1.heap.size:=fun e=>by have:=(HOB.out _ e).2;omega
   have HBO:=Za hbo;have HOS:=Za (Nr (Nr (Nr (Nr (Nr HOWN3.out hbo 0 (.int .i64 kk)) hbo 1 (.string (Aa xx))) hbo 2 (.int .i64 nn)) hbo 3 (.int .i64 0)) hbo 3 (.int .i64 ((n:Int)+(F:Int))));obtain⟨W,hW⟩:∃W,(((((w3.setCell ⟨w1.heap.size,0,none⟩ (.int .i64 kk)).setCell ⟨w1.heap.size,1,none⟩ (.string (Aa xx))).setCell ⟨w1.heap.size,2,none⟩ (.int .i64 nn)).setCell ⟨w1.heap.size,3,none⟩ (.int .i64 0)).setCell ⟨w1.heap.size,3,none⟩ (.int .i64 ((n:Int)+(F:Int))))=W:=⟨_,rfl⟩;rw[hW]at HS HBS HOS ⊢;clear hW q0 f0 q1 f1 q2 f2 q3 f3 ql hbo;have hbA:Below W.heap.size W (W.alloc (.cells #[.int .i64 kk,.string (Aa xx),.int .i64 nn,.int .i64 ((n:Int)+(F:Int))] 50)):=bA;have HS2:=Za (HS.out.old hbA);have HB5:=Za (HBS.out.trans (hbA.mono HBS.out.size));have HOWN5:=Za (Mb HOS.out hbA);have HNEW:=Za (Ae.new W [.int .i64 kk,.string (Aa xx),.int .i64 nn,.int .i64 ((n:Int)+(F:Int))] 50);have c0:=HS.out.at 0 _ rfl;have c1:=HS.out.at 1 _ rfl;have c2:=HS.out.at 2 _ rfl;have c3:=HS.out.at 3 _ rfl;have cl:=HS.out.lt;clear hbA;go_wp2_with (at_builtin;(refine wpList_append_lies (P:=Zh) _ rfl _ _ 46 rfl w.heap.size 50 i0 _ 4 40 Tryz.underlying46 HI0.out HZ0.out HZ1.out HZ2.out rfl (by decide) (.slice oa done.length oc) done.length (done.flatMap Gd) rfl HOWN5.out ⟨W.heap.size,0,none⟩ 1 1 (Gd ⟨kk,xx,nn,(n:Int)+(F:Int)⟩) rfl rfl HNEW.out.news (Sy _) (by decide) (by unfold maxLen;omega) (by omega) (by have:=HB5.out.size;exact this) _ rfl ?_;intro g cap w11 hown hgrow hat hlt11;have HB11:=Za (Su HB5.out hgrow (fun k e=>(HOB.out k e).1) HB5.out.size);have HS11:=Za (Gn.snoc ⟨kk,xx,nn,(n:Int)+(F:Int)⟩ hown);have y1:=(HS2.out.grow hgrow HBO.out).at 1 _ rfl;have yl:=(HS2.out.grow hgrow HBO.out).lt;clear hown hgrow hat))
   have hxd:=HXD.out _ hrl.symm;rw[hxd];go_roundw
   case rel=>
    refine⟨i.b,i.l,n+F,l,done++[⟨kk,xx,nn,((n+F:Nat):Int)⟩],q',rfl,by rw[←HN.out],HQ'.out.symm,?_,HGI.out,HIL.out,HA.out,HE.out,by rw[Ze,List.length_singleton];omega,by omega,HB11.out⟩;have hs:=HS11.out;rw[HN.out]at hs;exact hs
   case measure=>show q'.length<q1.length;omega
theorem lI(a:Bs)(ha:Ld a=true)(hl:a.length=1)(w:World):
  Calls Zh 94 #[.string (Aa a)] w fun e w'=>e= .returned (.tuple #[Gu 4 a 0 0,.bool true])∧Below w.heap.size w w':=by
 have hx1:(Aa a).extract 0 1=Aa a:=by
  have:=Ie a [];rw[hl,Zm]at this;exact this
 have hz1:a.length=1:=hl;have hm:min (2:Int) (a.length:Int)=1:=by omega
 have hzI:(a.length:Int)=1:=by omega
 rcases Hg ha with rfl|rfl|rfl|rfl|rfl|rfl|rfl|rfl|rfl|rfl|rfl|rfl|rfl|rfl|rfl|rfl|rfl|rfl|rfl|rfl|rfl|rfl|rfl|rfl|rfl|rfl|rfl
 iterate 6 (simp at hl)
 all_goals
  clear ha hl hz1 hzI hm;have hm:min (2:Int) 1=1:=by decide
  go_enter Tryz.func94,Tryz.ntmps94
  go_wp2_with fail
  refine wp_loop_rounds 1 ?_;rw[rounds_succ];go_wp2_with fail
  exact bodyPost_ret (v:= .tuple #[Gu 4 _ 0 0,.bool true]) (by simp [results,Tryz.results94,go_sem,Gu]) rfl ⟨rfl,bA⟩
def Lu(k:Int):Bs→Bool
 |[]=>true
 |c::_=>decide (c.toNat<128) && (if k=4 then !(c==61) && !(c==60) && !(c==62) && !(c==47)else if k=3 then !(Fh (c.toNat:Nat))else !(Ki (c.toNat:Nat)))
theorem Kj.noComm {x:Bs}{k n:Int}(h:Kj x k n){r:Bs}(hs:Lu k r=true):Zf (x++r) [47,47]=false:=by
 have key:∀(c:UInt8) (t:Bs),c≠47→Zf (c::t) [47,47]=false:=fun c t hc=>by
  have h1:((47:UInt8)==c)=false:=by rw[beq_eq_false_iff_ne];exact fun e=>hc e.symm
  show([47,47]:List UInt8).isPrefixOf (c::t)=false
  rw[Zn,h1];rfl
 cases h with
 |name x hx hk c t hc hl ha=>rw[hc,Zc];exact key _ _ (by rintro rfl;simp [Ck]at hl)
 |word x hk c t hc hl ha=>rw[hc,Zc];exact key _ _ (by rintro rfl;simp [Ck]at hl)
 |num u hu hi c t hc hd=>rw[hc,Zc];exact key _ _ (by rintro rfl;simp [Db]at hd)
 |quote q y=>exact key 39 (y++[39]++r) (by decide)
 |sign x hs' c t hc h7 hn=>
  have key2:Zf ([47]++r) [47,47]=false:=by
   cases r with
   |nil=>rfl
   |cons b r=>
    have hne:b≠47:=by rintro rfl;simp [Lu]at hs
    have h1:((47:UInt8)==b)=false:=by rw[beq_eq_false_iff_ne];exact fun e=>hne e.symm
    show([47,47]:List UInt8).isPrefixOf (47::b::r)=false
    rw[Zn,Zn,h1];rfl
  rcases Hg hs' with rfl|rfl|rfl|rfl|rfl|rfl|rfl|rfl|rfl|rfl|rfl|rfl|rfl|rfl|rfl|rfl|rfl|rfl|rfl|rfl|rfl|rfl|rfl|rfl|rfl|rfl|rfl<;>first|exact key2|(rw[Zc];exact key _ _ (by decide))
theorem dC {x:Bs}{k n:Int}(h:Kj x k n)(hq:k=3→∀r,x≠39::r){r:Bs}(hs:Lu k r=true):rL x k n r:=by
 refine⟨h.ends _,h.noComm hs,h.ne,fun w hz hl=> ?_⟩;have hw:k=1∨k=2→Hr Ki r:=by
  intro hk
  cases r with
  |nil=>exact .inl rfl
  |cons c r=>
   rcases hk with rfl|rfl<;>simp [Lu]at hs<;>exact .inr ⟨c,r,rfl,hs.1,hs.2⟩
 have hd:k=3→Hr Fh r:=by
  rintro rfl
  cases r with
  |nil=>exact .inl rfl
  |cons c r=>simp [Lu]at hs;exact .inr ⟨c,r,rfl,hs.1,hs.2⟩
 cases h with
 |name x hx hk c t hc hll ha=>
  have hT:=fun w1 (_:Below w.heap.size w w1)=>Xk x r ha (hw (.inl rfl)) hk hx w1
  rw[hc]at hT ⊢;exact Mi c (t++r) hll (Ir hll) 1 (c::t) 0 w hT
 |word x hk c t hc hll ha=>
  have hT:=fun w1 (_:Below w.heap.size w w1)=>Yd x r ha (hw (.inr rfl)) hk w1
  rw[hc]at hT ⊢;exact Mi c (t++r) hll (Ir hll) 2 (c::t) 0 w hT
 |num u hu hi c t hc hdd=>
  have hT:=fun w1 (hb1:Below w.heap.size w w1)=>Sv u r hu hi (hd rfl) w1 (hl.old hb1).lt (hl.old hb1).pow
  rw[hc]at hT ⊢;exact Qj c (t++r) hdd (Oe hdd) 3 (c::t) u w hT
 |quote q y hr1 hr2 hr3 hr4 hr5 hx hdq=>exact absurd rfl (hq rfl (y++[39]))
 |sign x hs' c t hc h7 hn=>
  cases r with
  |nil=>
   rw[Zm]at hz ⊢
   by_cases h1:x.length=1
   ·have hT:=fun w1 (_:Below w.heap.size w w1)=>lI x hs' h1 w1
    rw[hc]at hT ⊢;exact Mr c t hn h7 4 (c::t) 0 w hT
   ·have hT:=fun w1 (_:Below w.heap.size w w1)=>Sg x [] hs' (fun e=>absurd e h1) w1
    rw[Zm]at hT;rw[hc]at hT ⊢;exact Mr c t hn h7 4 (c::t) 0 w hT
  |cons b r=>
   have hT:=fun w1 (_:Below w.heap.size w w1)=>Sg x (b::r) hs' (fun _=>⟨b,r,rfl,by simp [Lu]at hs;simp [hs],by simp [Lu]at hs;simp [hs],by simp [Lu]at hs;simp [hs]⟩) w1
   rw[hc]at hT ⊢;exact Mr c (t++b::r) hn h7 4 (c::t) 0 w hT
theorem Og:Mg [] []:=⟨fun c hc=>(by cases hc),fun p hp=>(by cases hp)⟩
theorem mO:gH true []:=⟨.inl rfl,rfl,fun _=>rfl,fun h=>(by cases h)⟩
theorem Rp(t:Tk)(h:t.kind=5):∀l:List Tk,Js (l++[t])
 |[]=>h
 |[a]=>h
 |a::b::l=>Rp t h (b::l)
def Dx(line:Nat)(li:List It):List Tk:=Ms line li++[⟨5,[],0,iQ line li⟩]
theorem Vz {P:Int→Prop}:∀(l:List It) (line:Nat),(∀i,i∈l→P i.n)→∀t,t∈Ms line l→P t.num
 |[],line,h,t,ht=>by cases ht
 |i::l,line,h,t,ht=>by
  rw[Ms]at ht;rcases Zq.1 ht with rfl|ht
  ·exact h i Zb
  ·exact Vz l _ (fun j hj=>h j (Zg _ hj)) t ht
theorem Wb(b0:Bs)(l0:List (Bs ×Bs))(hg:Mg b0 l0)(li:List It)(hi:Lt [] li)(hlen:(Ag b0 l0++Cs li).length≤20000)(w:World)(hl:Iy w):
  Calls Zh 20 #[.string (Aa (Ag b0 l0++Cs li))] w fun e w'=>Below w.heap.size w w'∧∃v,e= .returned (.tuple #[v,.int .i64 0,.int .i64 0])∧Gn w' w.heap.size (Dx (1+Bv (Ag b0 l0)) li) v:=by
 have h:=pF true [] mO b0 l0 hg li hi (by simpa using hlen) w hl;rw[Zm]at h;refine Calls.mono h ?_;intro e w' hp;obtain⟨h1,h2⟩:=hp;rw[if_pos rfl]at h2;exact⟨h1,h2⟩
theorem Si(b0:Bs)(l0:List (Bs ×Bs))(hg:Mg b0 l0)(li:List It)(hi:Lt [] li)(hn:∀i,i∈li→I64 i.n)(hlen:(Ag b0 l0++Cs li).length≤20000)(hc:li.length≤900000)(f:Nat)(hf:4*(li.length+1)+4≤f)(w:World)(hl:Iy w):
  Calls Zh 14 #[.string (Aa (Ag b0 l0++Cs li))] w (WhP w (Ph (Wd (Ca f ⟨[],[]⟩ (Dx (1+Bv (Ag b0 l0)) li))))):=by
 have hT:(Dx (1+Bv (Ag b0 l0)) li).length=li.length+1:=by simp [Dx,Ub]
 refine topP_of _ w _ (Za fun w1 hb1=> ?_);refine mR _ (Dx (1+Bv (Ag b0 l0)) li) (Rp _ rfl _) ?_ (by omega) f (by omega) w1 (Za fun w2 hb2=>Wb b0 l0 hg li hi hlen w2 ((hl.old hb1).old hb2));intro t ht;rcases List.mem_append.1 ht with h|h
 ·exact Vz (P:=I64) li _ hn t h
 ·rw[List.mem_singleton]at h;subst h;exact Gi
theorem rR(b0:Bs)(l0:List (Bs ×Bs))(hg:Mg b0 l0)(li:List It)(hi:Lt [] li)(hn:∀i,i∈li→I64 i.n)(hlen:(Ag b0 l0++Cs li).length≤20000)(hc:li.length≤900000)(f:Nat)(hf:4*(li.length+1)+4≤f)(w:World)(hl:Iy w):
  Calls Zh 13 #[.string (Aa (Ag b0 l0++Cs li))] w (WhE w (Sa (aJ (Ba f 1 (Dx (1+Bv (Ag b0 l0)) li))))):=by
 have hT:(Dx (1+Bv (Ag b0 l0)) li).length=li.length+1:=by simp [Dx,Ub]
 refine topE_of _ w _ (Za fun w1 hb1=> ?_);refine lJ _ (Dx (1+Bv (Ag b0 l0)) li) (Rp _ rfl _) ?_ (by omega) f (by omega) w1 (Za fun w2 hb2=>Wb b0 l0 hg li hi hlen w2 ((hl.old hb1).old hb2));intro t ht;rcases List.mem_append.1 ht with h|h
 ·exact Vz (P:=I64) li _ hn t h
 ·rw[List.mem_singleton]at h;subst h;exact Gi
def Mm(x:Bs):Bool:=(match x with|c::_=>Ck c|[]=>false) && x.all (fun c=>decide (c.toNat<128) && Ki (c.toNat:Nat))
theorem Xw {x:Bs}(h:Mm x=true):∃c t,x=c::t∧Ck c=true∧∀c,c∈x→c.toNat<128∧Ki (c.toNat:Nat)=true:=by
 cases x with
 |nil=>cases h
 |cons c t=>
  unfold Mm at h;obtain⟨h1,h2⟩:=(Zl _ _).mp h;refine⟨c,t,rfl,h1,fun d hd=> ?_⟩;have:=List.all_eq_true.1 h2 d hd;simpa using this
theorem pc_name {x:Bs}(hx:Au x=true)(hk:Ia x=false)(h:Mm x=true):Kj x 1 0:=by
 obtain⟨c,t,hc,hl,ha⟩:=Xw h;exact .name x hx hk c t hc hl ha
theorem bL {x:Bs}(hk:Ia x=true)(h:Mm x=true):Kj x 2 0:=by
 obtain⟨c,t,hc,hl,ha⟩:=Xw h;exact .word x hk c t hc hl ha
theorem jW {x:Bs}(h:Ld x=true):Kj x 4 0:=by
 rcases Hg h with rfl|rfl|rfl|rfl|rfl|rfl|rfl|rfl|rfl|rfl|rfl|rfl|rfl|rfl|rfl|rfl|rfl|rfl|rfl|rfl|rfl|rfl|rfl|rfl|rfl|rfl|rfl<;>exact .sign _ h _ _ rfl (by decide) (by decide)
def pcB(i:It):Bool:=if i.k=1 then Au i.x && !Ia i.x && Mm i.x && decide (i.n=0)else if i.k=2 then Ia i.x && Mm i.x && decide (i.n=0)else if i.k=3 then decide (0≤i.n∧i.n≤9223372036854775807) && decide (i.x=Zi i.n.toNat) && decide (i.x.length≤18) && (match i.x with|c::_=>Db c|[]=>false)else decide (i.k=4) && Ld i.x && decide (i.n=0)
theorem pcB_of {i:It}(h:pcB i=true):Kj i.x i.k i.n∧(i.k=3→∀r,i.x≠39::r)∧I64 i.n:=by
 obtain⟨x,k,n,b,l⟩:=i;simp only[pcB]at h
 by_cases h1:k=1
 ·rw[if_pos h1]at h
  simp at h;obtain⟨⟨⟨g1,g2⟩,g3⟩,rfl⟩:=h;subst h1;exact⟨pc_name g1 g2 g3,fun e=>absurd (show _=_ from e) (by simp),Gi⟩
 rw[if_neg h1]at h
 by_cases h2:k=2
 ·rw[if_pos h2]at h
  simp at h;obtain⟨⟨g1,g3⟩,rfl⟩:=h;subst h2;exact⟨bL g1 g3,fun e=>absurd (show _=_ from e) (by simp),Gi⟩
 rw[if_neg h2]at h
 by_cases h3:k=3
 ·rw[if_pos h3]at h
  subst h3;simp only[Zl,decide_eq_true_eq]at h;obtain⟨⟨⟨⟨g1,g2⟩,g3⟩,g4⟩,g5⟩:=h
  cases x with
  |nil=>cases g5
  |cons c t=>
   have hu:(n.toNat:Int)=n:=by omega
   refine⟨?_,fun _ r e=> ?_,(show I64 n from⟨by omega,by omega⟩)⟩
   ·have:=Kj.num n.toNat (by rw[←g3];exact Nat.le_trans g4 (by decide)) (by omega) c t g3.symm g5
    rw[←g3,hu]at this;exact this
   ·cases e;simp [Db]at g5
 rw[if_neg h3]at h;simp at h;obtain⟨⟨rfl,g1⟩,rfl⟩:=h;exact⟨jW g1,fun e=>absurd (show _=_ from e) (by simp),Gi⟩
def nC(z:Bs):List It→Bool
 |[]=>true
 |i::l=>pcB i && i.b.all Fc && i.l.isEmpty && Lu i.k (i.gap++(Cs l++z)) && nC z l
theorem Ts(z:Bs):∀(l:List It),nC z l=true→Lt z l∧∀i,i∈l→I64 i.n
 |[],_=>⟨trivial,fun i hi=>by cases hi⟩
 |i::l,h=>by
  rw[nC]at h;simp only[Zl]at h;obtain⟨⟨⟨⟨h1,h2⟩,h3⟩,h4⟩,h5⟩:=h;obtain⟨q1,q2⟩:=Ts z l h5;obtain⟨p1,p2,p3⟩:=pcB_of h1;refine⟨⟨dC p1 p2 h4,⟨fun c hc=>List.all_eq_true.1 h2 c hc,fun p hp=> ?_⟩,q1⟩,fun j hj=> ?_⟩
  ·rw[List.isEmpty_iff.1 h3]at hp;cases hp
  ·rcases Zq.1 hj with rfl|hj
   ·exact p3
   ·exact q2 j hj
def Ff(S:Int→Bs→Bool):List Pc→Bs→Prop
 |[],_=>True
 | .g _::l,z=>Ff S l z
 | .t x::l,z=>S x.kind (Ay l++z)=true∧Ff S l z
theorem Ff.app {S:Int→Bs→Bool}:∀ {a b:List Pc} {z:Bs},Ff S a (Ay b++z)→Ff S b z→Ff S (a++b) z
 |[],b,z,_,h=>h
 | .g x::a,b,z,h1,h2=>Ff.app (a:=a) h1 h2
 | .t x::a,b,z,h1,h2=>⟨by rw[List.append_eq,As,Zd];exact h1.1,Ff.app (a:=a) h1.2 h2⟩
def bZ(c:UInt8):Bool:=c==32||c==41||c==93||c==44||c==59||c==10
def dO(c:UInt8):Bool:=Ck c||Db c||c==40||c==45||c==33||c==126
def Ug(z:Bs):Prop:=z=[]∨∃c r,z=c::r∧bZ c=true
def Nh(z:Bs):Prop:= ∃c r,z=c::r∧dO c=true
structure Mw (S:Int→Bs→Bool):Prop where
 nil:∀k,S k []=true
 soft:∀k c r,bZ c=true→S k (c::r)=true
 head:∀c r,dO c=true→S 4 (c::r)=true
 opens:∀k r,k≠3→S k (40::r)=true∧S k (91::r)=true
theorem Mw.ofSoft {S:Int→Bs→Bool}(h:Mw S){z:Bs}(hz:Ug z)(k:Int):S k z=true:=by
 rcases hz with rfl|⟨c,r,rfl,hc⟩
 ·exact h.nil k
 ·exact h.soft k c r hc
theorem Mw.ofHead {S:Int→Bs→Bool}(h:Mw S){z:Bs}(hz:Nh z):S 4 z=true:=by
 obtain⟨c,r,rfl,hc⟩:=hz;exact h.head c r hc
theorem Nh.app {a b:Bs}(h:Nh a):Nh (a++b):=by
 obtain⟨c,r,rfl,hc⟩:=h;exact⟨c,r++b,rfl,hc⟩
theorem Ga {c:UInt8}{r:Bs}(h:bZ c=true):Ug (c::r):= .inr ⟨c,r,rfl,h⟩
theorem Rq {s:Bs}(h:Au s=true):Nh s:=by
 cases s with
 |nil=>exact absurd h (by decide)
 |cons c r=>
  refine⟨c,r,rfl,?_⟩;have:Ck c=true:=by
   simp only[Au,Gv,Zl,Bool.or_eq_true,Bool.not_true,Bool.false_and,Bool.or_false]at h
   first|exact h.1.1|exact h.1.1.1|exact h.2.1|(simp at h;exact h.1)|(simp at h;exact h.1.1)|(simp at h;exact h.2.1)
  unfold dO;rw[this];rfl
def Wv:Prop:= ∀u,(∀c,c∈Zi u→Db c=true)∧Zi u≠[]
theorem eZ {n:Int}(h:0≤n)(hd:Wv):Nh (Lib.itoa n):=by
 unfold Lib.itoa;rw[if_neg (by omega)];rcases hq:Zi n.toNat with _|⟨c,r⟩
 ·exact absurd hq (hd n.toNat).2
 ·refine⟨c,r,rfl,?_⟩
  have:=(hd n.toNat).1 c (by rw[hq];exact Zb);unfold dO;rw[this];simp
theorem Nj(x:Pc)(l:List Pc):Ay (x::l)=x.text++Ay l:=rfl
theorem Wy {e:Ex}{lv:Int}(h:Nh (Ay (Cn e))):Nh (Ay (Dl e lv)):=by
 unfold Dl Hn;split
 ·exact⟨40,_,rfl,by decide⟩
 ·exact h
theorem Kb(hd:Wv){e:Ex}(h:WEx e):Nh (Ay (Cn e)):=by
 induction h with
 |num n h=>rw[Uq];exact(eZ h hd).app
 |var s h=>rw[Uo];exact(Rq h).app
 |one o x ho hx ih=>rw[Vp];rcases ho with rfl|rfl|rfl<;>exact⟨_,_,rfl,by decide⟩
 |two o x y ho hx hy ihx ihy=>rw[Vb,As];exact(Wy ihx).app
 |call s l h hl hx ih=>rw[Ml,Nj];exact(Rq h).app
 |idx s x h hx ih=>rw[Vk,Nj];exact(Rq h).app
 |read=>rw[Uw];exact⟨_,_,rfl,by decide⟩
theorem Vs {S:Int→Bs→Bool}(hS:Mw S){e:Ex}(hh:Nh (Ay (Cn e)))(h:∀z,Ug z→Ff S (Cn e) z)(lv:Int)(z:Bs)(hz:Ug z):Ff S (Dl e lv) z:=by
 unfold Dl Hn;split
 ·rw[Zd]
  refine⟨?_,?_⟩
  ·show S 4 (Ay (Cn e++[sg [41]])++z)=true
   rw[As,Zd];exact hS.ofHead hh.app
  ·show Ff S (Cn e++[sg [41]]) z
   exact Ff.app (h _ (Ga (by decide))) ⟨hS.ofSoft hz 4,trivial⟩
 ·exact h z hz
theorem cY {S:Int→Bs→Bool}(hS:Mw S)(z:Bs):∀(l:List Ex),(∀y,y∈l→∀z,Ug z→Ff S (Cn y) z)→Ff S (l.flatMap (fun y=>[sg [44],.g [32]]++Cn y)) (41::z)∧Ug (Ay (l.flatMap (fun y=>[sg [44],.g [32]]++Cn y))++41::z)
 |[],h=>⟨trivial,Ga (by decide)⟩
 |y::l,h=>by
  obtain⟨h1,h2⟩:=cY hS z l (fun x hx=>h x (Zg _ hx));rw[Zk];refine⟨?_,?_⟩
  ·refine Ff.app (a:=[sg [44],.g [32]]++Cn y) ?_ h1
   exact⟨hS.soft 4 32 _ (by decide),h y Zb _ h2⟩
  ·exact Ga (by decide)
theorem ex_sep {S:Int→Bs→Bool}(hS:Mw S)(hd:Wv){e:Ex}(h:WEx e):∀z,Ug z→Ff S (Cn e) z:=by
 induction h with
 |num n h=>intro z hz;rw[Uq];exact⟨hS.ofSoft hz 3,trivial⟩
 |var s h=>intro z hz;rw[Uo];exact⟨hS.ofSoft hz 1,trivial⟩
 |one o x ho hx ih=>
  intro z hz;rw[Vp];exact⟨hS.ofHead (Wy (Kb hd hx)).app,Vs hS (Kb hd hx) ih 9 z hz⟩
 |two o x y ho hx hy ihx ihy=>
  intro z hz;rw[Vb];refine Ff.app (Vs hS (Kb hd hx) ihx _ _ (Ga (by decide))) ?_;exact⟨hS.soft 4 32 _ (by decide),Vs hS (Kb hd hy) ihy _ z hz⟩
 |call s l h hl hx ih=>
  intro z hz;rw[Ml];have hclose:Ff S [sg [41]] z:=⟨hS.ofSoft hz 4,trivial⟩
  cases l with
  |nil=>
   exact⟨(hS.opens 1 _ (by decide)).1,hS.soft 4 41 _ (by decide),hclose⟩
  |cons x l=>
   have hx0:=hx x Zb;obtain⟨h1,h2⟩:=cY hS z l (fun y hy=>ih y (Zg _ hy));rw[Nk];refine⟨(hS.opens 1 _ (by decide)).1,?_,?_⟩
   ·rw[As,As,Zd,Zd]
    exact hS.ofHead (Kb hd hx0).app
   ·rw[Zd]
    refine Ff.app (ih x Zb _ ?_) (Ff.app h1 hclose);rw[As,Zd];exact h2
 |idx s x h hx ih=>
  intro z hz;rw[Vk];refine⟨(hS.opens 1 _ (by decide)).2,?_,Ff.app (ih _ (Ga (by decide))) ⟨hS.ofSoft hz 4,trivial⟩⟩;rw[As,Zd];exact hS.ofHead (Kb hd hx).app
 |read=>
  intro z hz;rw[Uw];exact⟨(hS.opens 2 _ (by decide)).1,hS.soft 4 41 _ (by decide),hS.ofSoft hz 4,trivial⟩
def Ct:List Pc→Bs
 | .g b::l=>b++Ct l
 |_=>[]
def Fq:List Pc→List It
 |[]=>[]
 | .g _::l=>Fq l
 | .t x::l=>⟨x.text,x.kind,x.num,Ct l,[]⟩::Fq l
theorem Nv:∀l:List Pc,Ct l++Cs (Fq l)=Ay l
 |[]=>rfl
 | .g b::l=>by
  show(b++Ct l)++Cs (Fq l)=b++Ay l
  rw[Zd,Nv l]
 | .t x::l=>by
  show []++Cs (_::Fq l)=x.text++Ay l
  rw[Nq,Zj];show x.text++(Ag (Ct l) []++Cs (Fq l))=_
  rw[show Ag (Ct l) []=Ct l by unfold Ag;simp,Nv l]
theorem aH:∀(l:List Pc) (line:Nat),(Ms line (Fq l)).map t3=Gw l
 |[],line=>rfl
 | .g b::l,line=>aH l line
 | .t x::l,line=>by
  show(⟨x.kind,x.text,x.num,line⟩:Tk)|>fun t=>t3 t::(Ms _ (Fq l)).map t3=x::Gw l
  rw[aH l];rfl
def Oc(x:T3):Prop:=Kj x.text x.kind x.num∧(x.kind=3→∀r,x.text≠39::r)∧I64 x.num
def Be(l:List Pc):Prop:= ∀p,p∈l→match p with| .t x=>Oc x| .g b=> ∀c,c∈b→Fc c=true
theorem Oz:∀(l:List Pc),Be l→∀c,c∈Ct l→Fc c=true
 |[],h,c,hc=>by cases hc
 | .t x::l,h,c,hc=>by cases hc
 | .g b::l,h,c,hc=>by
  rcases List.mem_append.1 (show c∈b++Ct l from hc)with hc|hc
  ·exact h (.g b) Zb c hc
  ·exact Oz l (fun p hp=>h p (Zg _ hp)) c hc
theorem aD(z:Bs):∀(l:List Pc),Be l→Ff Lu l z→Lt z (Fq l)∧∀i,i∈Fq l→I64 i.n
 |[],h,hs=>⟨trivial,fun i hi=>by cases hi⟩
 | .g b::l,h,hs=>aD z l (fun p hp=>h p (Zg _ hp)) hs
 | .t x::l,h,hs=>by
  have hl:Be l:=fun p hp=>h p (Zg _ hp)
  obtain⟨i1,i2⟩:=aD z l hl hs.2;obtain⟨h1,h2,h3⟩:Oc x:=h (.t x) Zb;have hg:Ag (Ct l) []=Ct l:=by unfold Ag;simp
  refine⟨⟨dC h1 h2 ?_,⟨Oz l hl,fun p hp=>by cases hp⟩,i1⟩,fun i hi=> ?_⟩
  ·show Lu x.kind (Ag (Ct l) []++(Cs (Fq l)++z))=true
   rw[hg,←Zd,Nv];exact hs.1
  ·rcases Zq.1 hi with rfl|hi
   ·exact h3
   ·exact i2 i hi
theorem Ry {c:UInt8}{r:Bs}(h7:c.toNat<128)(h:c≠61∧c≠60∧c≠62∧c≠47):Lu 4 (c::r)=true:=by
 obtain⟨h1,h2,h3,h4⟩:=h;simp [Lu,h7,h1,h2,h3,h4]
theorem sepR:Mw Lu:=by
 refine⟨fun k=>rfl,fun k c r h=> ?_,fun c r h=> ?_,fun k r h=> ?_⟩
 ·have hc:c=32∨c=41∨c=93∨c=44∨c=59∨c=10:=by simpa [bZ,or_assoc]using h
  by_cases h4:k=4
  ·subst h4;rcases hc with rfl|rfl|rfl|rfl|rfl|rfl<;>exact Ry (by decide) (by decide)
  ·by_cases h3:k=3
   ·subst h3;rcases hc with rfl|rfl|rfl|rfl|rfl|rfl<;>(unfold Lu;dsimp only;rw[if_neg (by decide),if_pos rfl];decide)
   ·unfold Lu
    rcases hc with rfl|rfl|rfl|rfl|rfl|rfl<;>(dsimp only;rw[if_neg h4,if_neg h3];decide)
 ·unfold dO at h
  by_cases hl:Ck c=true
  ·have:=Rr hl
   exact Ry (Ir hl) ⟨by rintro rfl;exact absurd this (by decide),by rintro rfl;exact absurd this (by decide),by rintro rfl;exact absurd this (by decide),by rintro rfl;exact absurd this (by decide)⟩
  ·by_cases hd:Db c=true
   ·have h1:=dB hd
    have h2:=Oe hd;exact Ry h2 ⟨by rintro rfl;exact absurd hd (by decide),by rintro rfl;exact absurd hd (by decide),by rintro rfl;exact absurd hd (by decide),by rintro rfl;exact absurd hd (by decide)⟩
   ·have hc:c=40∨c=45∨c=33∨c=126:=by simpa [hl,hd,or_assoc]using h
    rcases hc with rfl|rfl|rfl|rfl<;>exact Ry (by decide) (by decide)
 ·by_cases h4:k=4
  ·subst h4;exact⟨Ry (by decide) (by decide),Ry (by decide) (by decide)⟩
  ·refine⟨?_,?_⟩<;>(unfold Lu;dsimp only;rw[if_neg h4,if_neg h];decide)
theorem digL:Wv:=fun u=>⟨Ku u,Sk u⟩
theorem Yu(u:Nat)(h:u<10000000000000000000):Zo u≤19:=by
 by_cases h0:u<10
 ·rw[Zo,dif_pos h0];decide
 ·have step:∀(n u:Nat),(¬u<10→Zo (u / 10)≤n)→Zo u≤n+1:=fun n u h=>by
   rw[Zo];split
   ·omega
   ·rename_i hh;have:=h hh;omega
  have pw:∀(n u:Nat),u<10 ^ (n+1)→Zo u≤n+1:=by
   intro n
   induction n with
   |zero=>intro u hu;rw[Zo,dif_pos (by omega)];omega
   |succ n ih=>intro u hu;exact step (n+1) u (fun _=>ih (u / 10) (by rw[Nat.pow_succ]at hu;omega))
  exact pw 18 u (by omega)
theorem pY {n:Int}(h0:0≤n)(h1:I64 n):Oc ⟨3,Lib.itoa n,n⟩:=by
 have e:Lib.itoa n=Zi n.toNat:=by unfold Lib.itoa;rw[if_neg (by omega)]
 have hu:(n.toNat:Int)=n:=by omega
 have hb:n.toNat≤9223372036854775807:=by have:=h1.2;omega
 refine⟨?_,fun _ r hr=> ?_,h1⟩
 ·show Kj (Lib.itoa n) 3 n
  rw[e];rcases hq:Zi n.toNat with _|⟨c,t⟩
  ·exact absurd hq (Sk _)
  ·have hlen:(Zi n.toNat).length≤19:=by
    rw[Lib.decDigits_length];exact Yu _ (by omega)
   have:=Kj.num n.toNat hlen hb c t hq (Ku _ c (by rw[hq];exact Zb));rw[hu]at this;rw[←hq];exact this
 ·have hr:Lib.itoa n=39::r:=hr
  rw[e]at hr;have:=Ku n.toNat 39 (by rw[hr];exact Zb);exact absurd this (by decide)
theorem Uk:∀(f:Bool) (x:Bs),Gv f x=true→∀c,c∈x→c.toNat<128∧Ki (c.toNat:Nat)=true
 |_,[],_,c,hc=>by cases hc
 |f,d::l,h,c,hc=>by
  rw[Gv]at h;obtain⟨h1,h2⟩:=(Zl _ _).mp h;rcases Zq.1 hc with rfl|hc
  ·unfold Ki
   rw[Jp,Kz];rcases(Bool.or_eq_true _ _).mp h1 with h3|h3
   ·exact⟨Ir h3,by rw[h3];rfl⟩
   ·have h4:=((Zl _ _).mp h3).2
    exact⟨Oe h4,by rw[h4];simp⟩
  ·exact Uk false l h2 c hc
theorem Tu {s:Bs}(h:Au s=true):Oc ⟨1,s,0⟩:=by
 have h':=h;unfold Au at h';simp only[Zl]at h';obtain⟨⟨⟨h1,h2⟩,h3⟩,h4⟩:=h';refine⟨?_,fun e=>absurd (show(1:Int)=3 from e) (by decide),Gi⟩
 cases s with
 |nil=>exact absurd h1 (by decide)
 |cons c t=>
  have hl:Ck c=true:=by
   rw[Gv]at h4;have:=((Zl _ _).mp h4).1;simpa using this
  exact .name (c::t) h (by simpa using h3) c t rfl hl (Uk true _ h4)
theorem Ii {x:Bs}(h:Ld x=true):Oc ⟨4,x,0⟩:=⟨jW h,fun e=>absurd (show(4:Int)=3 from e) (by decide),Gi⟩
theorem kC {o:Int}(h:0<Am o∨o=17∨o=18∨o=19):Ld (Aq o)=true:=by
 rcases h with h|rfl|rfl|rfl
 ·obtain⟨i,rfl⟩:=Qq h
  exact(by decide:∀i:Fin 16,Ld (Aq ((i.val:Int)+1))=true) i
 ·decide
 ·decide
 ·decide
inductive N64:Ex→Prop
 |mk (k o n:Int) (nm:Bs) (args:List Ex) (h:I64 n) (ha:∀x,x∈args→N64 x):N64 (.mk k o n nm args)
theorem Be.app {a b:List Pc}(h1:Be a)(h2:Be b):Be (a++b):=fun p hp=>by
 rcases List.mem_append.1 hp with h|h
 ·exact h1 p h
 ·exact h2 p h
theorem Be.cons {p:Pc}{l:List Pc}(h1:match p with| .t x=>Oc x| .g b=> ∀c,c∈b→Fc c=true)(h2:Be l):Be (p::l):=fun q hq=>by
 rcases Zq.1 hq with rfl|h
 ·exact h1
 ·exact h2 q h
theorem Be.nil:Be []:=fun p hp=>by cases hp
theorem aS {e:Ex}{lv:Int}(h:Be (Cn e)):Be (Dl e lv):=by
 unfold Dl Hn;split
 ·exact Be.app (Be.app (Be.cons (Ii (by decide)) Be.nil) h) (Be.cons (Ii (by decide)) Be.nil)
 ·exact h
theorem Kt {e:Ex}(h:WEx e)(hn:N64 e):Be (Cn e):=by
 induction h with
 |num n h=>cases hn with|mk _ _ _ _ _ h1 ha=>rw[Uq];exact Be.cons (pY h h1) Be.nil
 |var s h=>rw[Uo];exact Be.cons (Tu h) Be.nil
 |one o x ho hx ih=>cases hn with|mk _ _ _ _ _ h1 ha=>rw[Vp];exact Be.cons (Ii (kC (.inr ho))) (aS (ih (ha x Zb)))
 |two o x y ho hx hy ihx ihy=>
  cases hn with
  |mk _ _ _ _ _ h1 ha=>
   rw[Vb];refine Be.app (aS (ihx (ha x Zb))) (Be.cons (by show ∀c,c∈[32]→_;decide) (Be.cons (Ii (kC (.inl ho))) (Be.cons (by show ∀c,c∈[32]→_;decide) (aS (ihy (ha y (by simp)))))))
 |call s l h hl hx ih=>
  cases hn with
  |mk _ _ _ _ _ h1 ha=>
   rw[Ml];refine Be.cons (Tu h) (Be.cons (Ii (by decide)) (Be.app ?_ (Be.cons (Ii (by decide)) Be.nil)));have hm:∀(l:List Ex),(∀x,x∈l→Be (Cn x))→Be (l.flatMap (fun y=>[sg [44],.g [32]]++Cn y)):=by
    intro l hl p hp;obtain⟨y,hy,hp⟩:=List.mem_flatMap.1 hp;exact Be.app (Be.cons (Ii (by decide)) (Be.cons (by show ∀c,c∈[32]→_;decide) Be.nil)) (hl y hy) p hp
   cases l with
   |nil=>exact Be.nil
   |cons x l=>
    rw[Nk];exact Be.app (ih x Zb (ha x Zb)) (hm l (fun y hy=>ih y (Zg _ hy) (ha y (Zg _ hy))))
 |idx s x h hx ih=>
  cases hn with
  |mk _ _ _ _ _ h1 ha=>rw[Vk];exact Be.cons (Tu h) (Be.cons (Ii (by decide)) (Be.app (ih (ha x Zb)) (Be.cons (Ii (by decide)) Be.nil)))
 |read=>rw[Uw];exact Be.cons ⟨bL (by decide) (by decide),fun e=>absurd (show(2:Int)=3 from e) (by decide),Gi⟩ (Be.cons (Ii (by decide)) (Be.cons (Ii (by decide)) Be.nil))
theorem Ah.n64 {D:Nat→Prop}{w:World}{l:List Ex}{v:Value}(h:Ah D w l v):∀x,x∈l→N64 x:=by
 induction h with
 |mk l a cap b off sv hcap hfit ha h0 h1 h2 h3 h4 hs hn ih=>
  intro x hx;obtain⟨i,hi,rfl⟩:=List.getElem_of_mem hx;have e:Bx l i=l[i]:=by simp [Bx,List.getElem?_eq_getElem hi]
  have h1:=ih i hi;have h2:=hn i hi;rw[e]at h1 h2;generalize l[i]=y at h1 h2;obtain⟨k,o,n,nm,args⟩:=y;exact .mk k o n nm args h2 h1
theorem rT {x:T3}(h:Oc x):x.text≠[]:=h.1.ne
theorem Tq:∀l:List Pc,Be l→(Fq l).length≤(Ay l).length
 |[],h=>Nat.le_refl _
 | .g b::l,h=>by
  have:=Tq l (fun p hp=>h p (Zg _ hp));show(Fq l).length≤(b++Ay l).length
  rw[Ze];omega
 | .t x::l,h=>by
  have:=Tq l (fun p hp=>h p (Zg _ hp));have h1:x.text≠[]:=rT (h (.t x) Zb);have h2:0<x.text.length:=List.length_pos_iff.2 h1;show(Fq l).length+1≤(x.text++Ay l).length
  rw[Ze];omega
end Go.Proofs.YtcfpfnoldgnloaaGreatDoor
