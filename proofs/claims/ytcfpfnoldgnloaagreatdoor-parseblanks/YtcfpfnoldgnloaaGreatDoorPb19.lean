/-
  The pieces of an expression may stand beside each other. Plain functions alone.
-/
import Derived.Test.YtcfpfnoldgnloaaGreatDoorPb18
import Derived.Test.YtcfpfnoldgnloaaGreatDoorPb17
set_option linter.unusedVariables false
set_option linter.unusedSimpArgs false
namespace Go.Proofs.YtcfpfnoldgnloaaGreatDoor
open Go.RowKit Go.Proofs.Tryz
set_option maxHeartbeats 20000000
set_option maxRecDepth 100000
open Go.Lib renaming hid→Za,hasPrefix→Ze,decDigits→Zf
open List renaming append_assoc→Zb,mem_cons_self→Zc,cons_append→Zd,append_nil→Zg,flatMap_cons→Zi,mem_cons_of_mem→Zj,length_append→Zk,nil_append→Zl,isPrefixOf→Zo,length_cons→Zp
open Go.Proofs.Tryz renaming prog→Zh
open Below renaming refl→Zm
open Bool renaming and_eq_true→Zn
theorem args_ev {l:List Ex}(hl:∀y,y∈l→WEx y){ts:List Tk}{u:Tk}{rest:List Tk}(h1:For ts (Ho (l.map Ck)))(hu:isP [41] u=true):Ev (fun f=>Hg f (ts++u::rest)) (.ok (l,rest)):=by
 cases l with
 |nil=>
  have:ts=[]:=h1.nil;subst this;exact fE hu
 |cons x l=>
  rw[Oq]at h1;refine aV ?_ (Qq l [] x ts rest u (fun y hy=>⟨(iW (hl y hy)).2,hl y hy⟩) h1 hu);obtain⟨w,l',e',n1,n2⟩:=Uz (hl x Zc) 0;have e0:Da x 0=Ck x:=by
   unfold Da Hl;rw[if_neg];rintro⟨q1,q2⟩;have:=Te (hl x Zc);unfold eO at this;rw[if_pos q1]at this;omega
  rw[e0]at e';obtain⟨a,b,rfl,e2⟩:=Ry h1 (by rw[Hz,e'];rfl);rw[Zd];exact Af (Dg (by rw[e2];exact n1))
theorem Kx {t:Tk}{r:List Tk}(h:t.kind=1):Fa (t::r)=.ok (t.text,r):=by
 have e:Lv 1 (t::r)=.ok (t,r):=if_pos h;unfold Fa;rw[e]
theorem sT(t:Nat)(s:Bs)(x:Ex):Ec t (.mk 1 s [x] [] [])=Dy t (nmp s:: .g [32]::sg [61]:: .g [32]::(Ck x++[sg [59]])):=by
 rw[Ec];unfold Cl;rw[if_pos rfl];simp only[Zb,Zd,Zl];rfl
theorem stp2(t:Nat)(s:Bs)(x y:Ex):Ec t (.mk 2 s [x,y] [] [])=Dy t (nmp s::sg [91]::(Ck x++sg [93]:: .g [32]::sg [61]:: .g [32]::(Ck y++[sg [59]]))):=by
 rw[Ec];unfold Cl;rw[if_neg (by decide),if_pos rfl];simp only[Zb,Zd,Zl];rfl
theorem stp3(t:Nat)(x:Ex)(a b:List St):Ec t (.mk 3 [] [x] a b)=Dy t (wd [105,102]:: .g [32]::sg [40]::(Ck x++[sg [41],.g [32],sg [123]]))++(Cs (t+1) a++((if b.isEmpty then []else Dy t [sg [125],.g [32],wd [101,108,115,101],.g [32],sg [123]]++Cs (t+1) b)++Dy t [sg [125]])):=by
 rw[Ec];unfold Cl;rw[if_neg (by decide),if_neg (by decide),if_pos rfl];simp only[Zb,Zd,Zl];rfl
theorem stp4(t:Nat)(x:Ex)(a:List St):Ec t (.mk 4 [] [x] a [])=Dy t (wd [119,104,105,108,101]:: .g [32]::sg [40]::(Ck x++[sg [41],.g [32],sg [123]]))++(Cs (t+1) a++Dy t [sg [125]]):=by
 rw[Ec];unfold Cl;rw[if_neg (by decide),if_neg (by decide),if_neg (by decide),if_pos rfl];simp only[Zb,Zd,Zl];rfl
theorem stp5(t:Nat):Ec t (.mk 5 [] [] [] [])=Dy t [wd [98,114,101,97,107],sg [59]]:=by
 rw[Ec];unfold Cl;rw[if_neg (by decide),if_neg (by decide),if_neg (by decide),if_neg (by decide),if_pos rfl]
theorem stp6(t:Nat):Ec t (.mk 6 [] [] [] [])=Dy t [wd [99,111,110,116,105,110,117,101],sg [59]]:=by
 rw[Ec];unfold Cl;rw[if_neg (by decide),if_neg (by decide),if_neg (by decide),if_neg (by decide),if_neg (by decide),if_pos rfl]
theorem stp7(t:Nat)(x:Ex):Ec t (.mk 7 [] [x] [] [])=Dy t (wd [114,101,116,117,114,110]:: .g [32]::(Ck x++[sg [59]])):=by
 rw[Ec];unfold Cl;rw[if_neg (by decide),if_neg (by decide),if_neg (by decide),if_neg (by decide),if_neg (by decide),if_neg (by decide),if_pos rfl];simp only[Zb,Zd,Zl];rfl
theorem vR(t:Nat)(x:Ex):Ec t (.mk 8 [] [x] [] [])=Dy t (wd [112,114,105,110,116]::sg [40]::(Ck x++[sg [41],sg [59]])):=by
 rw[Ec];unfold Cl;rw[if_neg (by decide),if_neg (by decide),if_neg (by decide),if_neg (by decide),if_neg (by decide),if_neg (by decide),if_neg (by decide),if_pos rfl];simp only[Zb,Zd,Zl];rfl
theorem stp9(t:Nat)(x:Ex):Ec t (.mk 9 [] [x] [] [])=Dy t (wd [116,114,97,112]::sg [40]::(Ck x++[sg [41],sg [59]])):=by
 rw[Ec];unfold Cl;rw[if_neg (by decide),if_neg (by decide),if_neg (by decide),if_neg (by decide),if_neg (by decide),if_neg (by decide),if_neg (by decide),if_neg (by decide),if_pos rfl];simp only[Zb,Zd,Zl];rfl
theorem nP(t:Nat)(s:Bs)(l:List Ex):Ec t (.mk 10 [] [.mk 5 0 0 s l] [] [])=Dy t (nmp s::sg [40]::(Ho (l.map Ck)++[sg [41],sg [59]])):=by
 rw[Ec];unfold Cl;rw[if_neg (by decide),if_neg (by decide),if_neg (by decide),if_neg (by decide),if_neg (by decide),if_neg (by decide),if_neg (by decide),if_neg (by decide),if_neg (by decide),if_pos rfl];show Dy t (Ck (.mk 5 0 0 s l)++[sg [59]])=_
 rw[Lp];simp only[Zb,Zd,Zl]
theorem On {f:Nat}{a:Tk}{l r:List Tk}{x:St}{u:Tk}{s:Bs}(ha:isP s a=true)(h1:(s==[105,102])=false)(h2:(s==[119,104,105,108,101])=false)(h:Av f (a::l)=.ok (x,u::r))(hu:isP [59] u=true):Dl (f+1) (a::l)=.ok (x,r):=
 Nm (Af (Qo ha h1)) (Af (Qo ha h2)) h hu
theorem rN {x:St}(h:WSt x):tR x:=by
 induction h with
 |set s x h hx=>
  intro t ts rest hf hne;rw[sT]at hf;obtain⟨a,r,rfl,ha,hr⟩:=(Ip hf).cons;obtain⟨e,r,rfl,he,hr⟩:=(For.gap hr).cons;obtain⟨t1,t2,rfl,h1,h2⟩:=(For.gap hr).app;obtain⟨u,q,rfl,hu,hq⟩:=h2.cons;have hu:=Cw hu;have he:=Cw he;obtain⟨k1,k2,k3⟩:=Fg ha;rw[show a::e::(t1++u::q)++rest=a::e::(t1++u::rest)from by rw[hq.nil];simp];refine Ev.one (Yg hx (rest:=rest) h1 (.inr (.inr (.inr (.inl (Db hu)))))) (fun f e1=>?_);(try dsimp only at e1 ⊢);have nk:∀s,isP s a=false:=fun s=>Mz (.inl k1)
  refine Nm (Af (nk _)) (Af (nk _)) ?_ hu;unfold Av
  iterate 5 (rw[Af (nk _)];dsimp only)
  rw[Kx k1];dsimp only;rw[Af (Qo he (by decide))];dsimp only;rw[Af (Qo he (by decide))];dsimp only;rw[Ch he];dsimp only;rw[e1];dsimp only;rw[k2]
 |store s x y h hx hy=>
  intro t ts rest hf hne;rw[stp2]at hf;obtain⟨a,r,rfl,ha,hr⟩:=(Ip hf).cons;obtain⟨o,r,rfl,ho,hr⟩:=hr.cons;obtain⟨t1,t2,rfl,h1,h2⟩:=hr.app;obtain⟨c,r,rfl,hc,hr⟩:=h2.cons;obtain⟨e,r,rfl,he,hr⟩:=(For.gap hr).cons;obtain⟨t3,t4,rfl,h3,h4⟩:=(For.gap hr).app;obtain⟨u,q,rfl,hu,hq⟩:=h4.cons;have hu:=Cw hu;have he:=Cw he;have ho:=Cw ho;have hc:=Cw hc;obtain⟨k1,k2,k3⟩:=Fg ha;rw[show a::o::(t1++c::e::(t3++u::q))++rest=a::o::(t1++c::e::(t3++u::rest))from by rw[hq.nil];simp];refine Ev.both (Yg hx (rest:=e::(t3++u::rest)) h1 (.inr (.inl (Db hc)))) (Yg hy (rest:=rest) h3 (.inr (.inr (.inr (.inl (Db hu)))))) (fun f e1 e2=>?_);(try dsimp only at e1 e2 ⊢);have nk:∀s,isP s a=false:=fun s=>Mz (.inl k1)
  refine Nm (Af (nk _)) (Af (nk _)) ?_ hu;unfold Av
  iterate 5 (rw[Af (nk _)];dsimp only)
  rw[Kx k1];dsimp only;rw[Af (Qo ho (by decide))];dsimp only;rw[An ho];dsimp only;rw[e1];dsimp only;rw[Ch hc];dsimp only;rw[Ch he];dsimp only;rw[e2];dsimp only;rw[k2]
 |cond x a b hx ha hb iha ihb=>
  intro t ts rest hf hne;rw[stp3]at hf;obtain⟨q1,q2,rfl,g1,g2⟩:=hf.app;obtain⟨i,r,rfl,hi,hr⟩:=(Ip g1).cons;obtain⟨p,r,rfl,hp,hr⟩:=(For.gap hr).cons;obtain⟨tx,r,rfl,h1,hr⟩:=hr.app;obtain⟨c,r,rfl,hc,hr⟩:=hr.cons;obtain⟨o,r,rfl,ho,hr⟩:=(For.gap hr).cons;rw[hr.nil];obtain⟨ta,r,rfl,hta,hr⟩:=g2.app;obtain⟨te,r,rfl,hte,hr⟩:=hr.app;obtain⟨z,r,rfl,hz,hr⟩:=(Ip hr).cons;rw[hr.nil];have hi:=Lq hi;have hp:=Cw hp;have hc:=Cw hc;have ho:=Cw ho;have hz:=Cw hz;have ga:=fun u rest hu=>Kw a (fun y hy=>⟨ha y hy,iha y hy⟩) [] ta u rest hta hu
  cases b with
  |nil=>
   rw[if_pos (show([]:List St).isEmpty=true from rfl)]at hte;rw[hte.nil];rw[show i::p::(tx++[c,o])++(ta++([]++[z]))++rest=i::(p::(tx++c::(o::(ta++z::rest))))from by simp];refine Ev.both (Nc hx (rest:=o::(ta++z::rest)) hp h1 hc) (ga z rest hz) (fun f e1 e2=>?_);(try dsimp only at e1 e2 ⊢);rw[Dl,An hi];dsimp only;rw[e1];dsimp only;rw[Ch ho];dsimp only;rw[e2];dsimp only;rw[show Bp [101,108,115,101] rest=none from hne];rfl
  |cons y l=>
   rw[if_neg (by simp)]at hte;obtain⟨r1,tb,rfl,f1,f2⟩:=hte.app;obtain⟨z0,r,rfl,hz0,hr⟩:=(Ip f1).cons;obtain⟨el,r,rfl,hel,hr⟩:=(For.gap hr).cons;obtain⟨o2,r,rfl,ho2,hr⟩:=(For.gap hr).cons;rw[hr.nil];have hz0:=Cw hz0;have hel:=Lq hel;have ho2:=Cw ho2;have gb:=Kw (y::l) (fun x hx=>⟨hb x hx,ihb x hx⟩) [] tb z rest f2 hz;rw[show i::p::(tx++[c,o])++(ta++([z0,el,o2]++tb++[z]))++rest=i::(p::(tx++c::(o::(ta++z0::(el::o2::(tb++z::rest))))))from by simp];obtain⟨n1,e1⟩:=Nc hx (rest:=o::(ta++z0::(el::o2::(tb++z::rest)))) hp h1 hc;obtain⟨n2,e2⟩:=ga z0 (el::o2::(tb++z::rest)) hz0;obtain⟨n3,e3⟩:=gb;refine Ev.succ ⟨max n1 (max n2 n3),fun f hf=>?_⟩;have e1:=e1 f (by omega);have e2:=e2 f (by omega);have e3:=e3 f (by omega);(try dsimp only at e1 e2 e3 ⊢);rw[Dl,An hi];dsimp only;rw[e1];dsimp only;rw[Ch ho];dsimp only;rw[e2];dsimp only;rw[An hel];dsimp only;rw[Ch ho2];dsimp only;rw[e3];rfl
 |loop x a hx ha iha=>
  intro t ts rest hf hne;rw[stp4]at hf;obtain⟨q1,q2,rfl,g1,g2⟩:=hf.app;obtain⟨i,r,rfl,hi,hr⟩:=(Ip g1).cons;obtain⟨p,r,rfl,hp,hr⟩:=(For.gap hr).cons;obtain⟨tx,r,rfl,h1,hr⟩:=hr.app;obtain⟨c,r,rfl,hc,hr⟩:=hr.cons;obtain⟨o,r,rfl,ho,hr⟩:=(For.gap hr).cons;rw[hr.nil];obtain⟨ta,r,rfl,hta,hr⟩:=g2.app;obtain⟨z,r,rfl,hz,hr⟩:=(Ip hr).cons;rw[hr.nil];have hi:=Lq hi;have hp:=Cw hp;have hc:=Cw hc;have ho:=Cw ho;have hz:=Cw hz;have ga:=Kw a (fun y hy=>⟨ha y hy,iha y hy⟩) [] ta z rest hta hz;rw[show i::p::(tx++[c,o])++(ta++[z])++rest=i::(p::(tx++c::(o::(ta++z::rest))))from by simp];refine Ev.both (Nc hx (rest:=o::(ta++z::rest)) hp h1 hc) ga (fun f e1 e2=>?_);(try dsimp only at e1 e2 ⊢);rw[Dl,Af (Qo hi (by decide))];dsimp only;rw[An hi];dsimp only;rw[e1];dsimp only;rw[Ch ho];dsimp only;rw[e2];rfl
 |brk=>
  intro t ts rest hf hne;rw[stp5]at hf;obtain⟨a,r,rfl,ha,hr⟩:=(Ip hf).cons;obtain⟨u,q,rfl,hu,hq⟩:=hr.cons;rw[hq.nil];have hu:=Cw hu;have ha:=Lq ha;refine Ev.const (fun f=>?_);(try dsimp only);refine On ha (by decide) (by decide) ?_ hu;unfold Av;rw[An ha];rfl
 |cont=>
  intro t ts rest hf hne;rw[stp6]at hf;obtain⟨a,r,rfl,ha,hr⟩:=(Ip hf).cons;obtain⟨u,q,rfl,hu,hq⟩:=hr.cons;rw[hq.nil];have hu:=Cw hu;have ha:=Lq ha;refine Ev.const (fun f=>?_);(try dsimp only);refine On ha (by decide) (by decide) ?_ hu;unfold Av;rw[Af (Qo ha (by decide))];dsimp only;rw[An ha];rfl
 |ret x hx=>
  intro t ts rest hf hne;rw[stp7]at hf;obtain⟨a,r,rfl,ha,hr⟩:=(Ip hf).cons;obtain⟨t1,t2,rfl,h1,h2⟩:=(For.gap hr).app;obtain⟨u,q,rfl,hu,hq⟩:=h2.cons;have hu:=Cw hu;have ha:=Lq ha;rw[show a::(t1++u::q)++rest=a::(t1++u::rest)from by rw[hq.nil];simp];refine Ev.one (Yg hx (rest:=rest) h1 (.inr (.inr (.inr (.inl (Db hu)))))) (fun f e1=>?_);(try dsimp only at e1 ⊢);refine On ha (by decide) (by decide) ?_ hu;unfold Av
  iterate 2 (rw[Af (Qo ha (by decide))];dsimp only)
  rw[An ha];dsimp only;rw[e1]
 |print x hx=>
  intro t ts rest hf hne;rw[vR]at hf;obtain⟨a,r,rfl,ha,hr⟩:=(Ip hf).cons;obtain⟨p,r,rfl,hp,hr⟩:=hr.cons;obtain⟨t1,t2,rfl,h1,h2⟩:=hr.app;obtain⟨c,r,rfl,hc,hr⟩:=h2.cons;obtain⟨u,q,rfl,hu,hq⟩:=hr.cons;have hu:=Cw hu;have ha:=Lq ha;have hp:=Cw hp;have hc:=Cw hc;rw[show a::p::(t1++c::u::q)++rest=a::(p::(t1++c::(u::rest)))from by rw[hq.nil];simp];refine Ev.one (Nc hx (rest:=u::rest) hp h1 hc) (fun f e1=>?_);(try dsimp only at e1 ⊢);refine On ha (by decide) (by decide) ?_ hu;unfold Av
  iterate 3 (rw[Af (Qo ha (by decide))];dsimp only)
  rw[An ha];dsimp only;rw[e1]
 |trap x hx=>
  intro t ts rest hf hne;rw[stp9]at hf;obtain⟨a,r,rfl,ha,hr⟩:=(Ip hf).cons;obtain⟨p,r,rfl,hp,hr⟩:=hr.cons;obtain⟨t1,t2,rfl,h1,h2⟩:=hr.app;obtain⟨c,r,rfl,hc,hr⟩:=h2.cons;obtain⟨u,q,rfl,hu,hq⟩:=hr.cons;have hu:=Cw hu;have ha:=Lq ha;have hp:=Cw hp;have hc:=Cw hc;rw[show a::p::(t1++c::u::q)++rest=a::(p::(t1++c::(u::rest)))from by rw[hq.nil];simp];refine Ev.one (Nc hx (rest:=u::rest) hp h1 hc) (fun f e1=>?_);(try dsimp only at e1 ⊢);refine On ha (by decide) (by decide) ?_ hu;unfold Av
  iterate 4 (rw[Af (Qo ha (by decide))];dsimp only)
  rw[An ha];dsimp only;rw[e1]
 |call s l hx=>
  intro t ts rest hf hne;rw[nP]at hf;have hl:∀y,y∈l→WEx y:=by cases hx with|call _ _ _ _ h=>exact h
  obtain⟨a,r,rfl,ha,hr⟩:=(Ip hf).cons;obtain⟨p,r,rfl,hp,hr⟩:=hr.cons;obtain⟨t1,t2,rfl,h1,h2⟩:=hr.app;obtain⟨c,r,rfl,hc,hr⟩:=h2.cons;obtain⟨u,q,rfl,hu,hq⟩:=hr.cons;have hu:=Cw hu;have hp:=Cw hp;have hc:=Cw hc;obtain⟨k1,k2,k3⟩:=Fg ha;rw[show a::p::(t1++c::u::q)++rest=a::p::(t1++c::(u::rest))from by rw[hq.nil];simp];refine Ev.one (args_ev hl (rest:=u::rest) h1 hc) (fun f e1=>?_);(try dsimp only at e1 ⊢);have nk:∀s,isP s a=false:=fun s=>Mz (.inl k1)
  refine Nm (Af (nk _)) (Af (nk _)) ?_ hu;unfold Av
  iterate 5 (rw[Af (nk _)];dsimp only)
  rw[Kx k1];dsimp only;rw[An hp];dsimp only;rw[e1];dsimp only;rw[k2]
def Gb(x:Bs):List Pc:=[wd [105,110,116],.g [32],nmp x]
def Qc(x:Bs):List Pc:=Dy 1 [wd [105,110,116],.g [32],nmp x,sg [59]]
def Wn(f:Fu):List Pc:=Ho (f.params.map Gb)++([sg [41],.g [32],sg [123],.g [10]]++(f.locals.flatMap Qc++(Cs 1 f.body++Dy 0 [sg [125]])))
def Qb(f:Fu):List Pc:=wd [105,110,116]:: .g [32]::nmp f.name::sg [40]::Wn f
def Yw(a:Ar):List Pc:=Dy 0 [wd [105,110,116],.g [32],nmp a.name,sg [91],nu a.size,sg [93],sg [59]]
def Jq(p:Pr):List Pc:=p.arrays.flatMap Yw++p.funcs.flatMap Qb
theorem Pn {α:Type}(f:α→List Pc)(g:α→Bs)(h:∀x,Az (f x)=g x):∀l:List α,Az (l.flatMap f)=l.flatMap g
 |[]=>rfl
 |x::l=>by rw[Zi,Zi,Ap,h,Pn f g h l]
theorem qE(f:Fu):Az (Qb f)=Jc f:=by
 unfold Qb Wn Jc Fr;rw[show wd [105,110,116]::Pc.g [32]::nmp f.name::sg [40]::(Ho (f.params.map Gb)++([sg [41],.g [32],sg [123],.g [10]]++(f.locals.flatMap Qc++(Cs 1 f.body++Dy 0 [sg [125]]))))=[wd [105,110,116],Pc.g [32],nmp f.name,sg [40]]++(Ho (f.params.map Gb)++([sg [41],.g [32],sg [123],.g [10]]++(f.locals.flatMap Qc++(Cs 1 f.body++Dy 0 [sg [125]]))))from rfl];rw[Ap,Ap,Ap,Ap,Ap,jA,Ng,List.map_map];rw[Pn Qc (fun x=>ln 1 [[105,110,116,32],x,[59]]) (fun x=>Gj _ _ _ (by simp [Az,Pc.text]))];rw[Gj 0 [sg [125]] [[125]] rfl];rw[show(Az∘Gb)=Ki from funext fun x=>by simp [Gb,Az,Pc.text,Ki]];simp [Az,Pc.text]
theorem rM(a:Ar):Az (Yw a)=Oe a:=Gj _ _ _ (by simp [Az,Pc.text])
theorem aT(p:Pr):Az (Jq p)=Du p:=by
 unfold Jq Du Ep Fj;rw[Ap,Pn Yw Oe rM,Pn Qb Jc qE]
def WFu(f:Fu):Prop:=Am f.name=true∧(∀x,x∈f.params→Am x=true)∧(∀x,x∈f.locals→Am x=true)∧∀x,x∈f.body→WSt x
theorem wfu_of {f:Fu}(h:Gh f=true):WFu f:=by
 unfold Gh at h;simp only[Zn,List.all_eq_true]at h;obtain⟨⟨⟨⟨h1,h2⟩,h3⟩,h4⟩,h5⟩:=h;exact⟨h1,h2,h3,fun x hx=>kJ 40 x (h5 x hx)⟩
theorem bE:∀(l:List Bs) (a:List Bs) (x:Bs) (ts rest:List Tk) (t:Tk),For ts (Gb x++l.flatMap (fun y=>[sg [44],.g [32]]++Gb y))→isP [41] t=true→
  Ev (fun f=>Kr f a (ts++t::rest)) (.ok (a++x::l,rest))
 |[],a,x,ts,rest,t,hf,ht=>by
  rw[List.flatMap_nil,Zg]at hf;obtain⟨i,r,rfl,hi,hr⟩:=For.cons (show For ts (wd [105,110,116]:: .g [32]::[nmp x])from hf);obtain⟨n,r,rfl,hn,hr⟩:=(For.gap hr).cons;obtain⟨k1,k2,k3⟩:=Fg hn;rw[hr.nil];refine Ev.const (fun f=>?_);(try dsimp only);show Kr (f+1) a (i::n::t::rest)=_
  rw[Kr,Ch (Lq hi)];dsimp only;rw[Kx k1];dsimp only;rw[Af (Qo ht (by decide))];dsimp only;rw[Ch ht];dsimp only;rw[k2]
 |y::l,a,x,ts,rest,t,hf,ht=>by
  rw[Zi]at hf;obtain⟨i,r,rfl,hi,hr⟩:=For.cons (show For ts (wd [105,110,116]:: .g [32]::nmp x::sg [44]:: .g [32]::(Gb y++l.flatMap (fun y=>[sg [44],.g [32]]++Gb y)))from hf);obtain⟨n,r,rfl,hn,hr⟩:=(For.gap hr).cons;obtain⟨c,r,rfl,hc,hr⟩:=hr.cons;obtain⟨k1,k2,k3⟩:=Fg hn;have hc:=Cw hc;have ih:=bE l (a++[x]) y r rest t (For.gap hr) ht;rw[show a++x::y::l=a++[x]++y::l from by simp];refine Ev.one ih (fun f e1=>?_);(try dsimp only at e1 ⊢);show Kr (f+1) a (i::n::c::(r++t::rest))=_
  rw[Kr,Ch (Lq hi)];dsimp only;rw[Kx k1];dsimp only;rw[An hc];dsimp only;rw[k2];exact e1
theorem bV:∀(l:List Bs) (a:List Bs) (ts rest:List Tk),For ts (l.flatMap Qc)→Bp [105,110,116] rest=none→
  Ev (fun f=>Hq f a (ts++rest)) (.ok (a++l,rest))
 |[],a,ts,rest,hf,ht=>by
  rw[For.nil (show For ts []from hf),Zg];refine Ev.const (fun f=>?_);(try dsimp only);show Hq (f+1) a rest=_
  rw[Hq,ht]
 |x::l,a,ts,rest,hf,ht=>by
  rw[Zi]at hf;obtain⟨t1,t2,rfl,h1,h2⟩:=hf.app;obtain⟨i,r,rfl,hi,hr⟩:=(Ip h1).cons;obtain⟨n,r,rfl,hn,hr⟩:=(For.gap hr).cons;obtain⟨c,r,rfl,hc,hr⟩:=hr.cons;rw[hr.nil];obtain⟨k1,k2,k3⟩:=Fg hn;have ih:=bV l (a++[x]) t2 rest h2 ht;rw[show a++x::l=a++[x]++l from by simp];refine Ev.one ih (fun f e1=>?_);(try dsimp only at e1 ⊢);show Hq (f+1) a (i::n::c::(t2++rest))=_
  rw[Hq,An (Lq hi)];dsimp only;rw[Kx k1];dsimp only;rw[Ch (Cw hc)];dsimp only;rw[k2];exact e1
theorem oM {t:Nat}{l:List St}(hl:∀x,x∈l→WSt x){ts rest:List Tk}{u:Tk}(hf:For ts (Cs t l))(hu:isP [125] u=true):Bp [105,110,116] (ts++u::rest)=none:=by
 cases l with
 |nil=>
  rw[Cs]at hf;rw[hf.nil];exact Af (Qo hu (by decide))
 |cons y l=>
  rw[Cs]at hf;obtain⟨s1,s2,rfl,g1,g2⟩:=hf.app;obtain⟨w,l',e1,n1,n2,n3⟩:=Qp (hl y Zc) t;obtain⟨c,r,rfl,e2⟩:=Ry g1 e1;exact Af (Dg (by rw[e2];exact n3))
theorem qU {g:Fu}(hg:WFu g){ts rest:List Tk}(hf:For ts (Wn g)):Ev (fun f=>Gm f g.name (ts++rest)) (.ok (g,rest)):=by
 obtain⟨nm,ps,ls,bd⟩:=g;obtain⟨_,_,_,hb⟩:=hg;dsimp only[Wn]at hf hb ⊢;obtain⟨tp,r,rfl,hp,hr⟩:=hf.app;have hr:For r (sg [41]:: .g [32]::sg [123]:: .g [10]::(ls.flatMap Qc++(Cs 1 bd++Dy 0 [sg [125]]))):=hr;obtain⟨c,r,rfl,hc,hr⟩:=For.cons hr;obtain⟨o,r,rfl,ho,hr⟩:=For.cons (For.gap hr);obtain⟨tl,r,rfl,hl,hr⟩:=(For.gap hr).app;obtain⟨tb,r,rfl,hb2,hr⟩:=hr.app;obtain⟨z,r,rfl,hz,hr⟩:=(Ip hr).cons;rw[hr.nil];have hz:=Cw hz;have hc:=Cw hc;have ho:=Cw ho;obtain⟨n1,e1⟩:=bV ls [] tl (tb++z::rest) hl (oM hb hb2 hz);obtain⟨n2,e2⟩:=Kw bd (fun x hx=>⟨hb x hx,rN (hb x hx)⟩) [] tb z rest hb2 hz;rw[show tp++c::o::(tl++(tb++[z]))++rest=tp++c::o::(tl++(tb++z::rest))from by simp]
 cases ps with
 |nil=>
  rw[For.nil (show For tp []from hp)];refine⟨max n1 n2,fun f hf=>?_⟩;have e1:=e1 f (by omega);have e2:=e2 f (by omega);(try dsimp only at e1 e2 ⊢);unfold Gm;rw[show([]:List Tk)++c::o::(tl++(tb++z::rest))=c::o::(tl++(tb++z::rest))from rfl,An hc];dsimp only;rw[Ch ho];dsimp only;rw[e1];dsimp only;rw[e2];rfl
 |cons x l=>
  have hp':For tp (Gb x++l.flatMap (fun y=>[sg [44],.g [32]]++Gb y)):=by
   have e:Ho ((x::l).map Gb)=Gb x++l.flatMap (fun y=>[sg [44],.g [32]]++Gb y):=by
    show Gb x++(l.map Gb).flatMap _=_;rw[List.flatMap_map]
   rw[←e];exact hp
  obtain⟨n3,e3⟩:=bE l [] x tp (o::(tl++(tb++z::rest))) c hp' hc;have hno:Bp [41] (tp++c::o::(tl++(tb++z::rest)))=none:=by
   obtain⟨i,r,rfl,hi,_⟩:=For.cons (show For tp (wd [105,110,116]:: .g [32]::nmp x::l.flatMap (fun y=>[sg [44],.g [32]]++Gb y))from hp');exact Af (Qo (Lq hi) (by decide))
  refine⟨max n1 (max n2 n3),fun f hf=>?_⟩;have e1:=e1 f (by omega);have e2:=e2 f (by omega);have e3:=e3 f (by omega);(try dsimp only at e1 e2 e3 ⊢);unfold Gm;rw[hno];dsimp only;rw[e3];dsimp only;rw[Ch ho];dsimp only;rw[e1];dsimp only;rw[e2];rfl
theorem bQ:∀(l:List Fu) (p:Pr) (ts:List Tk) (u:Tk),(∀x,x∈l→WFu x)→For ts (l.flatMap Qb)→u.kind=5→Ev (fun f=>Fm f p (ts++[u])) (.ok ({p with funcs:=p.funcs++l},[u]))
 |[],p,ts,u,hl,hf,hu=>by
  rw[For.nil (show For ts []from hf),Zg];refine Ev.const (fun f=>?_);(try dsimp only);show Fm (f+1) p [u]=_
  rw[Fm,if_pos (show(([u]:List Tk).head?.map (·.kind)).getD 0=5 from hu)]
 |g::l,p,ts,u,hl,hf,hu=>by
  rw[Zi]at hf;obtain⟨t1,t2,rfl,h1,h2⟩:=hf.app;obtain⟨i,r,rfl,hi,hr⟩:=For.cons (show For t1 (wd [105,110,116]:: .g [32]::nmp g.name::sg [40]::Wn g)from h1);obtain⟨n,r,rfl,hn,hr⟩:=(For.gap hr).cons;obtain⟨o,r,rfl,ho,hr⟩:=hr.cons;obtain⟨k1,k2,k3⟩:=Fg hn;obtain⟨j1,_,_⟩:=Fg hi;have ho:=Cw ho;have ih:=bQ l {p with funcs:=p.funcs++[g]} t2 u (fun x hx=>hl x (Zj _ hx)) h2 hu;rw[show({p with funcs:=p.funcs++g::l}:Pr)= {({p with funcs:=p.funcs++[g]}:Pr)with funcs:=({p with funcs:=p.funcs++[g]}:Pr).funcs++l}from by simp];obtain⟨n1,e1⟩:=qU (hl g Zc) (rest:=t2++[u]) hr;obtain⟨n2,e2⟩:=ih;refine Ev.succ ⟨max n1 n2,fun f hf=>?_⟩;have e1:=e1 f (by omega);have e2:=e2 f (by omega);(try dsimp only at e1 e2 ⊢);rw[show i::n::o::r++t2++[u]=i::n::o::(r++(t2++[u]))from by simp];rw[Fm,if_neg (show ¬((i::n::o::(r++(t2++[u]))).head?.map (·.kind)).getD 0=5 from by show ¬i.kind=5;rw[j1];decide),Ch (Lq hi)];dsimp only;rw[Kx k1];dsimp only;rw[show(if p.funcs.isEmpty=true then Bp [91] (o::(r++(t2++[u])))else none)=none from by
   split
   ·exact Af (Qo ho (by decide))
   ·rfl]
  dsimp only;rw[Ch ho];dsimp only;rw[k2,e1];exact e2
theorem fV:∀(m:List Ar) (A:List Ar) (l:List Fu) (ts:List Tk) (u:Tk),(∀x,x∈l→WFu x)→For ts (m.flatMap Yw++l.flatMap Qb)→u.kind=5→Ev (fun f=>Fm f ⟨A,[]⟩ (ts++[u])) (.ok (⟨A++m,l⟩,[u]))
 |[],A,l,ts,u,hl,hf,hu=>by
  rw[Zg];exact bQ l ⟨A,[]⟩ ts u hl hf hu
 |a::m,A,l,ts,u,hl,hf,hu=>by
  rw[Zi,Zb]at hf;obtain⟨t1,t2,rfl,h1,h2⟩:=hf.app;obtain⟨i,r,rfl,hi,hr⟩:=(Ip h1).cons;obtain⟨n,r,rfl,hn,hr⟩:=(For.gap hr).cons;obtain⟨o,r,rfl,ho,hr⟩:=hr.cons;obtain⟨s,r,rfl,hs,hr⟩:=hr.cons;obtain⟨c,r,rfl,hc,hr⟩:=hr.cons;obtain⟨e,r,rfl,he,hr⟩:=hr.cons;rw[hr.nil];obtain⟨k1,k2,k3⟩:=Fg hn;obtain⟨s1,s2,s3⟩:=Fg hs;obtain⟨j1,_,_⟩:=Fg hi;have ho:=Cw ho;have ih:=fV m (A++[a]) l t2 u hl h2 hu;rw[show A++a::m=A++[a]++m from by simp];refine Ev.one ih (fun f e2=>?_);(try dsimp only at e2 ⊢);rw[show [i,n,o,s,c,e]++t2++[u]=i::n::o::s::c::e::(t2++[u])from by simp];rw[Fm,if_neg (show ¬((i::n::o::s::c::e::(t2++[u])).head?.map (·.kind)).getD 0=5 from by show ¬i.kind=5;rw[j1];decide),Ch (Lq hi)];dsimp only;rw[Kx k1];dsimp only;rw[if_pos (show List.isEmpty ([]:List Fu)=true from rfl),An ho];dsimp only;rw[show Lv 3 (s::c::e::(t2++[u]))=.ok (s,c::e::(t2++[u]))from if_pos s1];dsimp only;rw[Ch (Cw hc)];dsimp only;rw[Ch (Cw he)];dsimp only;rw[k2,s3];exact e2
theorem Wv {p:Pr}(hp:∀x,x∈p.funcs→WFu x){ts:List Tk}{u:Tk}(hf:For ts (Jq p))(hu:u.kind=5):Ev (fun f=>Fm f ⟨[],[]⟩ (ts++[u])) (.ok (p,[u])):=fV p.arrays [] p.funcs ts u hp hf hu
theorem Vd {B:Nat}{a w:World}(h:Below B a w)(n:Nat):Below B a (w.drewN n):=⟨h.os,h.tape,h.output,h.size,h.block⟩
theorem tB(c:Bs)(s:Bs)(h:(10:UInt8) ∉ c):Lib.index (c++10::s) [10]=(c.length:Int):=by
 induction c with
 |nil=>simp [Lib.index]
 |cons x c ih=>
  have hx:x≠10:=fun e=>h (by rw[e];exact Zc)
  have i:=ih (fun hm=>h (Zj _ hm));rw[Zd,Lib.index];have hp:([10]:List UInt8).isPrefixOf (x::(c++10::s))=false:=by
   simp [Zo];exact fun e=>hx e.symm
  rw[hp,i];have:((c.length:Int)== -1)=false:=by rw[beq_eq_false_iff_ne];omega
  rw[this];simp
theorem fK:∀c:Bs,(10:UInt8) ∉ c→Lib.index c [10]= -1
 |[],_=>by simp [Lib.index]
 |x::c,h=>by
  have hx:x≠10:=fun e=>h (by rw[e];exact Zc)
  have i:=fK c (fun hm=>h (Zj _ hm));rw[Lib.index];have hp:([10]:List UInt8).isPrefixOf (x::c)=false:=by
   simp [Zo];exact fun e=>hx e.symm
  rw[hp,i];rfl
theorem Wm(s:Bs):He s=s.takeWhile (fun c=>c !=10):=by
 obtain⟨h1,h2,h3⟩:=Si (fun c=>c !=10) s;obtain⟨a,ha⟩:∃a,s.takeWhile (fun c=>c !=10)=a:=⟨_,rfl⟩;obtain⟨b,hb⟩:∃b,s.dropWhile (fun c=>c !=10)=b:=⟨_,rfl⟩;rw[ha]at h1 h2 ⊢;rw[hb]at h1 h3;have hn:(10:UInt8) ∉ a:=fun hm=>absurd (h2 10 hm) (by decide)
 unfold He;rw[h1];rcases h3 with rfl|⟨c,r,rfl,hc⟩
 ·rw[Zg]
  unfold Lib.cut;rw[fK a hn,if_neg (by decide)]
 ·have:c=10:=by simpa using hc
  subst this;unfold Lib.cut;rw[tB a r hn,if_pos (by omega)];simp
theorem comm_ge {s:Bs}(h:Ze s [47,47]=true):2≤(He s).length:=by
 rw[Wm]
 match s,h with
 |[],h=>exact absurd h (by decide)
 |[a],h=>simp [Ze]at h
 |a::b::t,h=>
  have:a=47∧b=47:=by simp [Ze]at h;exact⟨h.1.symm,h.2.symm⟩
  obtain⟨rfl,rfl⟩:=this;rw[List.takeWhile_cons,if_pos (by decide),List.takeWhile_cons,if_pos (by decide)];simp
theorem nB(s:Bs):(He s).length≤s.length:=by rw[Wm];exact Xz _ _
theorem eU(s:Bs)(hz:s.length≤1000000)(w:World)(hl:Jj w):
  Calls Zh 88 #[.string (Aa s)] w fun e w'=>e=.returned (.tuple #[.string (Aa (He s)),.bool (Xs s)])∧Below w.heap.size w w':=by
 have HL:=Za hl;have HZ:=Za hz;obtain⟨m,hm⟩:=hl.max;have HM:=Za hm;have hle:=nB s;have hcut:∃a b,Lib.cut (Aa s).data.toList (Aa [10]).data.toList=(He s,a,b):=⟨(Lib.cut s [10]).2.1,(Lib.cut s [10]).2.2,by show Lib.cut s.toArray.toList [10]=_;unfold He;simp⟩;obtain⟨ca,cb,hcut⟩:=hcut;have HK:=Za hcut;have HB:Hid (Xs s=(Lib.validD (He s) && !Lib.contains (He s) [239,191,189])):=rfl;obtain⟨o,ho⟩:∃o,Xs s=o:=⟨_,rfl⟩;rw[ho]at HB ⊢;obtain⟨c,hc⟩:∃c,He s=c:=⟨_,rfl⟩;rw[hc]at HB HK hle ⊢;clear hl hm hz hcut ho hc;go_enter func88,ntmps88
 go_wp2_with fail
 refine(Tryz.strings_Cut (Aa s) (Aa [10]) m w (by have:=HZ.o;show s.length<_;omega) HM.o).mono ?_;rw[HK.o];rintro e w1 ⟨rfl,n1,rfl⟩;have hl1:Jj (w.drewN n1):=HL.o.old (Vd (Zm w.heap.size w) n1);have hcz:c.length≤1000000:=by have:=HZ.o;omega
 go_wp2_with fail
 refine(Tryz.utf8_ValidString (Aa c) (w.drewN n1) (by show c.length≤_;omega) hl1.utf).mono ?_;rintro e w2 ⟨he,hb2⟩;have HB2:=Za ((Vd (Zm w.heap.size w) n1).trans hb2);replace he:e=.returned (.bool (Lib.validD c)):=he
 cases hv:Lib.validD c
 ·rw[hv]at he
  subst he;rw[hv]at HB;clear hb2 hl1 hv;go_wp2_with fail
  go_ret2
  exact⟨by rw[HB.o];rfl,HB2.o⟩
 ·rw[hv]at he
  subst he;have hl2:=hl1.old (hb2:Below (w.drewN n1).heap.size (w.drewN n1) w2);obtain⟨m2,hm2⟩:=hl2.max;have HM2:=Za hm2;rw[hv]at HB;clear hb2 hl1 hl2 hm2 hv;go_wp2_with fail
  refine(Tryz.strings_Contains (Aa c) (Aa [239,191,189]) m2 w2 (by show c.length<_;omega) HM2.o).mono ?_;rintro e w3 ⟨he,hw3⟩;replace he:e=.returned (.bool (Lib.contains c [239,191,189])):=he;subst he;obtain rfl:w2=w3:=hw3.symm
  cases hct:Lib.contains c [239,191,189]
  all_goals
   rw[hct]at HB;clear hct;go_wp2_with fail
   go_ret2
   exact⟨by rw[HB.o];rfl,HB2.o⟩
theorem sF(s:Bs)(hz:s.length≤1000000)(w:World)(hl:Jj w):
  Calls Zh 40 #[.string (Aa s)] w fun e w'=>e=.returned (.tuple #[.string (Aa (Fs (s.length+1) s).1),.int .i64 (Fs (s.length+1) s).2.1,.bool (Fs (s.length+1) s).2.2])∧Below w.heap.size w w':=by
 obtain⟨q,hq⟩:∃q,Fs (s.length+1) s=q:=⟨_,rfl⟩;rw[hq];have HL:=Za hl;have HZ:=Za hz;have HQ:=Za hq;clear hl hz hq;go_enter func40,ntmps40
 go_wp2_with fail
 go_loopw [0,3] (fun s0 s3 wr=> ∃(s1:Bs) (n f:Nat),s0=.string (Aa s1)∧s3=.int .i64 n∧s1.length<f∧n+s1.length≤s.length∧Hid ((Fs f s1).1=q.1∧n+(Fs f s1).2.1=q.2.1∧(Fs f s1).2.2=q.2.2)∧Below w.heap.size w wr) (fun s0 _ _=>match s0 with|.string s=>s.size|_=>0)
 case atStart=>exact⟨s,0,s.length+1,rfl,rfl,Nat.lt_succ_self _,by omega,by rw[HQ.o];exact⟨rfl,Nat.zero_add _,rfl⟩,Zm _ _⟩
 case round=>
  obtain⟨s1,n,f,rfl,rfl,hf,hn,hs,hb⟩:=hrel;obtain⟨f,rfl⟩:∃g,f=g+1:=⟨f-1,by omega⟩;have hzz:=HZ.o;have HL1:=Za (HL.o.old hb);have HB:=Za hb;have HR1:=Za (fun w1=>qY s1 w1);have hfe:Co (s1.takeWhile Be)≤(s1.takeWhile Be).length:=List.count_le_length;have hsp:=congrArg List.length (Ls Be s1);rw[Zk,Rp]at hsp;have HX1:=Za ((Se s1 (s1.takeWhile Be).length).trans (congrArg Aa (Qt Be s1)));have HX2:Hid (∀n,n=s1.length→(Aa s1).extract (s1.takeWhile Be).length n=Aa (s1.dropWhile Be)):=Za (fun n hn=>by rw[Rv s1 _ n hn,Rp]);rw[Fs]at hs;obtain⟨b,hbe⟩:∃b,s1.takeWhile Be=b:=⟨_,rfl⟩;obtain⟨r,hre⟩:∃r,s1.dropWhile Be=r:=⟨_,rfl⟩;rw[hbe]at HR1 hfe hsp HX1 HX2 hs;rw[hre]at hsp HX2 hs;have HS:=Za hs;have nI:(n:Int)≤1000000:=by omega
  have nJ:(0:Int)≤(n:Int):=by omega
  have l1:(b.length:Int)≤(s1.length:Int):=by omega
  have l2:b.length≤s1.length:=by omega
  have fI:(n:Int)+(Co b:Int)≤1000000:=by omega
  have fJ:(0:Int)≤(Co b:Int):=by omega
  have HSP:=Za hsp;clear hb hs hbe hre hsp;go_wp2_with fail
  refine(HR1.o _).mono ?_;rintro e w1 ⟨rfl,hb1⟩;have HB1:=Za (HB.o.trans (hb1.mono HB.o.size));have HL2:=Za (HL1.o.old hb1);clear hb1;go_wp2_with fail
  rw[HX1.o];refine(Tryz.strings_Count_one (Aa b) 10 w1).mono ?_;rintro e w2 ⟨he,hw2⟩;replace he:e=.returned (.int .i64 (Co b:Int)):=he;subst he;obtain rfl:w1=w2:=hw2.symm;go_wp2_with fail
  rw[HX2.o _ rfl];refine(Tryz.strings_HasPrefix (Aa r) (Aa [47,47]) w1).mono ?_;rintro e w2 ⟨he,hw2⟩;replace he:e=.returned (.bool (Ze r [47,47])):=he;obtain rfl:w1=w2:=hw2.symm
  cases hp:Ze r [47,47]
  ·rw[hp]at he
   subst he;have hs:=HS.o;rw[if_neg (by rw[hp];decide)]at hs;have HE:=Za hs;clear hp hs;go_wp2_with fail
   go_ret3
   obtain⟨h1,h2,h3⟩:=HE.o;exact⟨by rw[←h1,←h2,←h3,show((n+Co b:Nat):Int)=(n:Int)+(Co b:Int)by omega];rfl,HB1.o⟩
  ·rw[hp]at he
   subst he;have hc2:=comm_ge hp;have hc3:=nB r;have hs:=HS.o;rw[if_pos hp]at hs;have HCM:=Za (fun w1 h=>eU r (by have:=HSP.o;omega) w1 h);have HX3:Hid (∀n,n=r.length→(Aa r).extract (He r).length n=Aa (r.drop (He r).length)):=Za (fun n hn=>Rv r _ n hn);have l3:((He r).length:Int)≤(r.length:Int):=by omega
   have l4:(He r).length≤r.length:=hc3;have hd:(r.drop (He r).length).length=r.length-(He r).length:=List.length_drop
   cases hcb:Xs r
   ·rw[if_neg (by rw[hcb];decide)]at hs
    rw[hcb]at HCM;have HE:=Za hs;generalize He r=c at*;clear hp hs hcb;go_wp2_with fail
    refine(HCM.o _ HL2.o).mono ?_;rintro e w2 ⟨rfl,hb2⟩;have HB2:=Za (HB1.o.trans (hb2.mono HB1.o.size));clear hb2;go_wp2_with fail
    go_ret3
    obtain⟨h1,h2,h3⟩:=HE.o;exact⟨by rw[←h1,←h2,←h3,show((n+Co b:Nat):Int)=(n:Int)+(Co b:Int)by omega];rfl,HB2.o⟩
   ·rw[if_pos hcb]at hs
    rw[hcb]at HCM;have HE:=Za hs;generalize He r=c at*;clear hp hs hcb;go_wp2_with fail
    refine(HCM.o _ HL2.o).mono ?_;rintro e w2 ⟨rfl,hb2⟩;have HB2:=Za (HB1.o.trans (hb2.mono HB1.o.size));clear hb2;go_wp2_with fail
    rw[HX3.o _ rfl];go_roundw
    case rel=>
     obtain⟨h1,h2,h3⟩:=HE.o;have hsp:=HSP.o;exact⟨r.drop c.length,n+Co b,f,rfl,by go_num,by omega,by omega,⟨h1,by rw[Nat.add_assoc];exact h2,h3⟩,HB2.o⟩
    case measure=>have hsp:=HSP.o;show(r.drop c.length).length<s1.length;omega
theorem sign_no {l:Bs}(h:Et l=false):∀x,x∈Xo→(l==x)=false:=fun x hx=>by
 cases hq:(l==x)with
 |false=>rfl
 |true=>
  have e:l=x:=by simpa using hq
  subst e;rw[show Et l=true from List.contains_iff_mem.2 hx]at h
  cases h
theorem tG(s:Bs)(h0:s≠[])(w:World):Calls Zh 94 #[.string (Aa s)] w (Xr (Ny s) w):=by
 have h1:1≤s.length:=List.length_pos_iff.2 h0;have HX:=Za (Se s);have hmin:(min (2:Int) (s.length:Int))=((min 2 s.length:Nat):Int):=by omega
 obtain⟨M,hM⟩:∃M,min 2 s.length=M:=⟨_,rfl⟩;rw[hM]at hmin;have hM2:M≤2∧M≤s.length∧1≤M∧(M=1→s.length=1):=by omega
 have HM:=Za hM2;have ht1:s.length=1→s.take 2=s.take 1:=fun h=>by rw[List.take_of_length_le (by omega),List.take_of_length_le (by omega)]
 have HF:Hid (∀m,m≤M→1≤m→(∀j,m<j→j≤M→Et (s.take j)=false)→Et (s.take m)=true→Ny s=some (4,s.take m,0)):=Za (by
  intro m a1 a2 a4 a5;have:m=1∨m=2:=by omega
  unfold Ny;rcases this with rfl|rfl
  ·by_cases h:M=1
   ·rw[ht1 (hM2.2.2.2 h),a5];rfl
   ·rw[a4 2 (by omega) (by omega),a5];rfl
  ·rw[a5];rfl)
 have HG:Hid ((∀j,0<j→j≤M→Et (s.take j)=false)→Ny s=none):=Za (by
  intro a;have a1:=a 1 (by omega) (by omega);have a2:Et (s.take 2)=false:=by
   by_cases h:M=1
   ·rw[ht1 (hM2.2.2.2 h)];exact a1
   ·exact a 2 (by omega) (by omega)
  unfold Ny;rw[a2,a1];rfl)
 obtain⟨o,ho⟩:∃o,Ny s=o:=⟨_,rfl⟩;rw[ho]at HF HG ⊢;have HO:=Za (Ae.new w [.int .i64 0,.string ⟨#[]⟩,.int .i64 0,.int .i64 0] 50);have HB0:=Za ((Zm w.heap.size w).alloc (Nat.le_refl _) (.cells #[.int .i64 0,.string ⟨#[]⟩,.int .i64 0,.int .i64 0] 50));clear ho h0 hM hM2 ht1;go_enter func94,ntmps94
 go_wp2_with fail
 go_loopw [4] (fun s4 wr=> ∃m:Nat,m≤M∧s4=.int .i64 m∧wr=w.alloc (.cells #[.int .i64 0,.string ⟨#[]⟩,.int .i64 0,.int .i64 0] 50)∧Hid (∀j,m<j→j≤M→Et (s.take j)=false)) (fun s4 _=>match s4 with|.int _ n=>n.toNat|_=>0)
 case atStart=>exact⟨M,Nat.le_refl _,by first|rw[hmin]|rfl,rfl,fun j h1 h2=>by omega⟩
 case round=>
  obtain⟨m,hm,rfl,rfl,hp⟩:=hrel;have hM2:=HM.o
  by_cases hm0:m=0
  ·subst hm0
   have HE:=Za (HG.o hp);have q0:=HO.o.at 0 _ rfl;have q1:=HO.o.at 1 _ rfl;have q2:=HO.o.at 2 _ rfl;have q3:=HO.o.at 3 _ rfl;clear hp;go_wp2_with fail
   exact bodyPost_ret (v:=.tuple #[Ku 0 [] 0 0,.bool false]) (by simp [results,results94,go_sem,Ku,q0,q1,q2,q3]) rfl ⟨⟨_,_,_,_,rfl,by rw[HE.o];rfl⟩,HB0.o⟩
  ·have hmI:(0:Int)<(m:Int):=by omega
   have hmL:(m:Int)≤(s.length:Int):=by omega
   have hmN:m≤s.length:=by omega
   have hm1:(m:Int)-1=((m-1:Nat):Int):=by omega
   have HM1:=Za hm1;have hx:=HX.o m;have HFF:=Za (HF.o m hm (by omega) hp);have HR:Hid (Et (s.take m)=false→∀j,m-1<j→j≤M→Et (s.take j)=false):=Za (fun h j h1 h2=>by
    by_cases e:j=m
    ·rw[e];exact h
    ·exact hp j (by omega) h2)
   clear hp hm1;generalize s.take m=l at*
   cases hs:Et l
   ·have hf:=sign_no hs
    have g0:=hf [61,61] (by decide);have g1:=hf [33,61] (by decide);have g2:=hf [60,61] (by decide);have g3:=hf [62,61] (by decide);have g4:=hf [60,60] (by decide);have g5:=hf [62,62] (by decide);have g6:=hf [40] (by decide);have g7:=hf [41] (by decide);have g8:=hf [123] (by decide);have g9:=hf [125] (by decide);have g10:=hf [91] (by decide);have g11:=hf [93] (by decide);have g12:=hf [44] (by decide);have g13:=hf [59] (by decide);have g14:=hf [61] (by decide);have g15:=hf [124] (by decide);have g16:=hf [94] (by decide);have g17:=hf [38] (by decide);have g18:=hf [43] (by decide);have g19:=hf [45] (by decide);have g20:=hf [42] (by decide);have g21:=hf [47] (by decide);have g22:=hf [37] (by decide);have g23:=hf [33] (by decide);have g24:=hf [126] (by decide);have g25:=hf [60] (by decide);have g26:=hf [62] (by decide);have HRR:=Za (HR.o hs);clear hf HFF hs HR;go_wp2_with fail
    exact⟨⟨m-1,by omega,by rw[HM1.o],trivial,HRR.o⟩,by simp;omega⟩
   ·have HFF2:=Za (HFF.o hs)
    have hs2:=Iw hs;clear HFF hs HR;rcases hs2 with rfl|rfl|rfl|rfl|rfl|rfl|rfl|rfl|rfl|rfl|rfl|rfl|rfl|rfl|rfl|rfl|rfl|rfl|rfl|rfl|rfl|rfl|rfl|rfl|rfl|rfl|rfl
    all_goals
     go_wp2_with fail
     exact bodyPost_ret (v:=.tuple #[Ku 4 _ 0 0,.bool true]) (by simp [results,results94,go_sem,Ku]) rfl ⟨⟨_,_,_,_,rfl,HFF2.o⟩,bA⟩
theorem pQ(s:Bs)(h0:s≠[])(hz:s.length≤1000000)(w:World)(hl:Jj w):Calls Zh 41 #[.string (Aa s)] w (Xr (Oc s) w):=by
 obtain⟨c,t,rfl⟩:∃c t,s=c::t:=by cases s with|nil=>exact absurd rfl h0|cons c t=>exact⟨c,t,rfl⟩
 have HL:=Za hl;have HZ:=Za hz;have h0':0<(Aa (c::t)).size:=by show 0<(c::t).length;simp
 have hz1:(0:Int)<((c::t).length:Int):=by rw[Zp];omega
 have hzN:0<(c::t).length:=by simp
 have hc8:=c.toNat_lt;have HWR:=Za (show wrap32 (((Aa (c::t))[0]'h0').toNat:Int)=(c.toNat:Int)by
  show wrap32 (c.toNat:Int)=_
  unfold wrap32;omega)
 have HO:=Za (Ae.new w [.int .i64 0,.string ⟨#[]⟩,.int .i64 0,.int .i64 0] 50);have HB0:=Za ((Zm w.heap.size w).alloc (Nat.le_refl _) (.cells #[.int .i64 0,.string ⟨#[]⟩,.int .i64 0,.int .i64 0] 50));have HLE:=Za (Lx c);have HDI:=Za (Lm c);have hq:((c.toNat:Int)==39)=decide (c=39):=by
  rw[Bool.eq_iff_iff,beq_iff_eq,decide_eq_true_iff,←UInt8.toNat_inj];show _↔c.toNat=39
  omega
 have HQ:=Za hq;have HF:Hid (Oc (c::t)=if Cc c=true then Ow (c::t)else if Bn c=true then cM (c::t)else if c=39 then eH (c::t)else Ny (c::t)):=rfl;have H0:=Za h0;clear hl hz hc8 h0 hq;go_enter func41,ntmps41
 go_wp2_with fail
 rw[HWR.o];refine(Iz _ _).mono ?_;rw[HLE.o]
 cases hl:Cc c
 ·rintro e w1 ⟨rfl,rfl⟩
  have HC1:=Za hl;clear hl;go_wp2_with fail
  refine(Mv _ _).mono ?_;rw[HDI.o]
  cases hd:Bn c
  ·rintro e w1 ⟨rfl,rfl⟩
   have HC2:=Za hd;clear hd
   by_cases hc:c=39
   ·have hq:((c.toNat:Int)==39)=true:=by rw[HQ.o];simp [hc]
    have HT:=Za (lK (c::t) H0.o HZ.o _ (HL.o.old HB0.o));rw[show eH (c::t)=Oc (c::t)by rw[HF.o,if_neg (by rw[HC1.o];decide),if_neg (by rw[HC2.o];decide),if_pos hc]]at HT;clear hc HF HQ;go_wp2_with fail
    refine HT.o.mono ?_;rintro e w3 ⟨⟨k,x,n,ok,rfl,ho⟩,hb3⟩;unfold Ku;have HO3:=Za (HO.o.old hb3);have HB3:=Za (HB0.o.trans (hb3.mono HB0.o.size));have HOO:=Za ho;clear hb3 ho HT;have q0:=HO3.o.at 0 _ rfl;have f0:=HO3.o.fz 0;have q1:=HO3.o.at 1 _ rfl;have f1:=HO3.o.fz 1;have q2:=HO3.o.at 2 _ rfl;have f2:=HO3.o.fz 2;have q3:=HO3.o.at 3 _ rfl;have f3:=HO3.o.fz 3;have ql:=HO3.o.lt;go_wp2_with fail
    have HS:=Za ((((HO3.o.set 0 (.int .i64 k)).set 1 (.string (Aa x))).set 2 (.int .i64 n)).set 3 (.int .i64 0));have e0:=HS.o.at 0 _ rfl;have e1:=HS.o.at 1 _ rfl;have e2:=HS.o.at 2 _ rfl;have e3:=HS.o.at 3 _ rfl;exact bodyPost_ret (v:=.tuple #[.agg #[.int .i64 k,.string (Aa x),.int .i64 n,.int .i64 0],.bool ok]) (by simp [results,results41,go_sem,e0,e1,e2,e3]) rfl ⟨⟨_,_,_,_,rfl,HOO.o⟩,Vl w _ HB3.o _ _ _ _⟩
   ·have hq:((c.toNat:Int)==39)=false:=by rw[HQ.o];simp [hc]
    have HT:=Za (tG (c::t) H0.o (w.alloc (.cells #[.int .i64 0,.string ⟨#[]⟩,.int .i64 0,.int .i64 0] 50)));rw[show Ny (c::t)=Oc (c::t)by rw[HF.o,if_neg (by rw[HC1.o];decide),if_neg (by rw[HC2.o];decide),if_neg hc]]at HT;clear hc HF HQ;go_wp2_with fail
    refine HT.o.mono ?_;rintro e w3 ⟨⟨k,x,n,ok,rfl,ho⟩,hb3⟩;unfold Ku;have HO3:=Za (HO.o.old hb3);have HB3:=Za (HB0.o.trans (hb3.mono HB0.o.size));have HOO:=Za ho;clear hb3 ho HT;have q0:=HO3.o.at 0 _ rfl;have f0:=HO3.o.fz 0;have q1:=HO3.o.at 1 _ rfl;have f1:=HO3.o.fz 1;have q2:=HO3.o.at 2 _ rfl;have f2:=HO3.o.fz 2;have q3:=HO3.o.at 3 _ rfl;have f3:=HO3.o.fz 3;have ql:=HO3.o.lt;go_wp2_with fail
    have HS:=Za ((((HO3.o.set 0 (.int .i64 k)).set 1 (.string (Aa x))).set 2 (.int .i64 n)).set 3 (.int .i64 0));have e0:=HS.o.at 0 _ rfl;have e1:=HS.o.at 1 _ rfl;have e2:=HS.o.at 2 _ rfl;have e3:=HS.o.at 3 _ rfl;exact bodyPost_ret (v:=.tuple #[.agg #[.int .i64 k,.string (Aa x),.int .i64 n,.int .i64 0],.bool ok]) (by simp [results,results41,go_sem,e0,e1,e2,e3]) rfl ⟨⟨_,_,_,_,rfl,HOO.o⟩,Vl w _ HB3.o _ _ _ _⟩
  ·rintro e w1 ⟨rfl,rfl⟩
   have HT:=Za (mI (c::t) HZ.o _ (HL.o.old HB0.o));rw[show cM (c::t)=Oc (c::t)by rw[HF.o,if_neg (by rw[HC1.o];decide),if_pos hd]]at HT;clear hd HF HQ;go_wp2_with fail
   refine HT.o.mono ?_;rintro e w3 ⟨⟨k,x,n,ok,rfl,ho⟩,hb3⟩;unfold Ku;have HO3:=Za (HO.o.old hb3);have HB3:=Za (HB0.o.trans (hb3.mono HB0.o.size));have HOO:=Za ho;clear hb3 ho HT;have q0:=HO3.o.at 0 _ rfl;have f0:=HO3.o.fz 0;have q1:=HO3.o.at 1 _ rfl;have f1:=HO3.o.fz 1;have q2:=HO3.o.at 2 _ rfl;have f2:=HO3.o.fz 2;have q3:=HO3.o.at 3 _ rfl;have f3:=HO3.o.fz 3;have ql:=HO3.o.lt;go_wp2_with fail
   have HS:=Za ((((HO3.o.set 0 (.int .i64 k)).set 1 (.string (Aa x))).set 2 (.int .i64 n)).set 3 (.int .i64 0));have e0:=HS.o.at 0 _ rfl;have e1:=HS.o.at 1 _ rfl;have e2:=HS.o.at 2 _ rfl;have e3:=HS.o.at 3 _ rfl;exact bodyPost_ret (v:=.tuple #[.agg #[.int .i64 k,.string (Aa x),.int .i64 n,.int .i64 0],.bool ok]) (by simp [results,results41,go_sem,e0,e1,e2,e3]) rfl ⟨⟨_,_,_,_,rfl,HOO.o⟩,Vl w _ HB3.o _ _ _ _⟩
 ·rintro e w1 ⟨rfl,rfl⟩
  have HT:=Za (sO (c::t) (w.alloc (.cells #[.int .i64 0,.string ⟨#[]⟩,.int .i64 0,.int .i64 0] 50)));rw[show Ow (c::t)=Oc (c::t)by rw[HF.o,if_pos hl]]at HT;clear hl HF HQ;go_wp2_with fail
  refine HT.o.mono ?_;rintro e w3 ⟨⟨k,x,n,ok,rfl,ho⟩,hb3⟩;unfold Ku;have HO3:=Za (HO.o.old hb3);have HB3:=Za (HB0.o.trans (hb3.mono HB0.o.size));have HOO:=Za ho;clear hb3 ho HT;have q0:=HO3.o.at 0 _ rfl;have f0:=HO3.o.fz 0;have q1:=HO3.o.at 1 _ rfl;have f1:=HO3.o.fz 1;have q2:=HO3.o.at 2 _ rfl;have f2:=HO3.o.fz 2;have q3:=HO3.o.at 3 _ rfl;have f3:=HO3.o.fz 3;have ql:=HO3.o.lt;go_wp2_with fail
  have HS:=Za ((((HO3.o.set 0 (.int .i64 k)).set 1 (.string (Aa x))).set 2 (.int .i64 n)).set 3 (.int .i64 0));have e0:=HS.o.at 0 _ rfl;have e1:=HS.o.at 1 _ rfl;have e2:=HS.o.at 2 _ rfl;have e3:=HS.o.at 3 _ rfl;exact bodyPost_ret (v:=.tuple #[.agg #[.int .i64 k,.string (Aa x),.int .i64 n,.int .i64 0],.bool ok]) (by simp [results,results41,go_sem,e0,e1,e2,e3]) rfl ⟨⟨_,_,_,_,rfl,HOO.o⟩,Vl w _ HB3.o _ _ _ _⟩
theorem Mr {w w':World}{base size n:Nat}{e:TypeId}{v:Value}{xs:List Value}(h:w.ownsRow base e size v n xs)(hb:Below w.heap.size w w'):w'.ownsRow base e size v n xs:=by
 refine⟨h.1,?_⟩;rcases h.2 with hn|⟨g,cap,cur,rfl,hg,hh,r⟩
 ·exact .inl hn
 ·refine .inr ⟨g,cap,cur,rfl,hg,?_,r⟩
  rw[hb.block g (by
   rcases Nat.lt_or_ge g w.heap.size with h'|h'
   ·exact h'
   ·simp [Array.getElem?_eq_none h']at hh)]
  exact hh
theorem Oz {w:World}{base size n:Nat}{e:TypeId}{v:Value}{xs:List Value}(h:w.ownsRow base e size v n xs){k:Nat}(hk:v.ownBlock≠some k)(i:Nat)(x:Value):(w.setCell ⟨k,i,none⟩ x).ownsRow base e size v n xs:=by
 refine⟨h.1,?_⟩;rcases h.2 with hn|⟨g,cap,cur,rfl,hg,hh,r⟩
 ·exact .inl hn
 ·refine .inr ⟨g,cap,cur,rfl,hg,?_,r⟩
  rw[Below.heap_setCell _ _ _ _ (by rintro rfl;exact hk rfl)];exact hh
theorem zrow_at {w:World}{base size n g:Nat}{e:TypeId}{cap:Nat}{xs:List Value}(h:w.ownsRow base e size (.slice (some ⟨g,0,none⟩) n cap) n xs)(j:Nat)(u:Value)(hu:xs[j]? =some u):w.cell? ⟨g,j,none⟩=some u:=by
 have h1:=h.cells (g:=g) rfl j u hu;have h2:(⟨g,0,none⟩:Addr).add j=⟨g,j,none⟩:=by unfold Addr.add;split<;>simp_all
 rwa[h2]at h1
theorem jX {w:World}{base size n:Nat}{e:TypeId}{v:Value}{xs:List Value}(h:w.ownsRow base e size v n xs):(v=.slice none 0 0∧n=0)∨∃g cap,v=.slice (some ⟨g,0,none⟩) n cap:=by
 rcases h.2 with h'|⟨g,cap,cur,rfl,_⟩
 ·exact .inl h'
 ·exact .inr ⟨g,cap,rfl⟩
theorem mC {w:World}{base size n:Nat}{e:TypeId}{v:Value}{xs:List Value}(h:w.ownsRow base e size v n xs):∃a cap,v=.slice a n cap:=by
 rcases jX h with⟨rfl,rfl⟩|⟨g,cap,rfl⟩
 ·exact⟨none,0,rfl⟩
 ·exact⟨_,_,rfl⟩
theorem Um {B:Nat}{a w w':World}(h:Below B a w){row:Option Nat}(hg:w.grownBy w' row)(hr:∀k,row=some k→B≤k)(hB:B≤w.heap.size):Below B a w':=
 ⟨hg.os.trans h.os,hg.tape.trans h.tape,hg.output.trans h.output,Nat.le_trans h.size hg.size,fun k hk=>(hg.block k (Nat.lt_of_lt_of_le hk hB) (fun e=>by have:=hr k e.symm;omega)).trans (h.block k hk)⟩
theorem Gy {B:Nat}{a w:World}(h:Below B a w){k:Nat}(hk:B≤k)(i:Nat)(v:Value):Below B a (w.setCell ⟨k,i,none⟩ v):=h.setCell (p:=⟨k,i,none⟩) hk v
theorem Ae.grow {w w':World}{b:Nat}{cs:List Value}{T:TypeId}(h:Ae w b cs T){row:Option Nat}(hg:w.grownBy w' row)(hr:row≠some b):Ae w' b cs T:=(hg.block b h.lt (fun e=>hr e.symm)).trans h
theorem Ae.news {w:World}{b:Nat}{cs:List Value}{T:TypeId}(h:Ae w b cs T):∀j u,cs[j]? =some u→w.cell? ((⟨b,0,none⟩:Addr).add j)=some u:=by
 intro j u hu;have h2:(⟨b,0,none⟩:Addr).add j=⟨b,j,none⟩:=by unfold Addr.add;split<;>simp_all
 rw[h2];exact h.at j u hu
theorem jH {α:Type}(f:α→List Value)(k:Nat)(hf:∀x,(f x).length=k):∀(l:List α) (i q:Nat) (p:α),l[i]? =some p→q<k→(l.flatMap f)[i*k+q]? =(f p)[q]?
 |[],i,q,p,h,_=>by simp at h
 |x::l,0,q,p,h,hq=>by
  simp at h;subst h;rw[Zi,List.getElem?_append_left (by rw[hf];omega)];simp
 |x::l,i+1,q,p,h,hq=>by
  simp at h;have:=jH f k hf l i q p h hq;rw[Zi,List.getElem?_append_right (by rw[hf,Nat.add_mul];omega),←this];congr 1;rw[hf,Nat.add_mul];omega
theorem Wq:∀(f:Nat) (s:Bs),(Fs f s).2.1+(Fs f s).1.length≤s.length
 |0,s=>Nat.le_of_eq (Nat.zero_add _)
 |f+1,s=>by
  have h1:=congrArg List.length (Ls Be s);rw[Zk,Rp]at h1;have h2:Co (s.takeWhile Be)≤(s.takeWhile Be).length:=List.count_le_length;rw[Fs];split
  ·split
   ·have:=Wq f ((s.dropWhile Be).drop (He (s.dropWhile Be)).length)
    rw[List.length_drop]at this;show Co _+(Fs f _).2.1+(Fs f _).1.length≤_
    omega
   ·show Co (s.takeWhile Be)+(s.dropWhile Be).length≤_;omega
  ·show Co (s.takeWhile Be)+(s.dropWhile Be).length≤_;omega
def nH(done:List Tk):Except Nat (List Tk)→Except Nat (List Tk)
 |.ok l=>.ok (done++l)
 |.error e=>.error e
theorem kU(done:List Tk)(t:Tk)(r:Except Nat (List Tk)):nH (done++[t]) r=nH done (match r with|.error e=>.error e|.ok l=>.ok (t::l)):=by
 cases r with
 |error e=>rfl
 |ok l=>show Except.ok (done++[t]++l)=_;rw[Zb];rfl
def Ou(r:Except Nat (List Tk))(w:World)(e:Ending)(w':World):Prop:=Below w.heap.size w w'∧match r with
 |.ok T=> ∃v,e=.returned (.tuple #[v,.int .i64 0,.int .i64 0])∧Gt w' w.heap.size T v
 |.error n=>e=.returned (.tuple #[.slice none 0 0,.int .i64 20,.int .i64 (n:Int)])
theorem Ou.okE {r:Except Nat (List Tk)}{w w':World}{e:Ending}{T:List Tk}(h:r=.ok T)(hb:Below w.heap.size w w')(h2:∃v,e=.returned (.tuple #[v,.int .i64 0,.int .i64 0])∧Gt w' w.heap.size T v):Ou r w e w':=by subst h;exact⟨hb,h2⟩
theorem Ou.noE {r:Except Nat (List Tk)}{w w':World}{e:Ending}{n:Nat}(h:r=.error n)(hb:Below w.heap.size w w')(h2:e=.returned (.tuple #[.slice none 0 0,.int .i64 20,.int .i64 (n:Int)])):Ou r w e w':=by subst h;exact⟨hb,h2⟩
theorem xF(z:Bs)(hz:z.length≤20000)(w:World)(hl:Jj w):
  Calls Zh 20 #[.string (Aa z)] w (Ou (Ql (z.length+1) z 1) w):=by
 obtain⟨RES,hres⟩:∃R,Ql (z.length+1) z 1=R:=⟨_,rfl⟩;rw[hres];have HL:=Za hl;have HZ:=Za hz;have HRES:=Za hres;have hlenI:(z.length:Int)≤20000:=by omega
 obtain⟨i0,hi0,hz0,hz1,hz2⟩:=info_parts infoTk;have HI0:=Za hi0;have HZ0:=Za hz0;have HZ1:=Za hz1;have HZ2:=Za hz2;clear hi0 hz0 hz1 hz2 hl hz hres;go_enter func20,ntmps20
 go_wp2_with fail
 go_loopw [0,2,5] (fun s0 s2 s5 wr=> ∃(q1:Bs) (n f:Nat) (done:List Tk),s0=.string (Aa q1)∧s5=.int .i64 n∧Gt wr w.heap.size done s2∧q1.length<f∧done.length+q1.length≤20000∧n+q1.length≤20001∧Hid (nH done (Ql f q1 n)=RES)∧Below w.heap.size w wr) (fun s0 _ _ _=>match s0 with|.string s=>s.size|_=>0)
 case atStart=>exact⟨z,1,z.length+1,[],rfl,rfl,Gt.zero _ _,Nat.lt_succ_self _,by simpa using HZ.o,by have:=HZ.o;omega,by rw[HRES.o];cases RES<;>rfl,Zm _ _⟩
 case round=>
  obtain⟨q1,n,f,done,rfl,rfl,hown,hf,hdl,hnl,hcomb,hb⟩:=hrel;obtain⟨f,rfl⟩:∃g,f=g+1:=⟨f-1,by omega⟩;obtain⟨oa,oc,rfl⟩:=mC hown;have HL1:=Za (HL.o.old hb);have HB:=Za hb;have hroom:=Wq (q1.length+1) q1;have HSK:=Za (sF q1 (by omega) wr HL1.o);rw[Ql]at hcomb;obtain⟨sk,hsk⟩:∃q,Fs (q1.length+1) q1=q:=⟨_,rfl⟩;rw[hsk]at hroom HSK hcomb;obtain⟨rest,F,ok⟩:=sk;dsimp only at hroom HSK hcomb;have HOWN:=Za hown;have HOB:Hid (∀k,(Value.slice oa done.length oc).ownBlock=some k→w.heap.size≤k∧k<wr.heap.size):=fun k e=>hown.ge e
  have HCB:=Za hcomb;have nI:(n:Int)+(F:Int)≤1000000:=by omega
  have nJ:(0:Int)≤(n:Int)+(F:Int):=by omega
  have hN:(n:Int)+(F:Int)=((n+F:Nat):Int):=by omega
  have HN:=Za hN;clear hown hb hsk hcomb hN
  cases ok with
  |false=>
   have hc:=HCB.o;rw[if_neg (by decide)]at hc;have HE:=Za (show RES=.error (n+F)from hc.symm);clear hc HCB;go_wp2_with fail
   refine HSK.o.mono ?_;rintro e w1 ⟨rfl,hb1⟩;have HB1:=Za (HB.o.trans (hb1.mono HB.o.size));have hge:w.heap.size≤w1.heap.size:=HB1.o.size;clear hb1;go_wp2_with fail
   go_ret3
   exact Ou.noE HE.o (HB1.o.alloc hge _) (by rw[←HN.o];rfl)
  |true=>
   cases rest with
   |nil=>
    have hc:=HCB.o;rw[if_pos rfl,if_pos rfl]at hc;have HE:=Za (show RES=.ok (done++[⟨5,[],0,((n+F:Nat):Int)⟩])from hc.symm);clear hc HCB;go_wp2_with fail
    refine HSK.o.mono ?_;rintro e w1 ⟨rfl,hb1⟩;have HB1:=Za (HB.o.trans (hb1.mono HB.o.size));have HOWN1:=Za (Mr HOWN.o hb1);have hsz1:=hb1.size;have hbA:Below w1.heap.size w1 (w1.alloc (.cells #[.int .i64 5,.string ⟨#[]⟩,.int .i64 0,.int .i64 ((n:Int)+(F:Int))] 50)):=bA;have HOWN2:=Za (Mr HOWN1.o hbA);have HB2:=Za (HB1.o.trans (hbA.mono HB1.o.size));have HNEW:=Za (Ae.new w1 [.int .i64 5,.string ⟨#[]⟩,.int .i64 0,.int .i64 ((n:Int)+(F:Int))] 50);clear hb1 hbA;go_wp2_with (at_builtin;(refine wpList_append_lies (P:=Zh) _ rfl _ _ 46 rfl w.heap.size 50 i0 _ 4 40 underlying46 HI0.o HZ0.o HZ1.o HZ2.o rfl (by decide) (.slice oa done.length oc) done.length (done.flatMap Ii) rfl HOWN2.o ⟨w1.heap.size,0,none⟩ 1 1 (Ii ⟨5,[],0,(n:Int)+(F:Int)⟩) rfl rfl HNEW.o.news (Un _) (by decide) (by unfold maxLen;omega) (by omega) (by have:=HB2.o.size;exact this) _ rfl ?_;intro g cap w11 hown hgrow hat hlt11;have HB11:=Za (Um HB2.o hgrow (fun k e=>(HOB.o k e).1) HB2.o.size);have HS:=Za (Gt.snoc ⟨5,[],0,(n:Int)+(F:Int)⟩ hown);clear hown hgrow hat))
    go_ret3
    refine Ou.okE HE.o HB11.o ⟨_,rfl,?_⟩;have hs:=HS.o;rw[HN.o]at hs;have hl9:(done++[(⟨5,[],0,((n+F:Nat):Int)⟩:Tk)]).length=done.length+1:=by simp
    exact hs
   |cons c0 t0=>
    have hne:c0::t0≠[]:=by simp
    have HTK:=Za fun w1 h=>pQ (c0::t0) hne (by omega) w1 h
    have hc:=HCB.o;rw[if_pos rfl,if_neg hne]at hc;have htk:=fun k x n (h:Oc (c0::t0)=some (k,x,n))=>tokF_ok h
    have hre:(c0::t0).isEmpty=false:=rfl;obtain⟨r,hr⟩:∃r,c0::t0=r:=⟨_,rfl⟩;rw[hr]at HSK HTK hc htk hre hroom;obtain⟨o,ho⟩:∃o,Oc r=o:=⟨_,rfl⟩;rw[ho]at HTK hc htk;have HC:=Za hc;have HTX:=Za htk;have HRO:=Za hroom;have HXS:=Za (Rv r);clear hr ho hc hne htk hroom;go_wp2_with fail
    refine HSK.o.mono ?_;rintro e w1 ⟨rfl,hb1⟩;have HB1:=Za (HB.o.trans (hb1.mono HB.o.size));have HL2:=Za (HL1.o.old hb1);have HOWN1:=Za (Mr HOWN.o hb1);have hsz1:=hb1.size;have HO:=Za (Ae.new w1 [.int .i64 0,.string ⟨#[]⟩,.int .i64 0,.int .i64 0] 50);have hbA:Below w1.heap.size w1 (w1.alloc (.cells #[.int .i64 0,.string ⟨#[]⟩,.int .i64 0,.int .i64 0] 50)):=bA;have HL3:=Za (HL2.o.old hbA);have HB2:=Za (HB1.o.trans (hbA.mono HB1.o.size));have HOWN2:=Za (Mr HOWN1.o hbA);have hge:w.heap.size≤w1.heap.size:=HB1.o.size;clear hb1 hbA;go_wp2_with fail
    refine(HTK.o _ HL3.o).mono ?_;rintro e w3 ⟨⟨k,x,nn,ok,rfl,ho⟩,hb3⟩;unfold Ku;have HO3:=Za (HO.o.old hb3);have HB3:=Za (HB2.o.trans (hb3.mono HB2.o.size));have HOWN3:=Za (Mr HOWN2.o hb3);clear hb3;have q0:=HO3.o.at 0 _ rfl;have f0:=HO3.o.fz 0;have qq1:=HO3.o.at 1 _ rfl;have f1:=HO3.o.fz 1;have q2:=HO3.o.at 2 _ rfl;have f2:=HO3.o.fz 2;have q3:=HO3.o.at 3 _ rfl;have f3:=HO3.o.fz 3;have ql:=HO3.o.lt
    cases ok with
    |false=>
     subst ho;have HE:=Za (show RES=.error (n+F)from HC.o.symm);clear HC HTX;go_wp2_with fail
     go_ret3
     refine Ou.noE HE.o ?_ (by rw[←HN.o];rfl);exact Gy (Gy (Gy (Gy HB3.o hge _ _) hge _ _) hge _ _) hge _ _
    |true=>
     subst ho;obtain⟨x1,x2,x3,x4⟩:=HTX.o k x nn rfl;have hxl:=congrArg List.length x2;rw[Zk]at hxl;have hxp:0<x.length:=List.length_pos_iff.2 x1;have hc:=HC.o;have hcc:nH (done++[⟨k,x,nn,((n+F:Nat):Int)⟩]) (Ql f (r.drop x.length) (n+F))=RES:=by rw[kU];exact hc
     have HCC:=Za hcc;have hx1:(x.length:Int)≤(r.length:Int):=by omega
     have hx2:x.length≤r.length:=by omega
     have HDL:Hid ((r.drop x.length).length=r.length-x.length):=Za List.length_drop;clear hc hcc x1 x2 x3 x4 hxl HC HTX;go_upto_region 14 with(fail)
     have HS:=Za (((((HO3.o.set 0 (.int .i64 k)).set 1 (.string (Aa x))).set 2 (.int .i64 nn)).set 3 (.int .i64 0)).set 3 (.int .i64 ((n:Int)+(F:Int))));have HBS:=Za (Gy (Gy (Gy (Gy (Gy HB3.o hge 0 (.int .i64 k)) hge 1 (.string (Aa x))) hge 2 (.int .i64 nn)) hge 3 (.int .i64 0)) hge 3 (.int .i64 ((n:Int)+(F:Int))));have hbo:(Value.slice oa done.length oc).ownBlock≠some w1.heap.size:=fun e=>by have:=(HOB.o _ e).2;omega
     have HBO:=Za hbo;have HOS:=Za (Oz (Oz (Oz (Oz (Oz HOWN3.o hbo 0 (.int .i64 k)) hbo 1 (.string (Aa x))) hbo 2 (.int .i64 nn)) hbo 3 (.int .i64 0)) hbo 3 (.int .i64 ((n:Int)+(F:Int))));obtain⟨W,hW⟩:∃W,(((((w3.setCell ⟨w1.heap.size,0,none⟩ (.int .i64 k)).setCell ⟨w1.heap.size,1,none⟩ (.string (Aa x))).setCell ⟨w1.heap.size,2,none⟩ (.int .i64 nn)).setCell ⟨w1.heap.size,3,none⟩ (.int .i64 0)).setCell ⟨w1.heap.size,3,none⟩ (.int .i64 ((n:Int)+(F:Int))))=W:=⟨_,rfl⟩;rw[hW]at HS HBS HOS ⊢;clear hW q0 f0 qq1 f1 q2 f2 q3 f3 ql hbo;have hbA:Below W.heap.size W (W.alloc (.cells #[.int .i64 k,.string (Aa x),.int .i64 nn,.int .i64 ((n:Int)+(F:Int))] 50)):=bA;have HS2:=Za (HS.o.old hbA);have HB5:=Za (HBS.o.trans (hbA.mono HBS.o.size));have HOWN5:=Za (Mr HOS.o hbA);have HNEW:=Za (Ae.new W [.int .i64 k,.string (Aa x),.int .i64 nn,.int .i64 ((n:Int)+(F:Int))] 50);have c0:=HS.o.at 0 _ rfl;have c1:=HS.o.at 1 _ rfl;have c2:=HS.o.at 2 _ rfl;have c3:=HS.o.at 3 _ rfl;have cl:=HS.o.lt;clear hbA;go_wp2_with (at_builtin;(refine wpList_append_lies (P:=Zh) _ rfl _ _ 46 rfl w.heap.size 50 i0 _ 4 40 underlying46 HI0.o HZ0.o HZ1.o HZ2.o rfl (by decide) (.slice oa done.length oc) done.length (done.flatMap Ii) rfl HOWN5.o ⟨W.heap.size,0,none⟩ 1 1 (Ii ⟨k,x,nn,(n:Int)+(F:Int)⟩) rfl rfl HNEW.o.news (Un _) (by decide) (by unfold maxLen;omega) (by omega) (by have:=HB5.o.size;exact this) _ rfl ?_;intro g cap w11 hown hgrow hat hlt11;have HB11:=Za (Um HB5.o hgrow (fun k e=>(HOB.o k e).1) HB5.o.size);have HS11:=Za (Gt.snoc ⟨k,x,nn,(n:Int)+(F:Int)⟩ hown);have y1:=(HS2.o.grow hgrow HBO.o).at 1 _ rfl;have yl:=(HS2.o.grow hgrow HBO.o).lt;clear hown hgrow hat))
     rw[HXS.o _ _ rfl];go_roundw
     case rel=>
      have hro:=HRO.o;have hdl2:=HDL.o;refine⟨r.drop x.length,n+F,f,done++[⟨k,x,nn,((n+F:Nat):Int)⟩],rfl,by rw[←HN.o],?_,by omega,by rw[Zk,List.length_singleton];omega,by omega,HCC,HB11.o⟩;have hs:=HS11.o;rw[HN.o]at hs;exact hs
     case measure=>have hro:=HRO.o;have hdl2:=HDL.o;show(r.drop x.length).length<q1.length;omega
def Sf(r:Int):Bool:=Gk r||Hw r
theorem Ws(c:UInt8):Sf (c.toNat:Nat)=In c:=by unfold Sf In;rw[Lx,Lm]
def Ao(b0:Bs)(l:List (Bs ×Bs)):Bs:=b0++l.flatMap (fun p=>p.1++p.2)
structure xD (c:Bs):Prop where
 pre:∃r,c=47::47::r
 nofeed:(10:UInt8) ∉ c
 valid:Lib.validD c=true
 mark:Lib.contains c [239,191,189]=false
structure Oa (b0:Bs)(l:List (Bs ×Bs)):Prop where
 blank:∀c,c∈b0→Be c=true
 comm:∀p,p∈l→xD p.1∧(∀c,c∈p.2→Be c=true)∧∃r,p.2=10::r
theorem cB(a b:Bs):Co (a++b)=Co a+Co b:=List.count_append
theorem tK(c:Bs)(h:(10:UInt8) ∉ c):Co c=0:=List.count_eq_zero.2 h
def Front(r:Bs):Prop:=(r=[]∨∃c t,r=c::t∧Be c=false)∧Ze r [47,47]=false
theorem Ys:∀(l:List (Bs ×Bs)) (b r:Bs) (f:Nat),Oa b l→l.length<f→Front r→Fs f (Ao b l++r)=(r,Co (Ao b l),true)
 |l,b,r,0,hg,hf,hr=>absurd hf (Nat.not_lt_zero _)
 |[],b,r,f+1,hg,hf,hr=>by
  have e:Ao b []=b:=by unfold Ao;simp
  obtain⟨h1,h2⟩:=Pq Be b r hg.blank hr.1;rw[e,Fs,h1,h2,if_neg (by rw[hr.2];decide)]
 |(c,b2)::l,b,r,f+1,hg,hf,hr=>by
  obtain⟨hco,hb2,b3,hb3⟩:=hg.comm _ Zc;have hb3:b2=10::b3:=hb3;have hco:xD c:=hco;have hb2:∀c,c∈b2→Be c=true:=hb2;obtain⟨c3,hc3⟩:=hco.pre;have ih:=Ys l b2 r f ⟨hb2,fun p hp=>hg.comm p (Zj _ hp)⟩ (by rw[Zp]at hf;omega) hr;have e1:Ao b ((c,b2)::l)=b++(c++Ao b2 l):=by unfold Ao;simp
  have e2:Ao b ((c,b2)::l)++r=b++(c++(Ao b2 l++r)):=by rw[e1];simp
  have e3:∃t,Ao b2 l++r=10::t:=⟨b3++(l.flatMap (fun p=>p.1++p.2)++r),by unfold Ao;rw[hb3];simp⟩;obtain⟨t,e3⟩:=e3;obtain⟨h1,h2⟩:=Pq Be b (c++(Ao b2 l++r)) hg.blank (.inr ⟨47,47::(c3++(Ao b2 l++r)),by rw[hc3];rfl,by decide⟩);have hcm:He (c++(Ao b2 l++r))=c:=by
   rw[Wm,e3];exact(Pq (fun c=>c !=10) c (10::t) (fun x hx=>by
    have:x≠10:=fun e=>hco.nofeed (by rw[←e];exact hx)
    simpa using this) (.inr ⟨10,t,rfl,by decide⟩)).1
  have hcb:Xs (c++(Ao b2 l++r))=true:=by unfold Xs;rw[hcm,hco.valid,hco.mark];rfl
  have hpre:Ze (c++(Ao b2 l++r)) [47,47]=true:=by rw[hc3];simp [Ze]
  rw[e2,Fs,h1,h2,if_pos hpre,if_pos hcb,hcm,List.drop_left,ih,e1,cB,cB,tK c hco.nofeed,Nat.zero_add]
theorem Tl:∀(l:List (Bs ×Bs)) (b:Bs),Oa b l→l.length≤(Ao b l).length
 |[],b,_=>Nat.zero_le _
 |(c,b2)::l,b,hg=>by
  obtain⟨hco,hb2,_⟩:=hg.comm _ Zc;obtain⟨c3,hc3⟩:=hco.pre;have hc3:c=47::47::c3:=hc3;have ih:=Tl l b2 ⟨hb2,fun p hp=>hg.comm p (Zj _ hp)⟩;have e1:Ao b ((c,b2)::l)=b++(c++Ao b2 l):=by unfold Ao;simp
  rw[e1,hc3,Zk,Zk,Zp,Zp,Zp];omega
inductive Lt:Bs→Int→Int→Prop
 |name (x:Bs) (hx:Am x=true) (hk:Ia x=false) (c:UInt8) (t:Bs) (hc:x=c::t) (hl:Cc c=true) (ha:∀c,c∈x→c.toNat<128∧Sf (c.toNat:Nat)=true):Lt x 1 0
 |word (x:Bs) (hk:Ia x=true) (c:UInt8) (t:Bs) (hc:x=c::t) (hl:Cc c=true) (ha:∀c,c∈x→c.toNat<128∧Sf (c.toNat:Nat)=true):Lt x 2 0
 |num (u:Nat) (hu:(Zf u).length≤19) (hi:u≤9223372036854775807) (c:UInt8) (t:Bs) (hc:Zf u=c::t) (hd:Bn c=true):Lt (Zf u) 3 u
 |quote (r:Nat) (x:Bs) (hr1:32≤r) (hr2:r≠39) (hr3:r≠92) (hr4:r≠65533) (hr5:r≤1114111) (hx:x.length≤4) (hd:∀rest,Lib.decodeGo (Aa (x++39::rest))=(r,x.length)):Lt (39::(x++[39])) 3 r
 |sign (x:Bs) (hs:Et x=true) (c:UInt8) (t:Bs) (hc:x=c::t) (h7:c.toNat<128) (hn:Cc c=false∧Bn c=false∧c≠39):Lt x 4 0
theorem cG {c:UInt8}(h:Cc c=true):c.toNat<128:=by
 simp [Cc,UInt8.le_iff_toNat_le]at h
 by_cases e:c=95
 ·rw[e];decide
 ·simp only[e,false_or,or_false]at h
  omega
theorem Xy {c:UInt8}(h:Bn c=true):c.toNat<128:=by
 simp [Bn,UInt8.le_iff_toNat_le]at h;omega
theorem Pm {c:UInt8}(h:Cc c=true):65≤c.toNat:=by
 simp [Cc,UInt8.le_iff_toNat_le]at h
 by_cases e:c=95
 ·rw[e];decide
 ·simp only[e,false_or,or_false]at h
  omega
theorem iZ {c:UInt8}(h:Bn c=true):48≤c.toNat:=by
 simp [Bn,UInt8.le_iff_toNat_le]at h;omega
theorem oQ {c:UInt8}(h:33≤c.toNat):Be c=false:=by
 cases hq:Be c with
 |false=>rfl
 |true=>rw[←Sz]at hq;simp [Mo]at hq;omega
theorem jT {c:UInt8}(h:Bn c=true):Cc c=false:=by
 have h1:=Xy h
 cases hq:Cc c with
 |false=>rfl
 |true=>have h2:=Pm hq;simp [Bn,UInt8.le_iff_toNat_le]at h;omega
theorem Lt.head {x:Bs}{k n:Int}(h:Lt x k n):∃c t,x=c::t∧33≤c.toNat:=by
 cases h with
 |name x hx hk c t hc hl ha=>exact⟨c,t,hc,by have:=Pm hl;omega⟩
 |word x hk c t hc hl ha=>exact⟨c,t,hc,by have:=Pm hl;omega⟩
 |num u hu hi c t hc hd=>exact⟨c,t,hc,by have:=iZ hd;omega⟩
 |quote q y=>exact⟨39,_,rfl,by decide⟩
 |sign x hs c t hc h7 hn=>
  rcases Iw hs with rfl|rfl|rfl|rfl|rfl|rfl|rfl|rfl|rfl|rfl|rfl|rfl|rfl|rfl|rfl|rfl|rfl|rfl|rfl|rfl|rfl|rfl|rfl|rfl|rfl|rfl|rfl<;>exact⟨_,_,rfl,by decide⟩
theorem Lt.ne {x:Bs}{k n:Int}(h:Lt x k n):x≠[]:=by obtain⟨c,t,e,_⟩:=h.head;rw[e];exact List.cons_ne_nil _ _
def Lb(k:Int):Bs→Bool
 |[]=>true
 |c::_=>decide (c.toNat<128) && (if k=4 then !(c==61) && !(c==60) && !(c==62) && !(c==47)else if k=3 then !(Hw (c.toNat:Nat))else !(Sf (c.toNat:Nat)))
theorem oF {k:Int}{b:UInt8}{r:Bs}(hb:Be b=true):Lb k (b::r)=true:=by
 have h:b=32∨b=9∨b=10∨b=13:=by
  simp only[Be,Bool.or_eq_true,beq_iff_eq]at hb;rcases hb with((h|h)|h)|h<;>simp [h]
 unfold Lb;rcases h with rfl|rfl|rfl|rfl<;>(dsimp only;split<;>first|decide|(split<;>decide))
theorem Lt.noComm {x:Bs}{k n:Int}(h:Lt x k n){r:Bs}(hs:Lb k r=true):Ze (x++r) [47,47]=false:=by
 have key:∀(c:UInt8) (t:Bs),c≠47→Ze (c::t) [47,47]=false:=fun c t hc=>by
  have h1:((47:UInt8)==c)=false:=by rw[beq_eq_false_iff_ne];exact fun e=>hc e.symm
  show([47,47]:List UInt8).isPrefixOf (c::t)=false
  rw[Zo,h1];rfl
 cases h with
 |name x hx hk c t hc hl ha=>rw[hc,Zd];exact key _ _ (by rintro rfl;simp [Cc]at hl)
 |word x hk c t hc hl ha=>rw[hc,Zd];exact key _ _ (by rintro rfl;simp [Cc]at hl)
 |num u hu hi c t hc hd=>rw[hc,Zd];exact key _ _ (by rintro rfl;simp [Bn]at hd)
 |quote q y=>exact key 39 (y++[39]++r) (by decide)
 |sign x hs' c t hc h7 hn=>
  have key2:Ze ([47]++r) [47,47]=false:=by
   cases r with
   |nil=>rfl
   |cons b r=>
    have hne:b≠47:=by rintro rfl;simp [Lb]at hs
    have h1:((47:UInt8)==b)=false:=by rw[beq_eq_false_iff_ne];exact fun e=>hne e.symm
    show([47,47]:List UInt8).isPrefixOf (47::b::r)=false
    rw[Zo,Zo,h1];rfl
  rcases Iw hs' with rfl|rfl|rfl|rfl|rfl|rfl|rfl|rfl|rfl|rfl|rfl|rfl|rfl|rfl|rfl|rfl|rfl|rfl|rfl|rfl|rfl|rfl|rfl|rfl|rfl|rfl|rfl<;>first|exact key2|(rw[Zd];exact key _ _ (by decide))
theorem tokF_of {x:Bs}{k n:Int}(h:Lt x k n){r:Bs}(hs:Lb k r=true):Oc (x++r)=some (k,x,n):=by
 have hw:k=1∨k=2→r=[]∨∃c t,r=c::t∧In c=false:=by
  intro hk
  cases r with
  |nil=>exact .inl rfl
  |cons c r=>rcases hk with rfl|rfl<;>simp [Lb]at hs<;>exact .inr ⟨c,r,rfl,by rw[←Ws];exact hs.2⟩
 cases h with
 |name x hx hk c t hc hl ha=>
  obtain⟨h1,_⟩:=Pq In x r (fun c hc=>by rw[←Ws];exact(ha c hc).2) (hw (.inl rfl));have e:Oc (x++r)=Ow (x++r):=by rw[hc];show(if Cc c=true then _ else _)=_;rw[if_pos hl]
  rw[e];unfold Ow;rw[h1,hk,hx];rfl
 |word x hk c t hc hl ha=>
  obtain⟨h1,_⟩:=Pq In x r (fun c hc=>by rw[←Ws];exact(ha c hc).2) (hw (.inr rfl));have e:Oc (x++r)=Ow (x++r):=by rw[hc];show(if Cc c=true then _ else _)=_;rw[if_pos hl]
  rw[e];unfold Ow;rw[h1,hk];rfl
 |num u hu hi c t hc hd=>
  have hr:r=[]∨∃c t,r=c::t∧Bn c=false:=by
   cases r with
   |nil=>exact .inl rfl
   |cons c r=>simp [Lb]at hs;exact .inr ⟨c,r,rfl,by rw[←Lm];exact hs.2⟩
  obtain⟨h1,_⟩:=Pq Bn (Zf u) r (fun c hc=>Lo u c hc) hr;have hA:=sV u (Sx u) (fun c hc=>by have:=Lo u c hc;simp [Bn,UInt8.le_iff_toNat_le]at this;omega) hi;have hI:Lib.itoa (u:Int)=Zf u:=by unfold Lib.itoa;rw[if_neg (by omega)];simp
  have e:Oc (Zf u++r)=cM (Zf u++r):=by rw[hc];show(if Cc c=true then _ else if Bn c=true then _ else _)=_;rw[if_neg (by rw[jT hd];decide),if_pos hd]
  rw[e];unfold cM;rw[h1,hA];dsimp only;rw[if_pos hI]
 |quote q y hr1 hr2 hr3 hr4 hr5 hx hdq=>
  have e0:39::(y++[39])++r=39::(y++39::r):=by simp
  have e:Oc (39::(y++39::r))=eH (39::(y++39::r)):=rfl;rw[e0,e];have hb:fO q=false:=by unfold fO;exact decide_eq_false (by omega)
  have hd:(39::(y++39::r)).drop (1+y.length)=39::r:=by rw[Nat.add_comm,List.drop_succ_cons,List.drop_left]
  have ht:(39::(y++39::r)).take (y.length+2)=39::(y++[39]):=by
   rw[List.take_succ_cons];congr 1
   rw[show y++39::r=(y++[39])++r by simp];exact List.take_left' (by simp)
  unfold eH;show(if fO (Lib.decodeGo (Aa (y++39::r))).1=true then _ else if Ze ((39::(y++39::r)).drop (1+(Lib.decodeGo (Aa (y++39::r))).2)) [39]=true then some (3,(39::(y++39::r)).take ((Lib.decodeGo (Aa (y++39::r))).2+2),((Lib.decodeGo (Aa (y++39::r))).1:Int))else none)=_
  rw[hdq r];dsimp only;rw[hb,if_neg (by decide),hd,ht,if_pos (by simp [Ze])]
 |sign x hs' c t hc h7 hn=>
  have e:Oc (x++r)=Ny (x++r):=by rw[hc];show(if Cc c=true then _ else if Bn c=true then _ else if c=39 then _ else _)=_;rw[if_neg (by rw[hn.1];decide),if_neg (by rw[hn.2.1];decide),if_neg hn.2.2]
  rw[e];have hlen:x.length=1∨x.length=2:=by
   rcases Iw hs' with rfl|rfl|rfl|rfl|rfl|rfl|rfl|rfl|rfl|rfl|rfl|rfl|rfl|rfl|rfl|rfl|rfl|rfl|rfl|rfl|rfl|rfl|rfl|rfl|rfl|rfl|rfl<;>simp
  unfold Ny;rcases hlen with hl|hl
  ·have h1:(x++r).take 1=x:=List.take_left' hl
   cases r with
   |nil=>
    have h2:(x++[]).take 2=x:=by rw[Zg];exact List.take_of_length_le (by omega)
    rw[h2,if_pos hs']
   |cons d r=>
    have h2:(x++d::r).take 2=[c,d]:=by
     obtain⟨y,rfl⟩:=List.length_eq_one_iff.1 hl;simp at hc;obtain⟨rfl,rfl⟩:=hc;rfl
    have hd:Et [c,d]=false:=by
     simp [Lb]at hs;obtain⟨_,⟨⟨d1,d2⟩,d3⟩,_⟩:=hs
     cases hq:Et [c,d]with
     |false=>rfl
     |true=>
      rcases Iw hq with h|h|h|h|h|h|h|h|h|h|h|h|h|h|h|h|h|h|h|h|h|h|h|h|h|h|h<;>simp at h<;>simp_all
    rw[h2,hd,h1,if_neg (by decide),if_pos hs']
  ·rw[List.take_left' hl,if_pos hs']
structure vV (x:Bs)(k n:Int)(rest:Bs):Prop where
 front:Front (x++rest)
 ne:x≠[]
 tok:Oc (x++rest)=some (k,x,n)
theorem bW {x:Bs}{k n:Int}(h:Lt x k n){r:Bs}(hs:Lb k r=true):vV x k n r:=by
 obtain⟨c,t,e,hc⟩:=h.head;exact⟨⟨.inr ⟨c,t++r,by rw[e];rfl,oQ hc⟩,h.noComm hs⟩,h.ne,tokF_of h hs⟩
theorem iR {x:Bs}{k n:Int}(h:Lt x k n)(hq:k=3→∀r,x≠39::r){r:Bs}(hs:Lb k r=true):vV x k n r:=bW h hs
structure It where
 x:Bs
 k:Int
 n:Int
 b:Bs
 l:List (Bs ×Bs)
def It.gap(i:It):Bs:=Ao i.b i.l
structure ItOk (i:It):Prop where
 tok:Lt i.x i.k i.n
 gap:Oa i.b i.l
 head:∃c t,i.b=c::t
def Cx(l:List It):Bs:=l.flatMap (fun i=>i.x++i.gap)
def Sp(line:Nat):List It→List Tk
 |[]=>[]
 |i::l=>⟨i.k,i.x,i.n,line⟩::Sp (line+Co i.gap) l
theorem Ug(i:It)(l:List It):Cx (i::l)=i.x++(i.gap++Cx l):=by
 unfold Cx;simp
theorem Xp(line:Nat)(l:List It):(Sp line l).length=l.length:=by
 induction l generalizing line with
 |nil=>rfl
 |cons i l ih=>simp [Sp,ih]
def Oi(z:Bs):List It→Prop
 |[]=>True
 |i::l=>vV i.x i.k i.n (i.gap++(Cx l++z))∧Oa i.b i.l∧Oi z l
theorem Oi.of(z:Bs):∀(l:List It),(∀i,i∈l→ItOk i)→Oi z l
 |[],_=>trivial
 |i::l,h=>by
  have hi:=h i Zc;obtain⟨c,t,e⟩:=hi.head;refine⟨?_,hi.gap,Oi.of z l (fun j hj=>h j (Zj _ hj))⟩;have e2:i.gap++(Cx l++z)=c::(t++(i.l.flatMap (fun p=>p.1++p.2)++(Cx l++z))):=by unfold It.gap Ao;rw[e];simp
  rw[e2];exact bW hi.tok (oF (hi.gap.blank c (by rw[e];exact Zc)))
def pL(line:Nat):List It→Nat
 |[]=>line
 |i::l=>pL (line+Co i.gap) l
theorem aR:∀(li:List It) (b0:Bs) (l0:List (Bs ×Bs)) (line f:Nat),Oa b0 l0→Oi [] li→(Ao b0 l0++Cx li).length<f→Ql f (Ao b0 l0++Cx li) line=.ok (Sp (line+Co (Ao b0 l0)) li++[⟨5,[],0,((pL (line+Co (Ao b0 l0)) li:Nat):Int)⟩])
 |li,b0,l0,line,0,hg,hi,hf=>absurd hf (Nat.not_lt_zero _)
 |[],b0,l0,line,f+1,hg,hi,hf=>by
  have e:Ao b0 l0++Cx []=Ao b0 l0++[]:=rfl;have hc:=Tl l0 b0 hg;have hs:=Ys l0 b0 [] ((Ao b0 l0++[]).length+1) hg (by rw[Zg];omega) ⟨.inl rfl,rfl⟩;rw[e,Ql,hs];rfl
 |i::l,b0,l0,line,f+1,hg,hi,hf=>by
  obtain⟨ht,hgi,hil⟩:=hi;have e0:Cx (i::l)=i.x++(i.gap++(Cx l++[])):=by rw[Ug,Zg]
  have hc:=Tl l0 b0 hg;rw[e0]at hf ⊢;have hs:=Ys l0 b0 (i.x++(i.gap++(Cx l++[]))) ((Ao b0 l0++(i.x++(i.gap++(Cx l++[])))).length+1) hg (by rw[Zk];omega) ht.front;have hx:0<i.x.length:=List.length_pos_iff.2 ht.ne;have ih:=aR l i.b i.l (line+Co (Ao b0 l0)) f hgi hil (by
   rw[Zg,Zk,Zk]at hf;show(i.gap++Cx l).length<f
   omega)
  have hne:i.x++(i.gap++(Cx l++[]))≠[]:=fun h=>ht.ne (List.append_eq_nil_iff.1 h).1
  rw[Ql,hs];dsimp only;rw[if_pos rfl,if_neg hne,ht.tok];dsimp only;rw[List.drop_left,Zg];have ih:Ql f (i.gap++Cx l) (line+Co (Ao b0 l0))=_:=ih;rw[ih];rfl
theorem My:Oa [] []:=⟨fun c hc=>(by cases hc),fun p hp=>(by cases hp)⟩
theorem Sv(t:Tk)(h:t.kind=5):∀l:List Tk,Kl (l++[t])
 |[]=>h
 |[a]=>h
 |a::b::l=>Sv t h (b::l)
def Dw(line:Nat)(li:List It):List Tk:=Sp line li++[⟨5,[],0,pL line li⟩]
theorem Xl {P:Int→Prop}:∀(l:List It) (line:Nat),(∀i,i∈l→P i.n)→∀t,t∈Sp line l→P t.num
 |[],line,h,t,ht=>by cases ht
 |i::l,line,h,t,ht=>by
  rw[Sp]at ht;rcases List.mem_cons.1 ht with rfl|ht
  ·exact h i Zc
  ·exact Xl l _ (fun j hj=>h j (Zj _ hj)) t ht
theorem Yf(b0:Bs)(l0:List (Bs ×Bs))(hg:Oa b0 l0)(li:List It)(hi:Oi [] li)(hlen:(Ao b0 l0++Cx li).length≤20000)(w:World)(hl:Jj w):
  Calls Zh 20 #[.string (Aa (Ao b0 l0++Cx li))] w fun e w'=>Below w.heap.size w w'∧∃v,e=.returned (.tuple #[v,.int .i64 0,.int .i64 0])∧Gt w' w.heap.size (Dw (1+Co (Ao b0 l0)) li) v:=by
 have h:=xF (Ao b0 l0++Cx li) hlen w hl;rw[aR li b0 l0 1 _ hg hi (Nat.lt_succ_self _)]at h;exact h
theorem Qa(b0:Bs)(l0:List (Bs ×Bs))(hg:Oa b0 l0)(li:List It)(hi:Oi [] li)(hn:∀i,i∈li→I64 i.n)(hlen:(Ao b0 l0++Cx li).length≤20000)(hc:li.length≤900000)(f:Nat)(hf:4*(li.length+1)+4≤f)(w:World)(hl:Jj w):
  Calls Zh 14 #[.string (Aa (Ao b0 l0++Cx li))] w (WhP w (Qd (Tv (Fm f ⟨[],[]⟩ (Dw (1+Co (Ao b0 l0)) li))))):=by
 have hT:(Dw (1+Co (Ao b0 l0)) li).length=li.length+1:=by simp [Dw,Xp]
 refine topP_of _ w _ (Za fun w1 hb1=>?_);refine oK _ (Dw (1+Co (Ao b0 l0)) li) (Sv _ rfl _) ?_ (by omega) f (by omega) w1 (Za fun w2 hb2=>Yf b0 l0 hg li hi hlen w2 ((hl.old hb1).old hb2));intro t ht;rcases List.mem_append.1 ht with h|h
 ·exact Xl (P:=I64) li _ hn t h
 ·rw[List.mem_singleton]at h;subst h;exact Gp
theorem sA(b0:Bs)(l0:List (Bs ×Bs))(hg:Oa b0 l0)(li:List It)(hi:Oi [] li)(hn:∀i,i∈li→I64 i.n)(hlen:(Ao b0 l0++Cx li).length≤20000)(hc:li.length≤900000)(f:Nat)(hf:4*(li.length+1)+4≤f)(w:World)(hl:Jj w):
  Calls Zh 13 #[.string (Aa (Ao b0 l0++Cx li))] w (WhE w (Tf (eE (Bf f 1 (Dw (1+Co (Ao b0 l0)) li))))):=by
 have hT:(Dw (1+Co (Ao b0 l0)) li).length=li.length+1:=by simp [Dw,Xp]
 refine topE_of _ w _ (Za fun w1 hb1=>?_);refine pB _ (Dw (1+Co (Ao b0 l0)) li) (Sv _ rfl _) ?_ (by omega) f (by omega) w1 (Za fun w2 hb2=>Yf b0 l0 hg li hi hlen w2 ((hl.old hb1).old hb2));intro t ht;rcases List.mem_append.1 ht with h|h
 ·exact Xl (P:=I64) li _ hn t h
 ·rw[List.mem_singleton]at h;subst h;exact Gp
def Nn(x:Bs):Bool:=(match x with|c::_=>Cc c|[]=>false) && x.all (fun c=>decide (c.toNat<128) && Sf (c.toNat:Nat))
theorem aP {x:Bs}(h:Nn x=true):∃c t,x=c::t∧Cc c=true∧∀c,c∈x→c.toNat<128∧Sf (c.toNat:Nat)=true:=by
 cases x with
 |nil=>cases h
 |cons c t=>
  unfold Nn at h;obtain⟨h1,h2⟩:=(Zn _ _).mp h;refine⟨c,t,rfl,h1,fun d hd=>?_⟩;have:=List.all_eq_true.1 h2 d hd;simpa using this
theorem pc_name {x:Bs}(hx:Am x=true)(hk:Ia x=false)(h:Nn x=true):Lt x 1 0:=by
 obtain⟨c,t,hc,hl,ha⟩:=aP h;exact .name x hx hk c t hc hl ha
theorem eI {x:Bs}(hk:Ia x=true)(h:Nn x=true):Lt x 2 0:=by
 obtain⟨c,t,hc,hl,ha⟩:=aP h;exact .word x hk c t hc hl ha
theorem nV {x:Bs}(h:Et x=true):Lt x 4 0:=by
 rcases Iw h with rfl|rfl|rfl|rfl|rfl|rfl|rfl|rfl|rfl|rfl|rfl|rfl|rfl|rfl|rfl|rfl|rfl|rfl|rfl|rfl|rfl|rfl|rfl|rfl|rfl|rfl|rfl<;>exact .sign _ h _ _ rfl (by decide) (by decide)
def pcB(i:It):Bool:=if i.k=1 then Am i.x && !Ia i.x && Nn i.x && decide (i.n=0)else if i.k=2 then Ia i.x && Nn i.x && decide (i.n=0)else if i.k=3 then decide (0≤i.n∧i.n≤9223372036854775807) && decide (i.x=Zf i.n.toNat) && decide (i.x.length≤18) && (match i.x with|c::_=>Bn c|[]=>false)else decide (i.k=4) && Et i.x && decide (i.n=0)
theorem pcB_of {i:It}(h:pcB i=true):Lt i.x i.k i.n∧(i.k=3→∀r,i.x≠39::r)∧I64 i.n:=by
 obtain⟨x,k,n,b,l⟩:=i;simp only[pcB]at h
 by_cases h1:k=1
 ·rw[if_pos h1]at h
  simp at h;obtain⟨⟨⟨g1,g2⟩,g3⟩,rfl⟩:=h;subst h1;exact⟨pc_name g1 g2 g3,fun e=>absurd (show _=_ from e) (by simp),Gp⟩
 rw[if_neg h1]at h
 by_cases h2:k=2
 ·rw[if_pos h2]at h
  simp at h;obtain⟨⟨g1,g3⟩,rfl⟩:=h;subst h2;exact⟨eI g1 g3,fun e=>absurd (show _=_ from e) (by simp),Gp⟩
 rw[if_neg h2]at h
 by_cases h3:k=3
 ·rw[if_pos h3]at h
  subst h3;simp only[Zn,decide_eq_true_eq]at h;obtain⟨⟨⟨⟨g1,g2⟩,g3⟩,g4⟩,g5⟩:=h
  cases x with
  |nil=>cases g5
  |cons c t=>
   have hu:(n.toNat:Int)=n:=by omega
   refine⟨?_,fun _ r e=>?_,(show I64 n from⟨by omega,by omega⟩)⟩
   ·have:=Lt.num n.toNat (by rw[←g3];exact Nat.le_trans g4 (by decide)) (by omega) c t g3.symm g5
    rw[←g3,hu]at this;exact this
   ·cases e;simp [Bn]at g5
 rw[if_neg h3]at h;simp at h;obtain⟨⟨rfl,g1⟩,rfl⟩:=h;exact⟨nV g1,fun e=>absurd (show _=_ from e) (by simp),Gp⟩
def pY(z:Bs):List It→Bool
 |[]=>true
 |i::l=>pcB i && i.b.all Be && i.l.isEmpty && Lb i.k (i.gap++(Cx l++z)) && pY z l
theorem Vu(z:Bs):∀(l:List It),pY z l=true→Oi z l∧∀i,i∈l→I64 i.n
 |[],_=>⟨trivial,fun i hi=>by cases hi⟩
 |i::l,h=>by
  rw[pY]at h;simp only[Zn]at h;obtain⟨⟨⟨⟨h1,h2⟩,h3⟩,h4⟩,h5⟩:=h;obtain⟨q1,q2⟩:=Vu z l h5;obtain⟨p1,p2,p3⟩:=pcB_of h1;refine⟨⟨iR p1 p2 h4,⟨fun c hc=>List.all_eq_true.1 h2 c hc,fun p hp=>?_⟩,q1⟩,fun j hj=>?_⟩
  ·rw[List.isEmpty_iff.1 h3]at hp;cases hp
  ·rcases List.mem_cons.1 hj with rfl|hj
   ·exact p3
   ·exact q2 j hj
def Fo(S:Int→Bs→Bool):List Pc→Bs→Prop
 |[],_=>True
 |.g _::l,z=>Fo S l z
 |.t x::l,z=>S x.kind (Az l++z)=true∧Fo S l z
theorem Fo.app {S:Int→Bs→Bool}:∀ {a b:List Pc} {z:Bs},Fo S a (Az b++z)→Fo S b z→Fo S (a++b) z
 |[],b,z,_,h=>h
 |.g x::a,b,z,h1,h2=>Fo.app (a:=a) h1 h2
 |.t x::a,b,z,h1,h2=>⟨by rw[List.append_eq,Ap,Zb];exact h1.1,Fo.app (a:=a) h1.2 h2⟩
def gB(c:UInt8):Bool:=c==32||c==41||c==93||c==44||c==59||c==10
def Uf(c:UInt8):Bool:=Cc c||Bn c||c==40||c==45||c==33||c==126
def Yj(z:Bs):Prop:=z=[]∨∃c r,z=c::r∧gB c=true
def Nx(z:Bs):Prop:= ∃c r,z=c::r∧Uf c=true
structure Od (S:Int→Bs→Bool):Prop where
 nil:∀k,S k []=true
 soft:∀k c r,gB c=true→S k (c::r)=true
 head:∀c r,Uf c=true→S 4 (c::r)=true
 opens:∀k r,k≠3→S k (40::r)=true∧S k (91::r)=true
theorem Od.ofSoft {S:Int→Bs→Bool}(h:Od S){z:Bs}(hz:Yj z)(k:Int):S k z=true:=by
 rcases hz with rfl|⟨c,r,rfl,hc⟩
 ·exact h.nil k
 ·exact h.soft k c r hc
theorem Od.ofHead {S:Int→Bs→Bool}(h:Od S){z:Bs}(hz:Nx z):S 4 z=true:=by
 obtain⟨c,r,rfl,hc⟩:=hz;exact h.head c r hc
theorem Nx.app {a b:Bs}(h:Nx a):Nx (a++b):=by
 obtain⟨c,r,rfl,hc⟩:=h;exact⟨c,r++b,rfl,hc⟩
theorem Gl {c:UInt8}{r:Bs}(h:gB c=true):Yj (c::r):=.inr ⟨c,r,rfl,h⟩
theorem Tg {s:Bs}(h:Am s=true):Nx s:=by
 cases s with
 |nil=>exact absurd h (by decide)
 |cons c r=>
  refine⟨c,r,rfl,?_⟩;have:Cc c=true:=by
   simp only[Am,Hi,Zn,Bool.or_eq_true,Bool.not_true,Bool.false_and,Bool.or_false]at h
   first|exact h.1.1|exact h.1.1.1|exact h.2.1|(simp at h;exact h.1)|(simp at h;exact h.1.1)|(simp at h;exact h.2.1)
  unfold Uf;rw[this];rfl
def aE:Prop:= ∀u,(∀c,c∈Zf u→Bn c=true)∧Zf u≠[]
theorem fD {n:Int}(h:0≤n)(hd:aE):Nx (Lib.itoa n):=by
 unfold Lib.itoa;rw[if_neg (by omega)];rcases hq:Zf n.toNat with _|⟨c,r⟩
 ·exact absurd hq (hd n.toNat).2
 ·refine⟨c,r,rfl,?_⟩
  have:=(hd n.toNat).1 c (by rw[hq];exact Zc);unfold Uf;rw[this];simp
theorem Kv(x:Pc)(l:List Pc):Az (x::l)=x.text++Az l:=rfl
theorem bM {e:Ex}{lv:Int}(h:Nx (Az (Ck e))):Nx (Az (Da e lv)):=by
 unfold Da Hl;split
 ·exact⟨40,_,rfl,by decide⟩
 ·exact h
theorem Kp(hd:aE){e:Ex}(h:WEx e):Nx (Az (Ck e)):=by
 induction h with
 |num n h=>rw[Su];exact(fD h hd).app
 |var s h=>rw[Sy];exact(Tg h).app
 |one o x ho hx ih=>rw[Th];rcases ho with rfl|rfl|rfl<;>exact⟨_,_,rfl,by decide⟩
 |two o x y ho hx hy ihx ihy=>rw[Tr,Ap];exact(bM ihx).app
 |call s l h hl hx ih=>rw[Lp,Kv];exact(Tg h).app
 |idx s x h hx ih=>rw[Tz,Kv];exact(Tg h).app
 |read=>rw[Ud];exact⟨_,_,rfl,by decide⟩
theorem Yr {S:Int→Bs→Bool}(hS:Od S){e:Ex}(hh:Nx (Az (Ck e)))(h:∀z,Yj z→Fo S (Ck e) z)(lv:Int)(z:Bs)(hz:Yj z):Fo S (Da e lv) z:=by
 unfold Da Hl;split
 ·rw[Zb]
  refine⟨?_,?_⟩
  ·show S 4 (Az (Ck e++[sg [41]])++z)=true
   rw[Ap,Zb];exact hS.ofHead hh.app
  ·show Fo S (Ck e++[sg [41]]) z
   exact Fo.app (h _ (Gl (by decide))) ⟨hS.ofSoft hz 4,trivial⟩
 ·exact h z hz
theorem eW {S:Int→Bs→Bool}(hS:Od S)(z:Bs):∀(l:List Ex),(∀y,y∈l→∀z,Yj z→Fo S (Ck y) z)→Fo S (l.flatMap (fun y=>[sg [44],.g [32]]++Ck y)) (41::z)∧Yj (Az (l.flatMap (fun y=>[sg [44],.g [32]]++Ck y))++41::z)
 |[],h=>⟨trivial,Gl (by decide)⟩
 |y::l,h=>by
  obtain⟨h1,h2⟩:=eW hS z l (fun x hx=>h x (Zj _ hx));rw[Zi];refine⟨?_,?_⟩
  ·refine Fo.app (a:=[sg [44],.g [32]]++Ck y) ?_ h1
   exact⟨hS.soft 4 32 _ (by decide),h y Zc _ h2⟩
  ·exact Gl (by decide)
theorem ex_sep {S:Int→Bs→Bool}(hS:Od S)(hd:aE){e:Ex}(h:WEx e):∀z,Yj z→Fo S (Ck e) z:=by
 induction h with
 |num n h=>intro z hz;rw[Su];exact⟨hS.ofSoft hz 3,trivial⟩
 |var s h=>intro z hz;rw[Sy];exact⟨hS.ofSoft hz 1,trivial⟩
 |one o x ho hx ih=>
  intro z hz;rw[Th];exact⟨hS.ofHead (bM (Kp hd hx)).app,Yr hS (Kp hd hx) ih 9 z hz⟩
 |two o x y ho hx hy ihx ihy=>
  intro z hz;rw[Tr];refine Fo.app (Yr hS (Kp hd hx) ihx _ _ (Gl (by decide))) ?_;exact⟨hS.soft 4 32 _ (by decide),Yr hS (Kp hd hy) ihy _ z hz⟩
 |call s l h hl hx ih=>
  intro z hz;rw[Lp];have hclose:Fo S [sg [41]] z:=⟨hS.ofSoft hz 4,trivial⟩
  cases l with
  |nil=>
   exact⟨(hS.opens 1 _ (by decide)).1,hS.soft 4 41 _ (by decide),hclose⟩
  |cons x l=>
   have hx0:=hx x Zc;obtain⟨h1,h2⟩:=eW hS z l (fun y hy=>ih y (Zj _ hy));rw[Oq];refine⟨(hS.opens 1 _ (by decide)).1,?_,?_⟩
   ·rw[Ap,Ap,Zb,Zb]
    exact hS.ofHead (Kp hd hx0).app
   ·rw[Zb]
    refine Fo.app (ih x Zc _ ?_) (Fo.app h1 hclose);rw[Ap,Zb];exact h2
 |idx s x h hx ih=>
  intro z hz;rw[Tz];refine⟨(hS.opens 1 _ (by decide)).2,?_,Fo.app (ih _ (Gl (by decide))) ⟨hS.ofSoft hz 4,trivial⟩⟩;rw[Ap,Zb];exact hS.ofHead (Kp hd hx).app
 |read=>
  intro z hz;rw[Ud];exact⟨(hS.opens 2 _ (by decide)).1,hS.soft 4 41 _ (by decide),hS.ofSoft hz 4,trivial⟩
end Go.Proofs.YtcfpfnoldgnloaaGreatDoor
