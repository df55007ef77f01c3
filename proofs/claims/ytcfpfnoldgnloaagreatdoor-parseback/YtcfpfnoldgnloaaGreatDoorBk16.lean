/-
  The pieces of statements, functions and programs may stand beside each other, and are tokens; Parse of a right program's text.
-/
import Derived.Test.YtcfpfnoldgnloaaGreatDoorBk15
set_option linter.unusedVariables false
set_option linter.unusedSimpArgs false
namespace Go.Proofs.YtcfpfnoldgnloaaGreatDoor
open Go.RowKit
set_option maxHeartbeats 20000000
set_option maxRecDepth 100000
open Go.Lib renaming hid→Za
open Go.Proofs.Tryz renaming prog→Zb
open dY renaming app→Zc
open List renaming mem_cons_self→Zd,length_append→Ze,length_cons→Zf,length_nil→Zh,mem_cons_of_mem→Zi,append_assoc→Zk,flatMap_cons→Zm,all_eq_true→Zo,getElem?_eq_getElem→Zp
open Bool renaming and_eq_true→Zg
open Nat renaming le_refl→Zj,le_trans→Zl
open aq renaming cons→Zn
theorem fS {S:Int→Bs→Bool}{t:Nat}{l:List Pc}{z:Bs}(h:dY S l (10::z)):dY S (cy t l) z:=
 Zc (a:=[.g (gC t)]++l) (b:=[.g [10]]) h trivial
theorem eK {S:Int→Bs→Bool}(hS:jA S)(s:Bs)(c:UInt8)(z:Bs)(hc:sS c=true):dY S [sg s] (c::z):=⟨hS.ofSoft (di hc) 4,trivial⟩
theorem ki {S:Int→Bs→Bool}:∀(l:List St),(∀x,x∈l→∀t z,dY S (dy t x) z)→∀t z,dY S (dZ t l) z
 |[],_,t,z=>trivial
 |x::l,h,t,z=>by
  rw[dZ];exact Zc (h x Zd t _) (ki l (fun y hy=>h y (Zi _ hy)) t z)
theorem jO {S:Int→Bs→Bool}(hS:jA S)(hd:mo){e:Ex}(h:WEx e)(l:List Pc)(z:Bs)(hz:ms (ai l++z))(hl:dY S l z):dY S (bg e++l) z:=Zc (zP hS hd h _ hz) hl
theorem sO {S:Int→Bs→Bool}(hS:jA S)(hd:mo){e:Ex}(h:WEx e)(w:Bs)(t:Nat)(z:Bs):dY S (cy t (wd w:: .g [32]::sg [40]::(bg e++[sg [41],.g [32],sg [123]]))) z:=by
 refine fS ⟨hS.soft 2 32 _ (by decide),?_,jO hS hd h _ _ (di (by decide)) ⟨hS.soft 4 32 _ (by decide),eK hS _ 10 _ (by decide)⟩⟩;rw[aS,Zk];exact hS.ofHead (fd hd h).app
theorem st_sep {S:Int→Bs→Bool}(hS:jA S)(hd:mo){x:St}(h:WSt x):∀t z,dY S (dy t x) z:=by
 induction h with
 |set s x h hx=>
  intro t z;rw[stp1];exact fS ⟨hS.soft 1 32 _ (by decide),hS.soft 4 32 _ (by decide),jO hS hd hx _ _ (di (by decide)) (eK hS _ 10 _ (by decide))⟩
 |store s x y h hx hy=>
  intro t z;rw[stp2];refine fS ⟨(hS.opens 1 _ (by decide)).2,?_,jO hS hd hx _ _ (di (by decide)) ⟨hS.soft 4 32 _ (by decide),hS.soft 4 32 _ (by decide),jO hS hd hy _ _ (di (by decide)) (eK hS _ 10 _ (by decide))⟩⟩;rw[aS,Zk];exact hS.ofHead (fd hd hx).app
 |cond x a b hx ha hb iha ihb=>
  intro t z;rw[stp3];refine Zc (sO hS hd hx _ t _) (Zc (ki a iha _ _) (Zc ?_ (fS (eK hS _ 10 _ (by decide)))))
  cases b with
  |nil=>exact trivial
  |cons y l=>
   rw[if_neg (by simp)];exact Zc (fS ⟨hS.soft 4 32 _ (by decide),hS.soft 2 32 _ (by decide),eK hS _ 10 _ (by decide)⟩) (ki (y::l) ihb _ _)
 |loop x a hx ha iha=>
  intro t z;rw[stp4];exact Zc (sO hS hd hx _ t _) (Zc (ki a iha _ _) (fS (eK hS _ 10 _ (by decide))))
 |brk=>intro t z;rw[stp5];exact fS ⟨hS.soft 2 59 _ (by decide),eK hS _ 10 _ (by decide)⟩
 |cont=>intro t z;rw[stp6];exact fS ⟨hS.soft 2 59 _ (by decide),eK hS _ 10 _ (by decide)⟩
 |ret x hx=>
  intro t z;rw[stp7];exact fS ⟨hS.soft 2 32 _ (by decide),jO hS hd hx _ _ (di (by decide)) (eK hS _ 10 _ (by decide))⟩
 |print x hx=>
  intro t z;rw[stp8];refine fS ⟨(hS.opens 2 _ (by decide)).1,?_,jO hS hd hx _ _ (di (by decide)) ⟨hS.soft 4 59 _ (by decide),eK hS _ 10 _ (by decide)⟩⟩;rw[aS,Zk];exact hS.ofHead (fd hd hx).app
 |trap x hx=>
  intro t z;rw[stp9];refine fS ⟨(hS.opens 2 _ (by decide)).1,?_,jO hS hd hx _ _ (di (by decide)) ⟨hS.soft 4 59 _ (by decide),eK hS _ 10 _ (by decide)⟩⟩;rw[aS,Zk];exact hS.ofHead (fd hd hx).app
 |call s l hx=>
  intro t z;have e:dy t (.mk 10 [] [.mk 5 0 0 s l] [] [])=cy t (bg (.mk 5 0 0 s l)++[sg [59]]):=by rw[zX,iL];simp only[Zk,List.cons_append,List.nil_append]
  rw[e];exact fS (jO hS hd hx _ _ (di (by decide)) (eK hS _ 10 _ (by decide)))
theorem yd {S:Int→Bs→Bool}(hS:jA S)(x:Bs)(z:Bs)(hz:ms z):dY S (ex x) z:=⟨hS.soft 2 32 _ (by decide),hS.ofSoft hz 1,trivial⟩
theorem uz {S:Int→Bs→Bool}(hS:jA S)(z:Bs)(hz:ms z):∀(l:List Bs),dY S (l.flatMap (fun y=>[sg [44],.g [32]]++ex y)) z∧ms (ai (l.flatMap (fun y=>[sg [44],.g [32]]++ex y))++z)
 |[]=>⟨trivial,hz⟩
 |y::l=>by
  obtain⟨h1,h2⟩:=uz hS z hz l;rw[Zm];exact⟨Zc (a:=[sg [44],.g [32]]++ex y) ⟨hS.soft 4 32 _ (by decide),yd hS y _ h2⟩ h1,di (by decide)⟩
theorem yV {S:Int→Bs→Bool}(hS:jA S):∀(l:List Bs) (z:Bs),dY S (l.flatMap kR) z
 |[],z=>trivial
 |y::l,z=>by
  rw[Zm];exact Zc (fS ⟨hS.soft 2 32 _ (by decide),hS.soft 1 59 _ (by decide),eK hS _ 10 _ (by decide)⟩) (yV hS l z)
theorem fu_sep {S:Int→Bs→Bool}(hS:jA S)(hd:mo){g:Fu}(hg:WFu g)(z:Bs):dY S (oP g) z:=by
 obtain⟨nm,ps,ls,bd⟩:=g;obtain⟨_,_,_,hb⟩:=hg;dsimp only at hb;have hbd:dY S ([sg [41],.g [32],sg [123],.g [10]]++(ls.flatMap kR++(dZ 1 bd++cy 0 [sg [125]]))) z:=
  ⟨hS.soft 4 32 _ (by decide),hS.soft 4 10 _ (by decide),(show dY S (ls.flatMap kR++(dZ 1 bd++cy 0 [sg [125]])) z from Zc (yV hS ls _) (Zc (ki bd (fun x hx=>st_sep hS hd (hb x hx)) _ _) (fS (eK hS _ 10 _ (by decide)))))⟩
 refine⟨hS.soft 2 32 _ (by decide),(hS.opens 1 _ (by decide)).1,?_,?_⟩
 ·cases ps with
  |nil=>exact hS.soft 4 41 _ (by decide)
  |cons x l=>exact hS.head 105 _ (by decide)
 ·show dY S (ff (ps.map ex)++([sg [41],.g [32],sg [123],.g [10]]++(ls.flatMap kR++(dZ 1 bd++cy 0 [sg [125]])))) z
  refine Zc ?_ hbd
  cases ps with
  |nil=>exact trivial
  |cons x l=>
   have e:ff ((x::l).map ex)=ex x++l.flatMap (fun y=>[sg [44],.g [32]]++ex y):=by
    show ex x++(l.map ex).flatMap _=_;rw[List.flatMap_map]
   rw[e];obtain⟨h1,h2⟩:=uz hS (ai ([sg [41],.g [32],sg [123],.g [10]]++(ls.flatMap kR++(dZ 1 bd++cy 0 [sg [125]])))++z) (di (by decide)) l;exact Zc (yd hS x _ h2) h1
theorem ar_sep {S:Int→Bs→Bool}(hS:jA S)(hd:mo){a:Ar}(ha:0≤a.size)(z:Bs):dY S (sh a) z:=by
 refine fS ⟨hS.soft 2 32 _ (by decide),(hS.opens 1 _ (by decide)).2,?_,hS.soft 3 93 _ (by decide),hS.soft 4 59 _ (by decide),eK hS _ 10 _ (by decide)⟩;exact hS.ofHead (iW.app (show iW (ai [nu a.size,sg [93],sg [59]])from by rw[je];exact(sL ha hd).app))
theorem uD {S:Int→Bs→Bool}(hS:jA S)(hd:mo):∀(m:List Ar) (l:List Fu) (z:Bs),(∀a,a∈m→0≤a.size)→(∀x,x∈l→WFu x)→dY S (m.flatMap sh++l.flatMap oP) z
 |[],[],z,_,_=>trivial
 |[],g::l,z,h1,h2=>by
  show dY S ((g::l).flatMap oP) z
  rw[Zm];exact Zc (fu_sep hS hd (h2 g Zd) _) (uD hS hd [] l z h1 (fun x hx=>h2 x (Zi _ hx)))
 |a::m,l,z,h1,h2=>by
  rw[Zm,Zk];exact Zc (ar_sep hS hd (h1 a Zd) _) (uD hS hd m l z (fun x hx=>h1 x (Zi _ hx)) h2)
inductive rY:St→Prop
 |mk (k:Int) (nm:Bs) (args:List Ex) (thn els:List St) (ha:∀x,x∈args→N64 x) (ht:∀y,y∈thn→rY y) (he:∀y,y∈els→rY y):rY (.mk k nm args thn els)
theorem tL {b:Bs}(h:b.all dT=true):match Pc.g b with| .t x=>k9 x| .g b=> ∀c,c∈b→dT c=true:=fun c hc=>Zo.1 h c hc
theorem word_ok {x:Bs}(h1:fm x=true)(h2:iq x=true):k9 ⟨2,x,0⟩:=⟨qh h1 h2,fun e=>absurd (show(2:Int)=3 from e) (by decide),dz⟩
theorem su(t:Nat):(gC t).all dT=true:=by
 unfold gC;rw[Zo];intro c hc;rw[List.eq_of_mem_replicate hc];rfl
theorem g8 {t:Nat}{l:List Pc}(h:aq l):aq (cy t l):=aq.app (aq.app (Zn (tL (su t)) aq.nil) h) (Zn (tL (by decide)) aq.nil)
theorem aq.sg {s:Bs}{l:List Pc}(h:g9 s=true)(hl:aq l):aq (sg s::l):=Zn (eW h) hl
theorem aq.wd {s:Bs}{l:List Pc}(h:(fm s && iq s)=true)(hl:aq l):aq (wd s::l):=Zn (word_ok ((Zg _ _).mp h).1 ((Zg _ _).mp h).2) hl
theorem aq.nm {s:Bs}{l:List Pc}(h:aY s=true)(hl:aq l):aq (nmp s::l):=Zn (m8 h) hl
theorem aq.sp {b:Bs}{l:List Pc}(h:b.all dT=true)(hl:aq l):aq (.g b::l):=Zn (tL h) hl
theorem jP:∀(l:List St),(∀x,x∈l→∀t,aq (dy t x))→∀t,aq (dZ t l)
 |[],_,t=>aq.nil
 |x::l,h,t=>by
  rw[dZ];exact aq.app (h x Zd t) (jP l (fun y hy=>h y (Zi _ hy)) t)
theorem pP {e:Ex}(h:aq (bg e)){w:Bs}(hw:(fm w && iq w)=true)(t:Nat):aq (cy t (wd w:: .g [32]::sg [40]::(bg e++[sg [41],.g [32],sg [123]]))):=
 g8 (.wd hw (.sp (by decide) (.sg (by decide) (.app h (.sg (by decide) (.sp (by decide) (.sg (by decide) .nil)))))))
theorem st_toks {x:St}(h:WSt x)(hn:rY x):∀t,aq (dy t x):=by
 induction h with
 |set s x h hx=>
  cases hn with|mk _ _ _ _ _ ha ht he=>
  intro t;rw[stp1];exact g8 (.nm h (.sp (by decide) (.sg (by decide) (.sp (by decide) (.app (gH hx (ha x Zd)) (.sg (by decide) .nil))))))
 |store s x y h hx hy=>
  cases hn with|mk _ _ _ _ _ ha ht he=>
  intro t;rw[stp2];exact g8 (.nm h (.sg (by decide) (.app (gH hx (ha x Zd)) (.sg (by decide) (.sp (by decide) (.sg (by decide) (.sp (by decide) (.app (gH hy (ha y (by simp))) (.sg (by decide) .nil)))))))))
 |cond x a b hx h1 h2 iha ihb=>
  cases hn with|mk _ _ _ _ _ ha ht he=>
  intro t;rw[stp3];refine .app (pP (gH hx (ha x Zd)) (by decide) t) (.app (jP a (fun y hy=>iha y hy (ht y hy)) _) (.app ?_ (g8 (.sg (by decide) .nil))));split
  ·exact .nil
  ·exact .app (g8 (.sg (by decide) (.sp (by decide) (.wd (by decide) (.sp (by decide) (.sg (by decide) .nil)))))) (jP b (fun y hy=>ihb y hy (he y hy)) _)
 |loop x a hx h1 iha=>
  cases hn with|mk _ _ _ _ _ ha ht he=>
  intro t;rw[stp4];exact .app (pP (gH hx (ha x Zd)) (by decide) t) (.app (jP a (fun y hy=>iha y hy (ht y hy)) _) (g8 (.sg (by decide) .nil)))
 |brk=>intro t;rw[stp5];exact g8 (.wd (by decide) (.sg (by decide) .nil))
 |cont=>intro t;rw[stp6];exact g8 (.wd (by decide) (.sg (by decide) .nil))
 |ret x hx=>
  cases hn with|mk _ _ _ _ _ ha ht he=>
  intro t;rw[stp7];exact g8 (.wd (by decide) (.sp (by decide) (.app (gH hx (ha x Zd)) (.sg (by decide) .nil))))
 |print x hx=>
  cases hn with|mk _ _ _ _ _ ha ht he=>
  intro t;rw[stp8];exact g8 (.wd (by decide) (.sg (by decide) (.app (gH hx (ha x Zd)) (.sg (by decide) (.sg (by decide) .nil)))))
 |trap x hx=>
  cases hn with|mk _ _ _ _ _ ha ht he=>
  intro t;rw[stp9];exact g8 (.wd (by decide) (.sg (by decide) (.app (gH hx (ha x Zd)) (.sg (by decide) (.sg (by decide) .nil)))))
 |call s l hx=>
  cases hn with|mk _ _ _ _ _ ha ht he=>
  intro t;have e:dy t (.mk 10 [] [.mk 5 0 0 s l] [] [])=cy t (bg (.mk 5 0 0 s l)++[sg [59]]):=by rw[zX,iL];simp only[Zk,List.cons_append,List.nil_append]
  rw[e];exact g8 (.app (gH hx (ha _ Zd)) (.sg (by decide) .nil))
theorem nB {α:Type}(f:α→List Pc)(l:List α)(h:∀x,x∈l→aq (f x)):aq (l.flatMap f):=fun p hp=>by
 obtain⟨x,hx,hp⟩:=List.mem_flatMap.1 hp;exact h x hx p hp
theorem pa_ok {x:Bs}(h:aY x=true):aq (ex x):= .wd (by decide) (.sp (by decide) (.nm h .nil))
theorem fu_toks {g:Fu}(hg:WFu g)(hn:∀x,x∈g.body→rY x):aq (oP g):=by
 obtain⟨nm,ps,ls,bd⟩:=g;obtain⟨h1,h2,h3,hb⟩:=hg;dsimp only at h1 h2 h3 hb hn;have htail:aq (ls.flatMap kR++(dZ 1 bd++cy 0 [sg [125]])):= .app (nB kR ls fun x hx=>(show aq (cy 1 [wd [105,110,116],.g [32],nmp x,sg [59]])from g8 (.wd (by decide) (.sp (by decide) (.nm (h3 x hx) (.sg (by decide) .nil)))))) (.app (jP bd (fun y hy=>st_toks (hb y hy) (hn y hy)) _) (g8 (.sg (by decide) .nil)));have hps:aq (ff (ps.map ex)):=by
  cases ps with
  |nil=>exact .nil
  |cons x l=>
   have e:ff ((x::l).map ex)=ex x++l.flatMap (fun y=>[sg [44],.g [32]]++ex y):=by
    show ex x++(l.map ex).flatMap _=_;rw[List.flatMap_map]
   rw[e];exact .app (pa_ok (h2 x Zd)) (nB _ _ fun y hy=> .sg (by decide) (.sp (by decide) (pa_ok (h2 y (Zi _ hy)))))
 show aq (wd [105,110,116]:: .g [32]::nmp nm::sg [40]::(ff (ps.map ex)++(sg [41]:: .g [32]::sg [123]:: .g [10]::(ls.flatMap kR++(dZ 1 bd++cy 0 [sg [125]])))))
 exact .wd (by decide) (.sp (by decide) (.nm h1 (.sg (by decide) (.app hps (.sg (by decide) (.sp (by decide) (.sg (by decide) (.sp (by decide) htail))))))))
theorem uv {a:Ar}(h:cg a=true):aq (sh a)∧0≤a.size:=by
 unfold cg at h;obtain⟨h1,h2⟩:=(Zg _ _).mp h;have h2:=of_decide_eq_true h2;exact⟨g8 (.wd (by decide) (.sp (by decide) (.nm h1 (.sg (by decide) (.cons (yL (by omega) ⟨by omega,by omega⟩) (.sg (by decide) (.sg (by decide) .nil))))))),by omega⟩
theorem pr_gap:∀(m:List Ar) (l:List Fu),bz (m.flatMap sh++l.flatMap oP)=[]
 |[],[]=>rfl
 |[],g::l=>rfl
 |a::m,l=>rfl
theorem wu(l:List Pc)(hp:aq l)(hs:dY iz l [])(hlen:(ai l).length≤20000)(hb:jK (bz l) [])(Q:Pr ×Int ×Int→Prop)
  (hz:∀(T:List Tk) (u:Tk),T.map t3=gh l→u.kind=5→u.text=[]→∃z,Ev (fun f=>dd f ⟨[],[]⟩ (T++[u])) z∧Q (jy (lV z))) (w:World) (hl:fT w):
  Calls Zb 14 #[.string (aB (ai l))] w fun e w'=> ∃r,Q r∧WhP w r e w':=by
 obtain⟨i1,i2⟩:=po [] l hp hs;have ht:=jS l;obtain⟨z,⟨f0,hf⟩,hq⟩:=hz (jv (1+bU (aL (bz l) [])) (df l)) ⟨5,[],0,sD (1+bU (aL (bz l) [])) (df l)⟩ (mx l _) rfl rfl;have hil:=nA l hp;have eg:aL (bz l) []=bz l:=by unfold aL;simp
 have e0:aL (bz l) []++bm (df l)=ai l:=by rw[eg];exact ht
 have hx:=lr (bz l) [] hb (df l) i1 i2 (by rw[e0];exact hlen) (by omega) (f0+4*((df l).length+1)+4) (by omega) w hl;rw[e0]at hx;refine hx.mono ?_;intro e w' hp;have e1:dd (f0+4*((df l).length+1)+4) ⟨[],[]⟩ (cj (1+bU (aL (bz l) [])) (df l))=z:=hf _ (by omega);rw[e1]at hp;exact⟨_,hq,hp⟩
theorem vq {p:Pr}{u:Tk}(hr:dS p=true)(hu:u.kind=5):jy (lV (.ok (p,[u])))=(p,0,0):=by
 have h1:lV (.ok (p,[u]))=(p,0,0):=by show(if u.kind=5 then(p,(0:Int),(0:Int))else _)=_;rw[if_pos hu]
 rw[h1];show(if(0:Int)=0∧dS p=false then _ else(p,(0:Int),(0:Int)))=_
 rw[if_neg (by rintro⟨_,h2⟩;rw[hr]at h2;cases h2)]
theorem qQ {p:Pr}(h:dS p=true):(∀a,a∈p.arrays→cg a=true)∧∀x,x∈p.funcs→WFu x:=by
 unfold dS at h;simp only[Zg,Zo]at h;exact⟨h.1,fun x hx=>wfu_of (h.2 x hx)⟩
theorem pr_good {p:Pr}(hr:dS p=true)(hn:∀g,g∈p.funcs→∀x,x∈g.body→rY x)(hlen:(dQ p).length≤20000)(w:World)(hl:fT w):
  Calls Zb 14 #[.string (aB (dQ p))] w (WhP w (p,0,0)):=by
 obtain⟨h1,h2⟩:=qQ hr;have hg:bz (yE p)=[]:=pr_gap _ _;rw[←vm]at hlen ⊢;refine(wu (yE p) (.app (nB _ _ fun a ha=>(uv (h1 a ha)).1) (nB _ _ fun x hx=>fu_toks (h2 x hx) (hn x hx))) (uD sepR digL p.arrays p.funcs [] (fun a ha=>(uv (h1 a ha)).2) h2) hlen (by rw[hg];exact jc) (fun r=>r=(p,0,0)) ?_ w hl).mono ?_
 ·intro T u hT hu hx
  exact⟨.ok (p,[u]),tI h2 hT hu,vq hr hu⟩
 ·rintro r w' ⟨R,rfl,hp⟩;exact hp
theorem aR.n64 {D:Nat→Prop}{w:World}{l:List St}{v:Value}(h:aR D w l v):∀x,x∈l→rY x:=by
 induction h with
 |mk l a cap b off sa st se hcap hfit ha h0 h1 h2 h3 h4 ea et ee ih1 ih2=>
  intro x hx;obtain⟨i,hi,rfl⟩:=List.getElem_of_mem hx;have e:ez l i=l[i]:=by simp [ez,Zp hi]
  have k1:=(ea i hi).n64;have k2:=ih1 i hi;have k3:=ih2 i hi;rw[e]at k1 k2 k3;generalize l[i]=y at k1 k2 k3;obtain⟨k,nm,args,thn,els⟩:=y;exact .mk k nm args thn els k1 k2 k3
theorem bM.n64 {D:Nat→Prop}{w:World}{l:List Fu}{v:Value}(h:bM D w l v):∀g,g∈l→∀x,x∈g.body→rY x:=by
 obtain⟨a,cap,b,off,pv,lv,bv,hv,h1,h2,h3,h4⟩:=h;intro g hg;obtain⟨i,hi,rfl⟩:=List.getElem_of_mem hg;have e:cZ l i=l[i]:=by simp [cZ,Zp hi]
 have:=(h4 i hi).2.2.2.n64;rw[e]at this;exact this
theorem ps_good {p:Pr}{D:Nat→Prop}{w0:World}{vf:Value}(hr:dS p=true)(hf:bM D w0 p.funcs vf)(hlen:(dQ p).length≤20000)(w:World)(hl:fT w):
  Calls Zb 14 #[.string (aB (dQ p))] w fun e w'=>Below w.heap.size w w'∧∃aa ac fa fc,e= .returned (.tuple #[.agg #[.slice aa p.arrays.length ac,.slice fa p.funcs.length fc],.int .i64 0,.int .i64 0])∧bK (fun _=>True) w' p.arrays (.slice aa p.arrays.length ac)∧bM (fun _=>True) w' p.funcs (.slice fa p.funcs.length fc):=by
 refine(pr_good hr hf.n64 hlen w hl).mono ?_;rintro e w' ⟨hb,v,rfl,av,fv,rfl,ha,hf⟩;have ha:bK (w.heap.size≤ ·) w' p.arrays av:=ha;have hf:bM (w.heap.size≤ ·) w' p.funcs fv:=hf;obtain⟨aa,ac,rfl⟩:=ha.yshape;obtain⟨fa,fc,rfl⟩:=hf.yshape;exact⟨hb,aa,ac,fa,fc,rfl,ha.mono (fun _ _=>trivial),hf.mono (fun _ _=>trivial)⟩
inductive nV:Ex→Prop
 |num (n:Int) (h:0≤n):nV (.mk 1 0 n [] [])
 |var (nm:Bs) (h:aY nm=true):nV (.mk 2 0 0 nm [])
 |one (o:Int) (x:Ex) (h:o=17∨o=18∨o=19) (hx:bZ x=true):nV (.mk 3 o 0 [] [x])
 |two (o:Int) (x y:Ex) (h:0<aP o) (hx:bZ x=true) (hy:bZ y=true):nV (.mk 4 o 0 [] [x,y])
 |call (nm:Bs) (l:List Ex) (h:aY nm=true) (hn:l.length≤6) (hl:∀x,x∈l→bZ x=true):nV (.mk 5 0 0 nm l)
 |index (nm:Bs) (x:Ex) (h:aY nm=true) (hx:bZ x=true):nV (.mk 6 0 0 nm [x])
 |read:nV (.mk 7 0 0 [] [])
def SOk(x:St):Prop:= ∃m,dD m x=true
inductive iK:St→Prop
 |set (nm:Bs) (x:Ex) (h:aY nm=true) (hx:bZ x=true):iK (.mk 1 nm [x] [] [])
 |store (nm:Bs) (x y:Ex) (h:aY nm=true) (hx:bZ x=true) (hy:bZ y=true):iK (.mk 2 nm [x,y] [] [])
 |iff (x:Ex) (t e:List St) (hx:bZ x=true) (ht:∀y,y∈t→SOk y) (he:∀y,y∈e→SOk y):iK (.mk 3 [] [x] t e)
 |loop (x:Ex) (t:List St) (hx:bZ x=true) (ht:∀y,y∈t→SOk y):iK (.mk 4 [] [x] t [])
 |brk:iK (.mk 5 [] [] [] [])
 |cont:iK (.mk 6 [] [] [] [])
 |ret (x:Ex) (hx:bZ x=true):iK (.mk 7 [] [x] [] [])
 |prt (x:Ex) (hx:bZ x=true):iK (.mk 8 [] [x] [] [])
 |trp (x:Ex) (hx:bZ x=true):iK (.mk 9 [] [x] [] [])
 |call (nm:Bs) (l:List Ex) (h:aY nm=true) (hn:l.length≤6) (hl:∀x,x∈l→bZ x=true):iK (.mk 10 [] [.mk 5 0 0 nm l] [] [])
structure FOk (f:Fu):Prop where
 name:aY f.name=true
 params:∀x,x∈f.params→aY x=true
 locals:∀x,x∈f.locals→aY x=true
 body:∀x,x∈f.body→SOk x
theorem wa {f:Fu}(h:du f=true):FOk f:=by
 unfold du at h;simp only[Zg,Zo]at h;exact⟨h.1.1.1.1,h.1.1.1.2,h.1.1.2,fun x hx=>⟨40,h.2 x hx⟩⟩
mutual
def cU:Ex→Ex→Bool
 | .mk k o n nm us,.mk k' o' n' nm' bs=>k==k' && o==o' && n==n' && nm==nm' && ci us bs
def ci:List Ex→List Ex→Bool
 |[],[]=>true
 |x::l,y::m=>cU x y && ci l m
 |_,_=>false
end
mutual
theorem uA:∀a b:Ex,cU a b=true↔a=b
 | .mk k o n nm us,.mk k' o' n' nm' bs=>by
  rw[cU];simp only[Zg,beq_iff_eq,hU us bs,Ex.mk.injEq];simp only[and_assoc]
theorem hU:∀a b:List Ex,ci a b=true↔a=b
 |[],[]=>by simp [ci]
 |x::l,y::m=>by rw[ci];simp [uA x y,hU l m]
 |[],y::m=>by simp [ci]
 |x::l,[]=>by simp [ci]
end
mutual
def dm:St→St→Bool
 | .mk k nm us t e,.mk k' nm' us' t' e'=>k==k' && nm==nm' && ci us us' && eL t t' && eL e e'
def eL:List St→List St→Bool
 |[],[]=>true
 |x::l,y::m=>dm x y && eL l m
 |_,_=>false
end
mutual
theorem sn:∀a b:St,dm a b=true↔a=b
 | .mk k nm us t e,.mk k' nm' us' t' e'=>by
  rw[dm];simp only[Zg,beq_iff_eq,hU us us',iJ t t',iJ e e',St.mk.injEq];simp only[and_assoc]
theorem iJ:∀a b:List St,eL a b=true↔a=b
 |[],[]=>by simp [eL]
 |x::l,y::m=>by rw[eL];simp [sn x y,iJ l m]
 |[],y::m=>by simp [eL]
 |x::l,[]=>by simp [eL]
end
def en:List Bs→List Bs→Bool
 |[],[]=>true
 |x::l,y::m=>x==y && en l m
 |_,_=>false
theorem nh:∀a b:List Bs,en a b=true↔a=b
 |[],[]=>by simp [en]
 |x::l,y::m=>by rw[en];simp [nh l m]
 |[],y::m=>by simp [en]
 |x::l,[]=>by simp [en]
def fQ(f g:Fu):Bool:=f.name==g.name && en f.params g.params && en f.locals g.locals && eL f.body g.body
theorem uG(f g:Fu):fQ f g=true↔f=g:=by
 obtain⟨a,b,c,d⟩:=f;obtain⟨a',b',c',d'⟩:=g;unfold fQ;simp only[Zg,beq_iff_eq,nh,iJ,Fu.mk.injEq];simp only[and_assoc]
def fk:List Fu→List Fu→Bool
 |[],[]=>true
 |x::l,y::m=>fQ x y && fk l m
 |_,_=>false
theorem mN:∀a b:List Fu,fk a b=true↔a=b
 |[],[]=>by simp [fk]
 |x::l,y::m=>by rw[fk];simp [uG x y,mN l m]
 |[],y::m=>by simp [fk]
 |x::l,[]=>by simp [fk]
def gX(a b:Ar):Bool:=a.name==b.name && a.size==b.size
theorem uX(f g:Ar):gX f g=true↔f=g:=by
 obtain⟨a,b⟩:=f;obtain⟨a',b'⟩:=g;unfold gX;simp
def eT:List Ar→List Ar→Bool
 |[],[]=>true
 |x::l,y::m=>gX x y && eT l m
 |_,_=>false
theorem mf:∀a b:List Ar,eT a b=true↔a=b
 |[],[]=>by simp [eT]
 |x::l,y::m=>by rw[eT];simp [uX x y,mf l m]
 |[],y::m=>by simp [eT]
 |x::l,[]=>by simp [eT]
def nw(p q:Pr):Bool:=eT p.arrays q.arrays && fk p.funcs q.funcs
theorem uB(p q:Pr):nw p q=true↔p=q:=by
 obtain⟨a,b⟩:=p;obtain⟨c,d⟩:=q;unfold nw;simp [mf,mN]
def bP {α:Type}(f:α→α→Bool):List α→List α→Bool
 |[],[]=>true
 |x::l,y::m=>f x y && bP f l m
 |_,_=>false
theorem hZ:∀l m,ci l m=bP cU l m
 |[],[]=>rfl
 |x::l,y::m=>by rw[ci,bP,hZ l m]
 |[],y::m=>by simp [ci,bP]
 |x::l,[]=>by simp [ci,bP]
theorem iI:∀l m,eL l m=bP dm l m
 |[],[]=>rfl
 |x::l,y::m=>by rw[eL,bP,iI l m]
 |[],y::m=>by simp [eL,bP]
 |x::l,[]=>by simp [eL,bP]
theorem mQ:∀l m,fk l m=bP fQ l m
 |[],[]=>rfl
 |x::l,y::m=>by rw[fk,bP,mQ l m]
 |[],y::m=>by simp [fk,bP]
 |x::l,[]=>by simp [fk,bP]
theorem mX:∀l m,eT l m=bP gX l m
 |[],[]=>rfl
 |x::l,y::m=>by rw[eT,bP,mX l m]
 |[],y::m=>by simp [eT,bP]
 |x::l,[]=>by simp [eT,bP]
theorem nN:∀l m,en l m=bP (fun x y=>x==y) l m
 |[],[]=>rfl
 |x::l,y::m=>by rw[en,bP,nN l m]
 |[],y::m=>by simp [en,bP]
 |x::l,[]=>by simp [en,bP]
theorem fR {α:Type}(f:α→α→Bool):∀(l m:List α),l.length≠m.length→bP f l m=false
 |[],[],h=>absurd rfl h
 |x::l,y::m,h=>by rw[bP,fR f l m (by simpa using h)];simp
 |[],y::m,_=>rfl
 |x::l,[],_=>rfl
theorem ei {α:Type}(f:α→α→Bool)(d:α):∀(l m:List α),l.length=m.length→(∀i,i<l.length→f (l.getD i d) (m.getD i d)=true)→bP f l m=true
 |[],[],_,_=>rfl
 |x::l,y::m,h,hf=>by
  have h0:f x y=true:=by have:=hf 0 (by simp);simpa using this
  rw[bP,h0,ei f d l m (by simpa using h) (fun i hi=>by have:=hf (i+1) (by simpa using hi);simpa using this)];rfl
 |[],y::m,h,_=>by simp at h
 |x::l,[],h,_=>by simp at h
theorem eJ {α:Type}(f:α→α→Bool)(d:α):∀(l m:List α) (i:Nat),l.length=m.length→i<l.length→f (l.getD i d) (m.getD i d)=false→bP f l m=false
 |x::l,y::m,0,_,_,hf=>by rw[bP,show f x y=false by simpa using hf];rfl
 |x::l,y::m,i+1,h,hi,hf=>by rw[bP,eJ f d l m i (by simpa using h) (by simpa using hi) (by simpa using hf)];simp
 |[],_,_,_,hi,_=>by simp at hi
 |x::l,[],_,h,_,_=>by simp at h
theorem cY {l:Bs}(h:aY l=true):l.length≤20:=by
 unfold aY at h;simp only[Zg,decide_eq_true_eq]at h;exact h.1.1.2
theorem uq(L:Nat):∀l:List Bs,(∀x,x∈l→x.length≤L)→(au l).length≤l.length*(L+2)
 |[],_=>by simp [au]
 |x::l,h=>by
  have more:∀m:List Bs,(∀x,x∈m→x.length≤L)→(m.flatMap (fun y=>[44,32]++y)).length≤m.length*(L+2):=by
   intro m
   induction m with
   |nil=>intro _;simp
   |cons y m ih=>
    intro hm;have h1:=hm y Zd;have h2:=ih (fun z hz=>hm z (Zi _ hz));simp only[Zm,Ze,Zf,Zh]at h2 ⊢;rw[Nat.add_mul];omega
  have h1:=h x Zd;have h2:=more l (fun z hz=>h z (Zi _ hz));rw[au,Ze,Zf,Nat.add_mul];omega
theorem iT(e:Ex)(lev:Int)(t:Bs):(cv e lev t).length≤t.length+2:=by
 unfold cv;split
 ·simp
 ·omega
theorem qG:∀i:Fin 20,(aU i.val).length≤2:=by decide+kernel
theorem kS(o:Int):(aU o).length≤2:=by
 by_cases h:0≤o∧o≤19
 ·have e1:((o.toNat:Nat):Int)=o:=Int.toNat_of_nonneg (by omega)
  have:=qG ⟨o.toNat,by omega⟩;simp only[e1]at this;exact this
 ·unfold aU
  rw[if_neg (by omega),if_neg (by omega),if_neg (by omega),if_neg (by omega),if_neg (by omega),if_neg (by omega),if_neg (by omega),if_neg (by omega),if_neg (by omega),if_neg (by omega),if_neg (by omega),if_neg (by omega),if_neg (by omega),if_neg (by omega),if_neg (by omega),if_neg (by omega),if_neg (by omega),if_neg (by omega),if_neg (by omega)];exact Nat.zero_le _
theorem vE(n:Int)(h:0≤n∧n≤9223372036854775807)(o:Int)(nm:Bs)(l:List Ex):(aK (.mk 1 o n nm l)).length≤21:=by
 rw[kV];exact Lib.itoa_length_le n (by omega) h.2
theorem rJ {L:Nat}{nm:Bs}{l:List Ex}(hn:nm.length≤20)(h6:l.length≤6)(hl:∀x,x∈l→(aK x).length≤L):(aK (.mk 5 0 0 nm l)).length≤6*L+64:=by
 rw[kh];have:=uq L (l.map aK) (fun x hx=>by
  obtain⟨y,hy,rfl⟩:=List.mem_map.1 hx;exact hl y hy)
 simp only[List.length_map,Ze,Zf,Zh]at this ⊢;have:l.length*(L+2)≤6*(L+2):=Nat.mul_le_mul_right _ h6;omega
theorem pQ {sc:Sc}(hs:sc.Ok)(raw:List Int)(g:Nat→Ex ×Nat)(L:Nat)(hg:∀a,(aK (g a).1).length≤L)(a:Nat):(aK (ey sc raw g a).1).length≤6*L+64:=by
 unfold ey;split
 ·have h7:=aM raw (aC raw a 312).2 7 (by decide)
  exact rJ (cY (fN _)) (by rw[fB];omega) (f5 g (fun x=>(aK x).length≤L) hg _ _)
 ·rename_i hn
  have hl:=pu hn;have hr:=aM raw a sc.funcs.length (by omega);have hf:aY (cZ sc.funcs (aC raw a sc.funcs.length).1.toNat).name=true∧(cZ sc.funcs (aC raw a sc.funcs.length).1.toNat).params.length≤6:=hs.funcs _ (xG (d:=Fu.nil) (i:=(aC raw a sc.funcs.length).1.toNat) (by omega));dsimp only;generalize cZ sc.funcs (aC raw a sc.funcs.length).1.toNat=f at hf ⊢;exact rJ (cY hf.1) (by rw[fB];exact hf.2) (f5 g (fun x=>(aK x).length≤L) hg _ _)
theorem pY {sc:Sc}(hs:sc.Ok)(raw:List Int)(g:Nat→Ex ×Nat)(L:Nat)(hg:∀a,(aK (g a).1).length≤L)(k:Int)(a:Nat):(aK (cE sc raw g k a).1).length≤6*L+64:=by
 unfold cE;split
 ·have:=cY (jM hs raw a)
  dsimp only;rw[lM];omega
 split
 ·dsimp only;rw[lG];simp
 split
 ·have h1:=aM raw (if k=3 then(aC raw a 3).2 else a) 1000 (by decide)
  have h2:=iB _ (aC raw (aC raw (if k=3 then(aC raw a 3).2 else a) 1000).2 8).1 h1;have:=vE _ h2 0 [] [];dsimp only;omega
 split
 ·have:=hg (aC raw a 3).2
  dsimp only;rw[kW _ _ _ _ (by simp)];have h2:=kS (17+(aC raw a 3).1);have h3:=iT (g (aC raw a 3).2).1 9 (aK (g (aC raw a 3).2).1);show(aU _++cv (g (aC raw a 3).2).1 9 (aK (g (aC raw a 3).2).1)).length≤_
  rw[Ze];omega
 split
 ·have h1:=cY (iV hs raw a)
  have h2:=hg (bV sc.free sc.arrays raw a).2;dsimp only;rw[kt _ _ _ _ (by simp)];show(_++[91]++aK (g (bV sc.free sc.arrays raw a).2).1++[93]).length≤_
  simp only[Ze,Zf,Zh];omega
 split
 ·exact pQ hs raw g L hg a
 ·dsimp only;rw[kX _ _ _ _ (by simp)]
  have h1:=hg (aC raw a 16).2;have h2:=hg (g (aC raw a 16).2).2;have h3:=kS (1+(aC raw a 16).1);have h4:=iT (g (aC raw a 16).2).1 (aP (1+(aC raw a 16).1)) (aK (g (aC raw a 16).2).1);have h5:=iT (g (g (aC raw a 16).2).2).1 (aP (1+(aC raw a 16).1)+1) (aK (g (g (aC raw a 16).2).2).1);show(cv (g (aC raw a 16).2).1 (aP (1+(aC raw a 16).1)) (aK (g (aC raw a 16).2).1)++([32]++(aU _++[32]))++cv (g (g (aC raw a 16).2).2).1 (aP (1+(aC raw a 16).1)+1) (aK (g (g (aC raw a 16).2).2).1)).length≤_
  simp only[Ze,Zf,Zh];omega
def exB:Nat→Nat
 |0=>64
 |d+1=>6*exB d+64
theorem jj {sc:Sc}(hs:sc.Ok)(raw:List Int):∀d a,(aK (aX sc raw d a).1).length≤exB d
 |0,a=>by
  rw[aX];unfold j7;have:=pY hs raw (fun a=>(Ex.nil,a)) 0 (fun a=>by show(aK (.mk 0 0 0 [] [])).length≤0;rw[dx];decide) (gK raw 0 a) (aC raw a 12).2;simp only[exB];omega
 |d+1,a=>by
  rw[aX];unfold j7;exact pY hs raw _ (exB d) (jj hs raw d) _ _
theorem xY(t:Nat):(gC t).length=t:=List.length_replicate
theorem qH(t:Nat)(l:List Bs):(ln t l).length=t+l.flatten.length+1:=by unfold ln;rw[Ze,Ze,xY];rfl
theorem zT {t N L T E:Nat}{k:Int}{nm:Bs}{args:List Ex}{thn els:List St}(hn:nm.length≤N)(ha:∀x,x∈args→(aK x).length≤L)(hT:(bN (t+1) thn).length≤T)(hE:(bN (t+1) els).length≤E):(bj t (.mk k nm args thn els)).length≤3*t+N+2*L+T+E+40:=by
 have hx:∀i,(aK (bI args i)).length≤L:=fun i=>by
  unfold bI;rcases Nat.lt_or_ge i args.length with h|h
  ·rw[List.getD_eq_getElem?_getD,Zp h];exact ha _ (List.getElem_mem h)
  ·rw[List.getD_eq_getElem?_getD,List.getElem?_eq_none h]
   show(aK (.mk 0 0 0 [] [])).length≤L
   rw[dx];exact Nat.zero_le _
 have h0:=hx 0;have h1:=hx 1;rw[dc];unfold cI
 repeat' split
 all_goals
  try simp only[qH,Ze,List.flatten_cons,List.flatten_nil,Zf,Zh]
  try omega
theorem pt {t B:Nat}:∀l:List St,(∀x,x∈l→(bj t x).length≤B)→(bN t l).length≤l.length*B
 |[],_=>by simp [bN]
 |x::l,h=>by
  have h1:=h x Zd;have h2:=pt l (fun z hz=>h z (Zi _ hz));rw[bN,Ze,Zf,Nat.add_mul];omega
theorem ry {sc:Sc}(hs:sc.Ok)(raw:List Int)(gs gl:Nat→List St ×Nat)(T:Nat)(t:Nat)(hgs:∀a,(bN (t+1) (gs a).1).length≤T)(hgl:∀a,(bN (t+1) (gl a).1).length≤T)(k:Int)(a:Nat):
  ∃k' nm args thn els,(bO sc raw gs gl k a).1= .mk k' nm args thn els∧nm.length≤20∧(∀x,x∈args→(aK x).length≤exB 3)∧(bN (t+1) thn).length≤T∧(bN (t+1) els).length≤T:=by
 have z:(bN (t+1) []).length≤T:=Nat.zero_le _;have nn:∀x:Ex,x∈([]:List Ex)→(aK x).length≤exB 3:=fun x hx=>by cases hx
 have n0:([]:Bs).length≤20:=Nat.zero_le _;have ee:∀a,∀x,x∈[(aX sc raw 3 a).1]→(aK x).length≤exB 3:=fun a x hx=>by rw[List.mem_singleton.1 hx];exact jj hs raw 3 a
 unfold bO;split
 ·exact⟨_,_,_,_,_,rfl,cY (jM hs raw a),nn,z,z⟩
 split
 ·exact⟨_,_,_,_,_,rfl,cY (iV hs raw a),ee _,z,z⟩
 split
 ·exact⟨_,_,_,_,_,rfl,n0,fun x hx=>by rw[List.mem_singleton.1 hx];exact pQ hs raw _ (exB 2) (jj hs raw 2) a,z,z⟩
 split
 ·exact⟨_,_,_,_,_,rfl,n0,nn,z,z⟩
 split
 ·exact⟨_,_,_,_,_,rfl,n0,ee _,hgs _,hgs _⟩
 split
 ·exact⟨_,_,_,_,_,rfl,n0,ee _,hgl _,z⟩
 split
 ·exact⟨_,_,_,_,_,rfl,n0,nn,z,z⟩
 ·exact⟨_,_,_,_,_,rfl,n0,nn,z,z⟩
theorem u5 {sc:Sc}(hs:sc.Ok)(raw:List Int)(gs gl:Nat→List St ×Nat)(T:Nat)(t d:Nat)(hgs:∀a,(bN (t+1) (gs a).1).length≤T)(hgl:∀a,(bN (t+1) (gl a).1).length≤T)(a:Nat):(bj t (gSt sc raw gs gl d a).1).length≤3*t+2*exB 4+2*T+60:=by
 unfold gSt;dsimp only;obtain⟨k,nm,args,thn,els,h,h1,h2,h3,h4⟩:=ry hs raw gs gl T t hgs hgl (lh raw d a) (aC raw a 14).2;generalize (bO sc raw gs gl (lh raw d a) (aC raw a 14).2).2=b;rw[h];have h2:∀x,x∈args→(aK x).length≤exB 4:=fun x hx=>Zl (h2 x hx) (by decide)
 unfold gR;split
 ·have:=zT (k:=k) (N:=20) (L:=exB 4) h1 (args:=args++[(aX sc raw 4 b).1]) (fun x hx=>by
   rcases List.mem_append.1 hx with hx|hx
   ·exact h2 x hx
   ·rw[List.mem_singleton.1 hx];exact jj hs raw 4 b) h3 h4
  show(bj t (.mk k nm (args++[(aX sc raw 4 b).1]) thn els)).length≤_
  omega
 ·have:=zT (k:=k) (N:=20) (L:=exB 4) h1 h2 h3 h4
  show(bj t (.mk k nm args thn els)).length≤_
  omega
def stB:Nat→Nat
 |0=>4*(2*exB 4+100)
 |d+1=>4*(2*exB 4+2*stB d+100)
theorem ny(one:Nat→St ×Nat)(P:St→Prop)(hg:∀a,P (one a).1)(c a:Nat):∀x,x∈(fH one c a).1→P x:=jq one P hg c a
theorem five(raw:List Int)(a:Nat):(aC raw a 5).1.toNat≤4:=by have:=aM raw a 5 (by decide);omega
theorem kG(raw:List Int):∀(d t:Nat) (sc:Sc),sc.Ok→t+d≤10→∀a,(bN t (eE raw d sc a).1).length≤stB d
 |0,t,sc,hs,ht,a=>by
  rw[eE];have h1:=pt (t:=t) (B:=2*exB 4+100) _ (ny _ (fun x=>(bj t x).length≤2*exB 4+100) (fun b=>Zl (u5 hs raw (fun a=>([],a)) (fun a=>([],a)) 0 t 0 (fun _=>Zj _) (fun _=>Zj _) b) (by omega)) (aC raw a 5).1.toNat (aC raw a 5).2);rw[iS]at h1;exact Zl h1 (Nat.mul_le_mul_right _ (five raw a))
 |d+1,t,sc,hs,ht,a=>by
  rw[eE];have h1:=pt (t:=t) (B:=2*exB 4+2*stB d+100) _ (ny _ (fun x=>(bj t x).length≤2*exB 4+2*stB d+100) (fun b=>Zl (u5 hs raw (eE raw d sc) (eE raw d sc.inLoop) (stB d) t (d+1) (kG raw d (t+1) sc hs (by omega)) (kG raw d (t+1) sc.inLoop hs.inLoop (by omega)) b) (by omega)) (aC raw a 5).1.toNat (aC raw a 5).2);rw[iS]at h1;exact Zl h1 (Nat.mul_le_mul_right _ (five raw a))
theorem fC(raw:List Int)(a:Nat)(n:Int)(h:a≤raw.length):a≤(aC raw a n).2∧(aC raw a n).2≤raw.length:=by
 refine⟨?_,x6 raw a n h⟩;unfold aC;split
 ·exact Zj _
 ·show a≤a+1;omega
def yu(N:Nat)(g:Nat→Ex ×Nat):Prop:= ∀a,a≤N→a≤(g a).2∧(g a).2≤N∧(aK (g a).1).length+64*a≤1+64*(g a).2
theorem qA(l:List Bs)(x:Bs):(au (l++[x])).length≤(au l).length+x.length+2:=by
 cases l with
 |nil=>simp [au]
 |cons y l=>
  rw[List.cons_append,au,au,List.flatMap_append];simp only[Ze,Zm,List.flatMap_nil,Zf,Zh,List.append_nil];omega
theorem lT {N:Nat}{g:Nat→Ex ×Nat}(hg:yu N g):∀c a,a≤N→a≤(cw g c a).2∧(cw g c a).2≤N∧(au ((cw g c a).1.map aK)).length+64*a≤3*c+64*(cw g c a).2
 |0,a,h=>⟨Zj _,h,by simp [cw,au]⟩
 |c+1,a,h=>by
  obtain⟨h1,h2,h3⟩:=lT hg c a h;obtain⟨q1,q2,q3⟩:=hg (cw g c a).2 h2;rw[cw];dsimp only;refine⟨by omega,q2,?_⟩;rw[List.map_append];have:=qA ((cw g c a).1.map aK) (aK (g (cw g c a).2).1);show(au ((cw g c a).1.map aK++[aK (g (cw g c a).2).1])).length+64*a≤_
  omega
theorem o5 {N c:Nat}{nm:Bs}{m:List Ex ×Nat}{a b:Nat}(hn:nm.length≤20)(hc:c≤6)(hab:a≤b)(h:b≤m.2∧m.2≤N∧(au (m.1.map aK)).length+64*b≤3*c+64*m.2):a≤m.2∧m.2≤N∧(aK (.mk 5 0 0 nm m.1)).length+64*a≤65+64*m.2:=by
 obtain⟨h1,h2,h3⟩:=h;refine⟨by omega,h2,?_⟩;rw[kh];simp only[Ze,Zf,Zh];omega
theorem v7 {sc:Sc}(hs:sc.Ok)(raw:List Int){g:Nat→Ex ×Nat}(hg:yu raw.length g)(k:Int)(a:Nat)(ha:a≤raw.length):a≤(cE sc raw g k a).2∧(cE sc raw g k a).2≤raw.length∧(aK (cE sc raw g k a).1).length+64*a≤65+64*(cE sc raw g k a).2:=by
 unfold cE;split
 ·have h:=cY (jM hs raw a)
  have h2:a≤(eC sc.free sc.vars raw a).2∧(eC sc.free sc.vars raw a).2≤raw.length:=by
   unfold eC;split<;>exact fC raw a _ ha
  dsimp only;rw[lM];exact⟨h2.1,h2.2,by omega⟩
 split
 ·have h2:=fC raw a 3 ha
  dsimp only;rw[lG];exact⟨h2.1,h2.2,by simp;omega⟩
 split
 ·have hb:a≤(if k=3 then(aC raw a 3).2 else a)∧(if k=3 then(aC raw a 3).2 else a)≤raw.length:=by
   split
   ·exact fC raw a 3 ha
   ·exact⟨Zj _,ha⟩
  have n1:=fC raw _ 1000 hb.2;have n2:=fC raw _ 8 n1.2;have h1:=aM raw (if k=3 then(aC raw a 3).2 else a) 1000 (by decide);have h2:=iB _ (aC raw (aC raw (if k=3 then(aC raw a 3).2 else a) 1000).2 8).1 h1;have:=vE _ h2 0 [] [];dsimp only;exact⟨by omega,n2.2,by omega⟩
 split
 ·have n1:=fC raw a 3 ha
  obtain⟨q1,q2,q3⟩:=hg (aC raw a 3).2 n1.2;dsimp only;rw[kW _ _ _ _ (by simp)];have h2:=kS (17+(aC raw a 3).1);have h3:=iT (g (aC raw a 3).2).1 9 (aK (g (aC raw a 3).2).1);refine⟨by omega,q2,?_⟩;show(aU _++cv (g (aC raw a 3).2).1 9 (aK (g (aC raw a 3).2).1)).length+64*a≤_
  rw[Ze];omega
 split
 ·have h1:=cY (iV hs raw a)
  have n1:a≤(bV sc.free sc.arrays raw a).2∧(bV sc.free sc.arrays raw a).2≤raw.length:=by
   unfold bV;split
   ·have m1:=fC raw a 312 ha
    have m2:=fC raw _ 1000 m1.2;exact⟨Zl m1.1 m2.1,m2.2⟩
   ·exact fC raw a _ ha
  obtain⟨q1,q2,q3⟩:=hg (bV sc.free sc.arrays raw a).2 n1.2;dsimp only;rw[kt _ _ _ _ (by simp)];refine⟨by omega,q2,?_⟩;show(_++[91]++aK (g (bV sc.free sc.arrays raw a).2).1++[93]).length+64*a≤_
  simp only[Ze,Zf,Zh];omega
 split
 ·unfold ey
  split
  ·have h7:=aM raw (aC raw a 312).2 7 (by decide)
   have m1:=fC raw a 312 ha;have m2:=fC raw _ 7 m1.2;exact o5 (c:=(aC raw (aC raw a 312).2 7).1.toNat) (b:=(aC raw (aC raw a 312).2 7).2) (cY (fN _)) (by omega) (Zl m1.1 m2.1) (lT hg _ _ m2.2)
  ·rename_i hn
   have hl:=pu hn;have hr:=aM raw a sc.funcs.length (by omega);have hf:aY (cZ sc.funcs (aC raw a sc.funcs.length).1.toNat).name=true∧(cZ sc.funcs (aC raw a sc.funcs.length).1.toNat).params.length≤6:=hs.funcs _ (xG (d:=Fu.nil) (i:=(aC raw a sc.funcs.length).1.toNat) (by omega));have m1:=fC raw a sc.funcs.length ha;dsimp only;generalize cZ sc.funcs (aC raw a sc.funcs.length).1.toNat=f at hf ⊢;exact o5 (c:=f.params.length) (cY hf.1) hf.2 m1.1 (lT hg _ _ m1.2)
 ·have n1:=fC raw a 16 ha
  obtain⟨q1,q2,q3⟩:=hg (aC raw a 16).2 n1.2;obtain⟨r1,r2,r3⟩:=hg (g (aC raw a 16).2).2 q2;dsimp only;rw[kX _ _ _ _ (by simp)];have h3:=kS (1+(aC raw a 16).1);have h4:=iT (g (aC raw a 16).2).1 (aP (1+(aC raw a 16).1)) (aK (g (aC raw a 16).2).1);have h5:=iT (g (g (aC raw a 16).2).2).1 (aP (1+(aC raw a 16).1)+1) (aK (g (g (aC raw a 16).2).2).1);refine⟨by omega,r2,?_⟩;show(cv (g (aC raw a 16).2).1 (aP (1+(aC raw a 16).1)) (aK (g (aC raw a 16).2).1)++([32]++(aU _++[32]))++cv (g (g (aC raw a 16).2).2).1 (aP (1+(aC raw a 16).1)+1) (aK (g (g (aC raw a 16).2).2).1)).length+64*a≤_
  simp only[Ze,Zf,Zh];omega
theorem pU {sc:Sc}(hs:sc.Ok)(raw:List Int)(d:Nat){g:Nat→Ex ×Nat}(hg:yu raw.length g):yu raw.length (j7 sc raw d g):=by
 intro a ha;unfold j7
 by_cases h:raw.length≤a
 ·have e:∀n,aC raw a n=(0,a):=fun n=>by unfold aC;rw[if_pos h]
  have ek:gK raw d a=0:=by unfold gK;rw[e];split<;>rfl
  rw[ek,e];show a≤(cE sc raw g 0 a).2∧(cE sc raw g 0 a).2≤raw.length∧(aK (cE sc raw g 0 a).1).length+64*a≤1+64*(cE sc raw g 0 a).2
  have eg:cE sc raw g 0 a=(.mk 1 0 0 [] [],a):=by
   unfold cE;rw[if_neg (by simp),if_neg (by simp),if_pos (by decide),if_neg (by decide)];dsimp only;rw[e 1000];dsimp only;rw[e 8];rfl
  rw[eg];refine⟨Zj _,ha,?_⟩;rw[kV];have:(Lib.itoa 0).length=1:=by rw[Lib.itoa,if_neg (by decide)];rw[Lib.decDigits,dif_pos (by decide)];rfl
  rw[this];exact Zj _
 ·have e:(aC raw a 12).2=a+1:=by unfold aC;rw[if_neg h]
  rw[e];obtain⟨h1,h2,h3⟩:=v7 hs raw hg (gK raw d a) (a+1) (by omega);exact⟨by omega,h2,by omega⟩
theorem pK {sc:Sc}(hs:sc.Ok)(raw:List Int):∀d,yu raw.length (aX sc raw d)
 |0=>by
  rw[aX];exact pU hs raw 0 (fun a ha=>⟨Zj _,ha,by
   have:(aK (Ex.nil)).length=0:=by show(aK (.mk 0 0 0 [] [])).length=0;rw[dx];decide
   show(aK Ex.nil).length+64*a≤1+64*a
   omega⟩)
 |d+1=>by
  rw[aX];exact pU hs raw (d+1) (pK hs raw d)
theorem oV(raw0:List Int):(aK (iR raw0)).length≤6401:=by
 have hs:Sc.Ok ⟨[],[],[],true,false⟩:=⟨fun x hx=>(by cases hx),fun x hx=>(by cases hx),fun x hx=>(by cases hx)⟩;have h:=(pK hs (raw0.take 100) 6 0 (Nat.zero_le _));have hl:(raw0.take 100).length≤100:=by rw[List.length_take];omega
 have e:iR raw0=(aX ⟨[],[],[],true,false⟩ (raw0.take 100) 6 0).1:=rfl;rw[e];obtain⟨h1,h2,h3⟩:=h;omega
def awP:List It:=[⟨[105,110,116],2,0,[32],[]⟩,⟨[109,97,105,110],1,0,[],[]⟩,⟨[40],4,0,[],[]⟩,⟨[41],4,0,[32],[]⟩,⟨[123],4,0,[32],[]⟩,⟨[112,114,105,110,116],2,0,[],[]⟩,⟨[40],4,0,[],[]⟩,⟨[49],3,1,[32],[]⟩,⟨[43],4,0,[32],[]⟩,⟨[50],3,2,[32],[]⟩,⟨[42],4,0,[32],[]⟩,⟨[51],3,3,[],[]⟩,⟨[41],4,0,[],[]⟩,⟨[59],4,0,[32],[]⟩,⟨[125],4,0,[],[]⟩]
def awQ:List It:=[⟨[105,110,116],2,0,[32],[]⟩,⟨[109,97,105,110],1,0,[],[]⟩,⟨[40],4,0,[],[]⟩,⟨[41],4,0,[32],[]⟩,⟨[123],4,0,[10],[]⟩]
def awX:List It:=[⟨[97],1,0,[32],[]⟩,⟨[45],4,0,[32],[]⟩,⟨[98],1,0,[32],[]⟩,⟨[45],4,0,[32],[]⟩,⟨[99],1,0,[],[]⟩]
theorem awP_ok:wD [] awP=true:=by kernel_rfl
theorem awQ_ok:wD [] awQ=true:=by kernel_rfl
theorem awX_ok:wD [] awX=true:=by kernel_rfl
theorem aw_p(w:World)(hl:fT w):
  Calls Zb 14 #[.string ⟨#[105,110,116,32,109,97,105,110,40,41,32,123,32,112,114,105,110,116,40,49,32,43,32,50,32,42,32,51,41,59,32,125]⟩] w fun e w'=>
   Below w.heap.size w w'∧∃aa an ac b off cap b2 o2 c2,e= .returned (.tuple #[.agg #[.slice aa an ac,.slice (some ⟨b,off,none⟩) 1 cap],.int .i64 0,.int .i64 0])∧w'.cell? ⟨b,off+3,none⟩=some (.slice (some ⟨b2,o2,none⟩) 1 c2)∧w'.cell? ⟨b2,o2,none⟩=some (.int .i64 8)∧1≤cap∧1≤c2:=by
 obtain⟨h1,h2⟩:=m9 [] awP awP_ok;refine(lr [] [] jc awP h1 h2 (by decide) (by decide) 100 (by decide) w hl).mono ?_;intro e w' hp;obtain⟨hb,v,he,av,fv,hv,hxa,hxf⟩:=hp;have e1:(jy (lV (dd 100 ⟨[],[]⟩ (cj (1+bU (aL [] [])) awP)))).2.1=0:=by kernel_rfl
 have e2:(jy (lV (dd 100 ⟨[],[]⟩ (cj (1+bU (aL [] [])) awP)))).2.2=0:=by kernel_rfl
 have e3:(jy (lV (dd 100 ⟨[],[]⟩ (cj (1+bU (aL [] [])) awP)))).1.funcs.length=1:=by kernel_rfl
 have e4:(cZ (jy (lV (dd 100 ⟨[],[]⟩ (cj (1+bU (aL [] [])) awP)))).1.funcs 0).body.length=1:=by kernel_rfl
 have e5:(ez (cZ (jy (lV (dd 100 ⟨[],[]⟩ (cj (1+bU (aL [] [])) awP)))).1.funcs 0).body 0).kind=8:=by kernel_rfl
 generalize jy (lV (dd 100 ⟨[],[]⟩ (cj (1+bU (aL [] [])) awP)))=R at*;obtain⟨a,cap,b,off,pv,lv,bv,rfl,hc,_,hz,hall⟩:=hxf;rw[e3]at hc hz hall;obtain⟨⟨_,_,_,g3⟩,_,_,hst⟩:=hall 0 (by decide);obtain⟨a2,c2,hs2⟩:=hst.shape;rw[hs2]at hst g3;rcases hz with hz|⟨rfl,_⟩
 ·omega
 have hq:∃b2 o2,a2=some ⟨b2,o2,none⟩∧w'.cell? ⟨b2,o2,none⟩=some (.int .i64 8)∧1≤c2:=by
  rw[←e5]
  cases hst with
  |mk _ _ _ b2 o2 sa st se hcap hfit ha h0=>
   rcases ha with ha|⟨ha,_⟩
   ·omega
   ·exact⟨b2,o2,ha,by simpa using h0 0 (by omega),by omega⟩
 obtain⟨b2,o2,rfl,hk,hc2⟩:=hq;rw[e4]at g3;obtain⟨aa,an,ac,rfl⟩:∃a n c,av=Value.slice a n c:=by obtain⟨a,c,h⟩:=hxa.yshape;exact⟨a,_,c,h⟩
 refine⟨hb,aa,an,ac,b,off,cap,b2,o2,c2,?_,by simpa using g3,hk,hc,hc2⟩;rw[he,hv,e1,e2,e3]
theorem aw_q(w:World)(hl:fT w):
  Calls Zb 14 #[.string ⟨#[105,110,116,32,109,97,105,110,40,41,32,123,10]⟩] w fun e w'=>
   Below w.heap.size w w'∧∃aa an ac fa fn fc,e= .returned (.tuple #[.agg #[.slice aa an ac,.slice fa fn fc],.int .i64 40,.int .i64 2]):=by
 obtain⟨h1,h2⟩:=m9 [] awQ awQ_ok;refine(lr [] [] jc awQ h1 h2 (by decide) (by decide) 100 (by decide) w hl).mono ?_;intro e w' hp;obtain⟨hb,v,he,av,fv,hv,hxa,hxf⟩:=hp;obtain⟨aa,an,ac,rfl⟩:∃a n c,av=Value.slice a n c:=by obtain⟨a,c,h⟩:=hxa.yshape;exact⟨a,_,c,h⟩
 obtain⟨fa,fn,fc,rfl⟩:∃a n c,fv=Value.slice a n c:=by obtain⟨a,c,h⟩:=hxf.yshape;exact⟨a,_,c,h⟩
 refine⟨hb,aa,an,ac,fa,fn,fc,?_⟩;rw[he,hv];rfl
theorem aw_x(w:World)(hl:fT w):
  Calls Zb 13 #[.string ⟨#[97,32,45,32,98,32,45,32,99]⟩] w fun e w'=>
   Below w.heap.size w w'∧∃k o n s b off cap,e= .returned (.tuple #[.agg #[.int .i64 k,.int .i64 o,.int .i64 n,.string s,.slice (some ⟨b,off,none⟩) 2 cap],.int .i64 0,.int .i64 0])∧w'.cell? ⟨b,off+8,none⟩=some (.string ⟨#[99]⟩):=by
 obtain⟨h1,h2⟩:=m9 [] awX awX_ok;refine(sE [] [] jc awX h1 h2 (by decide) (by decide) 100 (by decide) w hl).mono ?_;intro e w' hp;obtain⟨hb,v,he,s,hv,hx,hn⟩:=hp;have e1:(lD (oB (ar 100 1 (cj (1+bU (aL [] [])) awX)))).2.1=0:=by kernel_rfl
 have e2:(lD (oB (ar 100 1 (cj (1+bU (aL [] [])) awX)))).2.2=0:=by kernel_rfl
 have e3:(lD (oB (ar 100 1 (cj (1+bU (aL [] [])) awX)))).1.args.length=2:=by kernel_rfl
 have e4:(bI (lD (oB (ar 100 1 (cj (1+bU (aL [] [])) awX)))).1.args 1).name=[99]:=by kernel_rfl
 generalize lD (oB (ar 100 1 (cj (1+bU (aL [] [])) awX)))=R at*;obtain⟨a,cap,rfl⟩:=hx.shape;obtain⟨b,off,s2,rfl,_,_,_,_,h4,_⟩:=hx.cellAt 1 (by omega);rw[e4]at h4;refine⟨hb,R.1.kind,R.1.op,R.1.n,aB R.1.name,b,off,cap,?_,h4⟩;rw[he,hv,e1,e2,e3]
theorem ub(w:World)(hl:fT w):
  Calls Zb 11 #[] w fun e w'=>e= .returned (.bool true)∧Below w.heap.size w w':=by
 have HL:=Za hl;clear hl;go_enter Tryz.func11,Tryz.ntmps11
 go_wp2_with fail
 refine(aw_p w HL.out).mono ?_;rintro e w1 ⟨hb1,aa,an,ac,b,off,cap,b2,o2,c2,rfl,h3,hk,hc,hc2⟩;have hal:Below w1.heap.size w1 (w1.alloc (.cells #[.slice aa an ac,.slice (some ⟨b,off,none⟩) 1 cap] 34)):=bA;have HO:=Za (aG.new w1 [.slice aa an ac,.slice (some ⟨b,off,none⟩) 1 cap] 34);have HL1:=Za ((HL.out.old hb1).old hal);have HB1:=Za (hb1.trans (hal.mono hb1.size));have H3:=Za (aE hal h3);have HK:=Za (aE hal hk);clear hb1 h3 hk hal;go_upto_region 2 with(fail)
 generalize w1.alloc (.cells #[.slice aa an ac,.slice (some ⟨b,off,none⟩) 1 cap] 34)=w2 at*;obtain⟨pb,hpb⟩:∃pb,w1.heap.size=pb:=⟨_,rfl⟩;rw[hpb]at HO ⊢;clear hpb;go_wp2_with fail
 refine(aw_q w2 HL1.out).mono ?_;rintro e w3 ⟨hb3,a3,n3,d3,f3,m3,e3,rfl⟩;have hal:Below w3.heap.size w3 (w3.alloc (.cells #[.slice a3 n3 d3,.slice f3 m3 e3] 34)):=bA;have HO3:=Za ((HO.out.old hb3).old hal);have HL3:=Za ((HL1.out.old hb3).old hal);have HB3:=Za (HB1.out.trans ((hb3.trans (hal.mono hb3.size)).mono HB1.out.size));have H33:=Za (aE hal (aE hb3 H3.out));have HK3:=Za (aE hal (aE hb3 HK.out));clear hb3 hal HO HL1 HB1 H3 HK;go_upto_region 3 with(fail)
 generalize w3.alloc (.cells #[.slice a3 n3 d3,.slice f3 m3 e3] 34)=w4 at*;go_wp2_with fail
 refine(aw_x w4 HL3.out).mono ?_;rintro e w5 ⟨hb5,k,o,n,s,b5,off5,cap5,rfl,h5⟩;have hal:Below w5.heap.size w5 (w5.alloc (.cells #[.int .i64 k,.int .i64 o,.int .i64 n,.string s,.slice (some ⟨b5,off5,none⟩) 2 cap5] 27)):=bA;have HO5:=Za ((HO3.out.old hb5).old hal);have HX5:=Za (aG.new w5 [.int .i64 k,.int .i64 o,.int .i64 n,.string s,.slice (some ⟨b5,off5,none⟩) 2 cap5] 27);have HB5:=Za (HB3.out.trans ((hb5.trans (hal.mono hb5.size)).mono HB3.out.size));have H35:=Za (aE hal (aE hb5 H33.out));have HK5:=Za (aE hal (aE hb5 HK3.out));have H85:=Za (aE hal h5);clear hb5 hal HO3 HL3 HB3 H33 HK3 h5;go_upto_region 4 with(fail)
 generalize w5.alloc (.cells #[.int .i64 k,.int .i64 o,.int .i64 n,.string s,.slice (some ⟨b5,off5,none⟩) 2 cap5] 27)=w6 at*;obtain⟨xb,hxb⟩:∃xb,w5.heap.size=xb:=⟨_,rfl⟩;rw[hxb]at HX5 ⊢;clear hxb;have p1:=HO5.out.at 1 _ rfl;have q4:=HX5.out.at 4 _ rfl;have c3:=H35.out;have ck:=HK5.out;have c8:=H85.out;have hcI:(1:Int)≤(cap:Int):=by omega
 go_wp2_with fail
 go_ret
 exact⟨rfl,HB5.out⟩
theorem vg(c n:Int)(hc:I64 c)(h0:0<n)(h1:n≤9223372036854775807)(w:World):
  Calls Zb 135 #[.int .i64 c,.int .i64 n] w fun e w'=>e= .returned (.int .i64 (eR c n))∧w'=w:=by
 obtain⟨l,u⟩:=hc;unfold eR
 by_cases hneg:c<0
 ·rw[if_pos hneg]
  have hn0:(n==0)=false:=by simp;omega
  go_enter Tryz.func135,Tryz.ntmps135
  go_wp2_with fail
  go_ret
  exact⟨e9 (by show -((c+1).tmod n)=_;rw[←Int.neg_tmod,Int.tmod_eq_emod_of_nonneg (by omega)]),rfl⟩
 ·rw[if_neg hneg]
  have hneg':0≤c:=by omega
  go_enter Tryz.func135,Tryz.ntmps135
  go_wp2_with fail
  go_ret
  exact⟨rfl,rfl⟩
theorem zd(n:Int)(h0:0≤n)(h1:n<256)(W:World)(b:Nat)(hc:W.cell? ⟨b,0,none⟩=some (.int .u8 n)):
  (convert 77 9 (.slice (some ⟨b,0,none⟩) 1 1)).run Zb W= .ok (.string (aB [UInt8.ofNat n.toNat])) W:=by
 refine run_convert_bytes_back (P:=Zb) W 77 9 5 ⟨b,0,none⟩ 1 [UInt8.ofNat n.toNat] Tryz.underlying77 Tryz.underlying5 Tryz.underlying9 (fun j hj=> ?_);have hj0:j=0:=by simp at hj;omega
 subst hj0;have e:((UInt8.ofNat n.toNat).toNat:Int)=n:=by
  rw[UInt8.toNat_ofNat'];have:n.toNat % 2 ^ 8=n.toNat:=Nat.mod_eq_of_lt (by omega);omega
 show W.cell? _=some (.int .u8 ((UInt8.ofNat n.toNat).toNat:Int))
 rw[e];exact hc
theorem suf_at:∀j:Fin 12,([Value.string ⟨#[]⟩,Value.string ⟨#[49]⟩,Value.string ⟨#[95]⟩,Value.string ⟨#[90,57]⟩,Value.string ⟨#[105,102]⟩,Value.string ⟨#[120]⟩,Value.string ⟨#[48]⟩,Value.string ⟨#[97,97]⟩,Value.string ⟨#[105,110,116,105,110,116]⟩,Value.string ⟨#[113,55]⟩,Value.string ⟨#[66]⟩,Value.string ⟨#[48,48]⟩]:List Value)[j.val]'(by simp)= .string (aB (tA.getD j.val [])):=by
 intro j;obtain⟨j,hj⟩:=j;have:j=0∨j=1∨j=2∨j=3∨j=4∨j=5∨j=6∨j=7∨j=8∨j=9∨j=10∨j=11:=by omega
 rcases this with rfl|rfl|rfl|rfl|rfl|rfl|rfl|rfl|rfl|rfl|rfl|rfl<;>rfl
theorem px(c:Int)(hc:I64 c)(w:World):
  Calls Zb 83 #[.int .i64 c] w fun e w'=>e= .returned (.string (aB (fu c)))∧Below w.heap.size w w':=by
 have hk:=jI c 312 (by decide);have E:Hid (fu c=UInt8.ofNat (97+(eR c 312 % 26).toNat)::tA.getD (eR c 312 / 26).toNat []):=rfl;rw[E.out];have HC:=Za hc;have HK:Hid (∀w,Calls Zb 135 #[.int .i64 c,.int .i64 312] w fun e w'=>e= .returned (.int .i64 (eR c 312))∧w'=w):=fun w=>vg c 312 hc (by decide) (by decide) w
 clear hc E;generalize eR c 312=k at*;obtain⟨hk0,hk1⟩:=hk;have hm0:0≤k % 26:=Int.emod_nonneg _ (by decide);have hm1:k % 26<26:=Int.emod_lt_of_pos _ (by decide);have hd0:0≤k / 26:=by omega
 have hd1:k / 26<12:=by omega
 have hd2:(k / 26).toNat<12:=by omega
 have HCV:=zd (97+k % 26) (by omega) (by omega);have HLD:=suf_at ⟨(k / 26).toNat,hd2⟩;dsimp only at HLD;have hlen:(tA.getD (k / 26).toNat []).length≤6:=by
  have h:∀j:Fin 12,(tA.getD j.val []).length≤6:=by decide
  exact h ⟨_,hd2⟩
 generalize tA.getD (k / 26).toNat []=sf at*;have hno:¬((aB [UInt8.ofNat (97+k % 26).toNat]).size+(aB sf).size>9223372036854775807):=by
  show ¬([UInt8.ofNat (97+k % 26).toNat].toArray.size+sf.toArray.size>_)
  simp;omega
 have hsb:Hid (aB [UInt8.ofNat (97+k % 26).toNat]++aB sf=aB (UInt8.ofNat (97+(k % 26).toNat)::sf)):=by
  show _=_
  rw[show 97+(k % 26).toNat=(97+k % 26).toNat by omega];rfl
 generalize aB [UInt8.ofNat (97+k % 26).toNat]=cb at*;generalize hsf:aB sf=sb at*;have HSF:=Za hsf;clear hsf hlen;go_enter Tryz.func83,Tryz.ntmps83
 go_wp2_with fail
 refine(HK.out _).mono ?_;rintro r w2 ⟨he,hw⟩;subst he;subst hw;go_wp2_with fail
 go_region
 all_goals go_wp2_with fail
 all_goals
  go_ret
  refine⟨?_,by repeat(first|exact Below.refl _ _|refine Below.drew ?_ |refine Below.alloc ?_ (by simp) _)⟩;exact congrArg (fun s=>Ending.returned (Value.string s)) hsb.out
abbrev scV(sc:Sc)(vv av fv:Value):Value:= .agg #[vv,av,fv,.bool sc.free,.bool sc.loop]
theorem jp(raw:List Int)(a:Nat)(n:Int)(h:0<n)(h1:n≤1000000):I64 (aC raw a n).1:=by
 have:=aM raw a n h;exact⟨by omega,by omega⟩
theorem aZ.alloc {w:World}{s:Nat}{raw:List Int}{a:Nat}(h:aZ w s raw a)(o:Obj):aZ (w.alloc o) s raw a:=h.old (bA)
theorem SFr.alloc {s:Nat}{w:World}(o:Obj):SFr s w (w.alloc o):=SFr.of_below (bA)
theorem xg(s:Nat)(raw:List Int)(a:Nat)(sc:Sc)(vv av fv lv:Value)(l:List Bs)(w:World)(hs:aZ w s raw a)(hl:ag (· ≠s) w l lv)(h:(sc.free||l.isEmpty)=true):
  Calls Zb 69 #[scV sc vv av fv,.pointer (some ⟨s,0,none⟩),lv] w (cp w s raw (.string (aB (eC sc.free l raw a).1)) (eC sc.free l raw a).2):=by
 obtain⟨l1,l2,rfl⟩:=hl.shape;have E:Hid (eC sc.free l raw a=(fu (aC raw a 312).1,(aC raw a 312).2)):=by show _=_;unfold eC;rw[if_pos h]
 rw[E.out];have HS1:=Za (hs.alloc (.cells #[vv,av,fv,.bool sc.free,.bool sc.loop] 73));have HF1:Hid (SFr s w (w.alloc (.cells #[vv,av,fv,.bool sc.free,.bool sc.loop] 73))):=SFr.alloc _;clear hs hl E;have key:∀w1,aZ w1 s raw a→SFr s w w1→Calls Zb 37 #[.pointer (some ⟨s,0,none⟩),.int .i64 312] w1 (cp w1 s raw (.int .i64 (aC raw a 312).1) (aC raw a 312).2):=fun w1 h1 h2=>bQ s raw a 312 w1 h1 (by decide) (by decide)
 have HK:=Za key;clear key;have HV:Hid (∀w,Calls Zb 83 #[.int .i64 (aC raw a 312).1] w fun e w'=>e= .returned (.string (aB (fu (aC raw a 312).1)))∧Below w.heap.size w w'):=fun w=>px _ (jp raw a 312 (by decide) (by decide)) w
 generalize aC raw a 312=g at*
 cases hf:sc.free
 ·have hl:l.length=0:=by rw[hf]at h;simpa using h
  rw[hl];clear hl h;rw[hf]at HS1 HF1;go_enter Tryz.func69,Tryz.ntmps69
  go_wp2_with fail
  refine(HK.out _ HS1.out HF1.out).mono ?_;rintro r w2 ⟨rfl,hs2,hf2⟩;have HS2:=Za hs2;have HF2:=Za (HF1.out.trans hf2);clear hs2 hf2;go_wp2_with fail
  refine(HV.out _).mono ?_;rintro r w3 ⟨rfl,hb3⟩;have HS3:=Za (HS2.out.old hb3);have HF3:=Za (HF2.out.trans (SFr.of_below hb3));clear hb3;go_wp2_with fail
  go_ret
  exact⟨rfl,HS3.out,HF3.out⟩
 ·clear h
  rw[hf]at HS1 HF1;go_enter Tryz.func69,Tryz.ntmps69
  go_wp2_with fail
  refine(HK.out _ HS1.out HF1.out).mono ?_;rintro r w2 ⟨rfl,hs2,hf2⟩;have HS2:=Za hs2;have HF2:=Za (HF1.out.trans hf2);clear hs2 hf2;go_wp2_with fail
  refine(HV.out _).mono ?_;rintro r w3 ⟨rfl,hb3⟩;have HS3:=Za (HS2.out.old hb3);have HF3:=Za (HF2.out.trans (SFr.of_below hb3));clear hb3;go_wp2_with fail
  go_ret
  exact⟨rfl,HS3.out,HF3.out⟩
theorem name_of(s:Nat)(raw:List Int)(a:Nat)(sc:Sc)(vv av fv lv:Value)(l:List Bs)(w:World)(hs:aZ w s raw a)(hl:ag (· ≠s) w l lv)(h:(sc.free||l.isEmpty)=false)(hn:l.length≤1000000):
  Calls Zb 69 #[scV sc vv av fv,.pointer (some ⟨s,0,none⟩),lv] w (cp w s raw (.string (aB (eC sc.free l raw a).1)) (eC sc.free l raw a).2):=by
 obtain⟨l1,l2,rfl⟩:=hl.shape;have hpos:0<l.length:=pu (by rw[h];simp);have hf:sc.free=false:=by revert h;cases sc.free<;>simp
 have E:Hid (eC sc.free l raw a=(l.getD (aC raw a l.length).1.toNat [],(aC raw a l.length).2)):=by show _=_;unfold eC;rw[if_neg (by rw[h];simp)]
 rw[E.out];have HS1:=Za (hs.alloc (.cells #[vv,av,fv,.bool sc.free,.bool sc.loop] 73));have HF1:Hid (SFr s w (w.alloc (.cells #[vv,av,fv,.bool sc.free,.bool sc.loop] 73))):=SFr.alloc _;have HK:Hid (∀w1,aZ w1 s raw a→Calls Zb 37 #[.pointer (some ⟨s,0,none⟩),.int .i64 l.length] w1 (cp w1 s raw (.int .i64 (aC raw a l.length).1) (aC raw a l.length).2)):=fun w1 h1=>bQ s raw a l.length w1 h1 (by omega) (by omega)
 have hr:=aM raw a l.length (by omega);have HL:=Za hl;have hne:((l.length:Int)==0)=false:=beq_eq_false_iff_ne.2 (by omega);clear hs hl E h;have hi64:=jp raw a l.length (by omega) (by omega);clear hi64;generalize aC raw a l.length=g at*;obtain⟨g,ga⟩:=g;obtain⟨g0,g1⟩:=hr;dsimp only at g0 g1 HK ⊢;obtain⟨i,rfl⟩:=Int.eq_ofNat_of_zero_le g0;rw[Int.toNat_natCast];have hi:i<l.length:=by omega
 unfold scV;rw[hf]at HS1 HF1 ⊢;clear hf;go_enter Tryz.func69,Tryz.ntmps69
 go_wp2_with fail
 refine(HK.out _ HS1.out).mono ?_;rintro r w2 ⟨rfl,hs2,hf2⟩;have HS2:=Za hs2;have HF2:=Za (HF1.out.trans hf2);clear hs2 hf2;obtain⟨b,off,rfl,hD,hbl,c⟩:=iX (ag.keep HF2.out.keeps HL.out) i hi;generalize l.getD i []=x at*;clear hD;go_wp2_with fail
 go_ret
 exact⟨rfl,HS2.out,HF2.out⟩
theorem pj(s:Nat)(raw:List Int)(a:Nat)(sc:Sc)(vv av fv lv:Value)(l:List Bs)(w:World)(hs:aZ w s raw a)(hl:ag (· ≠s) w l lv)(hn:l.length≤1000000):
  Calls Zb 69 #[scV sc vv av fv,.pointer (some ⟨s,0,none⟩),lv] w (cp w s raw (.string (aB (eC sc.free l raw a).1)) (eC sc.free l raw a).2):=by
 cases h:(sc.free||l.isEmpty)
 ·exact name_of s raw a sc vv av fv lv l w hs hl h hn
 ·exact xg s raw a sc vv av fv lv l w hs hl h
end Go.Proofs.YtcfpfnoldgnloaaGreatDoor
