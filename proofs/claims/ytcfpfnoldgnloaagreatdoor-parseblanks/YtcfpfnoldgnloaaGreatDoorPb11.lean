/-
  Print: a program's text. Conditions: the text takes at most 2^47 bytes; the library's table of powers is there.
-/
import Derived.Test.YtcfpfnoldgnloaaGreatDoorPb10
import Derived.Test.YtcfpfnoldgnloaaGreatDoorPb01
set_option linter.unusedVariables false
set_option linter.unusedSimpArgs false
namespace Go.Proofs.YtcfpfnoldgnloaaGreatDoor
open Go.RowKit Go.Proofs.Tryz
set_option maxHeartbeats 20000000
set_option maxRecDepth 100000
open Go.Lib renaming hid→Za
open Go.Proofs.Tryz renaming prog→Zb,func134→Zm,ntmps134→Zn
open PFr renaming alloc→Zc,of_below→Zp
open World renaming cell?_alloc_lt→Zd,block_lt_of_cell?→Zx
open List renaming getElem_cons_zero→Ze,append_assoc→Zf,getElem_cons_succ→Zg,map_cons→Zh,map_nil→Zi,nil_append→Zj,length_append→Zk,append_nil→Zo,flatMap_append→Zq,getElem?_eq_getElem→Zr,take_of_length_le→Zt,all_eq_true→Zu,take_succ_eq_append_getElem→Zw
open Int renaming reduceEq→Zl
open Nat renaming zero_le→Zs
open Bool renaming and_eq_true→Zv
inductive WIt where
 |s (x:Bs)
 |e (x:Ex) (v:Value)
def WIt.val:WIt→Value
 |.s x=>.iface 9 (.string (Aa x))
 |.e x v=>.iface 27 (exV x v)
def WIt.text:WIt→Bs
 |.s x=>x
 |.e x _=>Ak x
def WIt.ok(b:Nat)(w:World):WIt→Prop
 |.s _=>True
 |.e x v=>Ag (· <b) w x.args v∧I64 x.n∧Cn x=true
def iN:WIt:=.s []
theorem WIt.ok.keep {b:Nat}{w w':World}(hk:Ed (· <b) w w'){x:WIt}(h:x.ok b w):x.ok b w':=by
 cases x with
 |s x=>trivial
 |e x v=>exact⟨h.1.keep hk,h.2⟩
def Gi(l:List WIt):Bs:=l.flatMap WIt.text
@[go_sem] theorem asExEx (v:Value) (w:World):(Instr.typeAssert (.iface 27 v) 20 27 true).run Zb w=.ok (.tuple #[v,.bool true]) w:=by kernel_rfl
@[go_sem] theorem asStEx (v:Value) (w:World):(Instr.typeAssert (.iface 9 v) 20 27 true).run Zb w=.ok (.tuple #[.agg #[.int .i64 0,.int .i64 0,.int .i64 0,.string ByteArray.empty,.slice none 0 0],.bool false]) w:=by kernel_rfl
@[go_sem] theorem asStSt (v:Value) (w:World):(Instr.typeAssert (.iface 9 v) 20 9 false).run Zb w=.ok v w:=by kernel_rfl
theorem gG(l:List WIt)(k:Nat)(h:k<l.length):Gi (l.take (k+1))=Gi (l.take k)++(l.getD k iN).text:=by
 unfold Gi;rw[Zw h,Zq];simp [Zr h]
theorem Wc(l:List WIt)(k:Nat):(Gi (l.take k)).length≤(Gi l).length:=by
 have e:Gi l=Gi (l.take k)++Gi (l.drop k):=by unfold Gi;rw[←Zq,List.take_append_drop]
 rw[e];simp
theorem rL(its:List WIt)(X cap b:Nat)(bs:Bs)(t:Int)(w:World)(hb:3<b)(ht:Ez w)(hp:Bv w b bs t)(hl:Loc w b X (its.map WIt.val))(ho:∀x,x∈its→x.ok b w)(hf:Ct (bs.length+(Gi its).length))(hn:its.length≤1000):
  Calls Zb 77 #[.pointer (some ⟨b,0,none⟩),.slice (some ⟨X,0,none⟩) its.length cap] w (Kk w b bs t (Gi its)):=by
 have HP:=Za hp;have HL:=Za hl;have HF:=Za hf;have HO:=Za ho;have HT:=Za ht;clear hp hl hf ho ht;go_enter func77,ntmps77
 go_wp2_with fail
 go_loopw [5,6,7,10] (fun _ _ _ s10 wr=> ∃k:Nat,k≤its.length∧s10=.int .i64 k∧Bv wr b (bs++Gi (its.take k)) t∧PFr b w wr) (fun _ _ _ s10 _=>its.length-(intOf s10).toNat)
 case atStart=>exact⟨0,Zs _,rfl,by simpa [Gi]using HP.o,PFr.refl _ _⟩
 case round=>
  obtain⟨k,hk,rfl,hp,hfr⟩:=hrel;have HPK:=Za hp;have HFR:=Za hfr;have hbl:=hp.lt;have HLK:=Za (HL.o.step hfr);clear hp hfr
  by_cases hlt:k<its.length
  ·have c:=HLK.o.cell k (by simpa using hlt)
   have hmem:its.getD k iN∈its:=by rw[List.getD_eq_getElem?_getD,Zr hlt];exact List.getElem_mem hlt
   have ec:(its.map WIt.val)[k]'(by simpa using hlt)=(its.getD k iN).val:=by simp [Zr hlt]
   rw[ec]at c;have hsp:=Za (gG its k hlt);have hfit:Hid (Ct ((bs++Gi (its.take k)).length+((its.getD k iN).text).length)):=by
    refine HF.o.mono ?_;have e:=Wc its (k+1);rw[hsp.out]at e;simp at e;simp;omega
   have HOK:=Za (HO.o _ hmem);clear ec hmem;generalize its.getD k iN=x at c hsp hfit HOK
   cases x with
   |s x=>
    simp only[WIt.val,WIt.text]at c hsp hfit;go_wp2_with fail
    refine(Sk x _ _ b _ t _ (by simp) (HPK.o.alloc _) hfit.out).mono ?_;rintro r w3 ⟨rfl,hp3,hf3⟩;have HP3:=Za hp3;have HF3:=Za hf3;clear hp3 hf3;go_wp2_with fail
    go_roundw
    case rel=>exact⟨k+1,by omega,by go_num,by rw[hsp.out,←Zf];exact HP3.o,HFR.o.trans ((Zc HPK.o _).trans HF3.o)⟩
    case measure=>simp [intOf];omega
   |e e v=>
    obtain⟨hes,hn,hw⟩:=HOK.o;obtain⟨ea,ec,rfl⟩:=hes.shape;have HES:=Za hes;have HN:=Za hn;have HW:=Za hw;clear hes hn hw HOK;simp only[WIt.val,WIt.text,exV]at c hsp hfit;go_wp2_with fail
    refine(fQ _ e (Nat.le_refl _) b _ t _ _ hb (HT.o.fr (HFR.o.trans (Zc HPK.o _)) HP.o hb) (HPK.o.alloc _) (HES.o.keep ((HFR.o.trans (Zc HPK.o _)).keeps HP.o)) HN.o HW.o hfit.out).mono ?_;rintro r w3 ⟨rfl,hp3,hf3⟩;have HP3:=Za hp3;have HF3:=Za hf3;clear hp3 hf3;go_wp2_with fail
    go_roundw
    case rel=>exact⟨k+1,by omega,by go_num,by rw[hsp.out,←Zf];exact HP3.o,HFR.o.trans ((Zc HPK.o _).trans HF3.o)⟩
    case measure=>simp [intOf];omega
  ·go_wp2_with fail
   go_end0
   exact⟨rfl,by have e:its.take k=its:=Zt (by omega);have q:=HPK.o;rwa[e]at q,HFR.o⟩
theorem iI(c:Nat):Lib.repeatL [9] c=Jl c:=by
 induction c with
 |zero=>rfl
 |succ n ih=>simp [Lib.repeatL,Jl,List.replicate_succ]at*;try exact ih
theorem Bv.tab {w:World}{b:Nat}{bs:Bs}{t:Int}(h:Bv w b bs t):w.cell? ⟨b,2,none⟩=some (.int .i64 t):=by
 obtain⟨p,v,hb,_⟩:=h;rw[Lib.cell_of_heap hb];rfl
theorem vO(its:List WIt)(X cap b:Nat)(bs:Bs)(t:Nat)(w:World)(hb:3<b)(ht:Ez w)(hp:Bv w b bs t)(hl:Loc w b X (its.map WIt.val))(ho:∀x,x∈its→x.ok b w)
  (htt:t≤1000000) (hf:Ct (bs.length+(Jl t++Gi its++[10]).length)) (hn:its.length≤1000):
  Calls Zb 34 #[.pointer (some ⟨b,0,none⟩),.slice (some ⟨X,0,none⟩) its.length cap] w (Kk w b bs t (Jl t++Gi its++[10])):=by
 have c2:=hp.tab;have HP:=Za hp;have HL:=Za hl;have HF:=Za hf;have HO:=Za ho;have HT:=Za ht;clear hp hl hf ho ht;go_enter func34,ntmps34
 go_wp2_with fail
 refine(Tryz.strings_Repeat _ t _ (by omega) (by show 1*t≤_;omega)).mono ?_;rintro r w1 ⟨rfl,hb1⟩;have e1:((ByteArray.mk #[9]).data.toList)=[9]:=rfl;rw[e1,iI];have HP1:=Za (HP.o.old hb1);have HF1:=Za (Zp hb1 HP.o.lt);clear hb1 c2 e1;go_wp2_with fail
 refine(Sk (Jl t) _ _ b _ t w1 rfl HP1.o (HF.o.mono (by simp))).mono ?_;rintro r w2 ⟨rfl,hp2,hf2⟩;have HP2:=Za hp2;have HF2:=Za (HF1.o.trans hf2);clear hp2 hf2;go_wp2_with fail
 refine(rL its X cap b _ t w2 hb (HT.o.fr HF2.o HP.o hb) HP2.o (HL.o.step HF2.o) (fun x hx=>(HO.o x hx).keep (HF2.o.keeps HP.o)) (HF.o.mono (by simp;omega)) hn).mono ?_;rintro r w3 ⟨rfl,hp3,hf3⟩;have HP3:=Za hp3;have HF3:=Za (HF2.o.trans hf3);clear hp3 hf3;go_wp2_with fail
 refine(Sk [10] _ _ b _ t w3 rfl HP3.o (HF.o.mono (by simp;omega))).mono ?_;rintro r w4 ⟨rfl,hp4,hf4⟩;have HP4:=Za hp4;have HF4:=Za (HF3.o.trans hf4);clear hp4 hf4;go_wp2_with fail
 go_end0
 exact⟨rfl,by simpa using HP4.o,HF4.o⟩
def gS(t:Nat)(its:List WIt):Bs:=ln t (its.map WIt.text)
theorem line_at(its:List WIt)(T:TypeId)(X b:Nat)(bs:Bs)(t:Nat)(w:World)(hX:X=w.heap.size)(hb:3<b)(ht:Ez w)(hp:Bv w b bs t)(ho:∀x,x∈its→x.ok b w)
  (htt:t≤1000000) (hf:Ct (bs.length+(gS t its).length)) (hn:its.length≤1000):
  Calls Zb 34 #[.pointer (some ⟨b,0,none⟩),.slice (some ⟨X,0,none⟩) its.length its.length] (w.alloc (.cells (its.map WIt.val).toArray T)) (Kk w b bs t (gS t its)):=by
 subst hX;refine(vO its w.heap.size its.length b bs t _ hb (ht.fr (Zc hp _) hp hb) (hp.alloc _) (Loc.new hp (its.map WIt.val) T) (fun x hx=>(ho x hx).keep ((Zc hp _).keeps hp)) htt hf hn).mono ?_;rintro r w' ⟨rfl,h2,h3⟩;exact⟨rfl,h2,(Zc hp _).trans h3⟩
theorem Ct.left {n:Nat}{a c:Bs}(h:Ct (n+(a++c).length)):Ct (n+a.length):=h.mono (by simp only[Zk];omega)
theorem Ct.right {bs a c:Bs}(h:Ct (bs.length+(a++c).length)):Ct ((bs++a).length+c.length):=h.mono (by simp only[Zk];omega)
def Hp(b:Nat)(w:World)(l:List WIt):Prop:= ∀x,x∈l→x.ok b w
theorem Hp.nil {b:Nat}{w:World}:Hp b w []:=fun _ h=>by cases h
theorem Hp.s {b:Nat}{w:World}{x:Bs}{l:List WIt}(h:Hp b w l):Hp b w (.s x::l):=fun y hy=>by
 rcases List.mem_cons.1 hy with rfl|hy
 ·trivial
 ·exact h y hy
theorem Hp.e {b:Nat}{w:World}{x:Ex}{v:Value}{l:List WIt}(hx:Ag (· <b) w x.args v)(hn:I64 x.n)(hw:Cn x=true)(h:Hp b w l):Hp b w (.e x v::l):=fun y hy=>by
 rcases List.mem_cons.1 hy with rfl|hy
 ·exact⟨hx,hn,hw⟩
 ·exact h y hy
theorem Fl(its:List WIt)(T:TypeId)(X b:Nat)(bs:Bs)(t:Nat)(w:World)(hX:X=w.heap.size)(hb:3<b)(ht:Ez w)(hp:Bv w b bs t)(ho:Hp b w its)
  (htt:t≤1000000) (hf:Ct (bs.length+(ln t (its.map WIt.text)).length)) (hn:its.length≤1000):
  Calls Zb 34 #[.pointer (some ⟨b,0,none⟩),.slice (some ⟨X,0,none⟩) its.length its.length] (w.alloc (.cells (its.map WIt.val).toArray T)) (Kk w b bs t (ln t (its.map WIt.text))):=
 line_at its T X b bs t w hX hb ht hp ho htt hf hn
theorem Ag.at0 {D:Nat→Prop}{w:World}{l:List Ex}{a:Option Addr}{n cap:Nat}(h:Ag D w l (.slice a n cap))(hl:0<l.length):∃b off s,a=some ⟨b,off,none⟩∧D b∧b<w.heap.size∧
  w.cell? ⟨b,off,none⟩=some (.int .i64 (Bx l 0).kind)∧w.cell? ⟨b,off+1,none⟩=some (.int .i64 (Bx l 0).op)∧w.cell? ⟨b,off+2,none⟩=some (.int .i64 (Bx l 0).n)∧
  w.cell? ⟨b,off+3,none⟩=some (.string (Aa (Bx l 0).name))∧w.cell? ⟨b,off+4,none⟩=some s∧Ag D w (Bx l 0).args s∧I64 (Bx l 0).n:=by
 obtain⟨b,off,s,ha,hD,h0,h1,h2,h3,h4,h5,h6⟩:=h.cellAt 0 hl;exact⟨b,off,s,ha,hD,Zx _ _ h0,by simpa using h0,by simpa using h1,by simpa using h2,by simpa using h3,by simpa using h4,h5,h6⟩
theorem Ag.at1 {D:Nat→Prop}{w:World}{l:List Ex}{b off:Nat}{n cap:Nat}(h:Ag D w l (.slice (some ⟨b,off,none⟩) n cap))(hl:1<l.length):∃s,
  w.cell? ⟨b,off+5,none⟩=some (.int .i64 (Bx l 1).kind)∧w.cell? ⟨b,off+5+1,none⟩=some (.int .i64 (Bx l 1).op)∧w.cell? ⟨b,off+5+2,none⟩=some (.int .i64 (Bx l 1).n)∧
  w.cell? ⟨b,off+5+3,none⟩=some (.string (Aa (Bx l 1).name))∧w.cell? ⟨b,off+5+4,none⟩=some s∧Ag D w (Bx l 1).args s∧I64 (Bx l 1).n:=by
 obtain⟨b',off',s,ha,_,h0,h1,h2,h3,h4,h5,h6⟩:=h.cellAt 1 hl
 cases ha
 exact⟨s,by simpa using h0,by simpa using h1,by simpa using h2,by simpa using h3,by simpa using h4,h5,h6⟩
theorem Eg {m:Nat}{k:Int}{nm:Bs}{args:List Ex}{thn els:List St}(h:Ef (m+1) (.mk k nm args thn els)=true):
  (args.length:Int)=Dz k∧(1≤k∧k≤10)∧(∀x,x∈args→Cn x=true)∧thn.all (Ef m)=true∧els.all (Ef m)=true:=by
 simp only[Ef,Jo,St.kind,St.args,St.thn,St.els,Zv,Bool.not_eq_true',Bool.or_eq_false_iff,Bool.not_eq_false',beq_iff_eq,fOk,decide_eq_true_eq,Zu]at h;obtain⟨⟨⟨⟨h1,h2⟩,h3⟩,h4⟩,h5⟩:=h;refine⟨by have:=h1.1.1.2;simpa using this,of_decide_eq_true h1.1.1.1.1,fun x hx=>?_,Zu.2 h4,Zu.2 h5⟩;have:=h3 x hx;unfold Ew at this;exact(Zv _ _ ▸ this:_∧_).2
def mV(m:Nat):Prop:= ∀(x:St),Ef m x=true→∀(b:Nat) (bs:Bs) (t:Nat) (s st se:Value) (w:World),3<b→Ez w→Bv w b bs t→Ag (· <b) w x.args s→Ax (· <b) w x.thn st→Ax (· <b) w x.els se→
 t+m≤1000→Ct (bs.length+(Cp t x).length)→
 Calls Zb 134 #[.pointer (some ⟨b,0,none⟩),stV x s st se] w (Kk w b bs t (Cp t x))
def Mb(m:Nat):Prop:= ∀(l:List St),l.all (Ef m)=true→∀(b:Nat) (bs:Bs) (t:Nat) (v:Value) (w:World),3<b→Ez w→Bv w b bs t→Ax (· <b) w l v→
 t+1+m≤1000→Ct (bs.length+(By (t+1) l).length)→
 Calls Zb 81 #[.pointer (some ⟨b,0,none⟩),v] w (Kk w b bs t (By (t+1) l))
theorem pst_5(m:Nat)(ih:Mb m)(nm:Bs)(args:List Ex)(thn els:List St)(hx:Ef (m+1) (.mk 5 nm args thn els)=true)(b:Nat)(bs:Bs)(t:Nat)(s st se:Value)(w:World)(hb:3<b)(ht:Ez w)(hp:Bv w b bs t)
  (hs:Ag (· <b) w args s) (hst:Ax (· <b) w thn st) (hse:Ax (· <b) w els se) (htm:t+(m+1)≤1000) (hf:Ct (bs.length+(Cp t (.mk 5 nm args thn els)).length)):
  Calls Zb 134 #[.pointer (some ⟨b,0,none⟩),stV (.mk 5 nm args thn els) s st se] w (Kk w b bs t (Cp t (.mk 5 nm args thn els))):=by
 obtain⟨hlen,hrng,hwl,hot,hoe⟩:=Eg hx;clear hrng;replace hlen:args.length=0:=by simp only[Dz,Zl,if_true,if_false,reduceIte,or_true,true_or,or_false,false_or,or_self]at hlen;omega
 rw[Fq,oS]at hf ⊢;obtain⟨sa,sc,rfl⟩:=hs.shape;obtain⟨ta,tc,rfl⟩:=hst.shape;obtain⟨ua,uc,rfl⟩:=hse.shape;show Calls _ _ #[.pointer (some ⟨b,0,none⟩),.agg #[.int .i64 5,.string (Aa nm),.slice sa args.length sc,.slice ta thn.length tc,.slice ua els.length uc]] _ _
 have IH:=Za ih;have HT:=Za ht;have HP:=Za hp;have HF:=Za hf;have HST:=Za hst;have HSE:=Za hse;have HOT:=Za hot;have HOE:=Za hoe;have HP1:=Za (hp.alloc (.cells #[.int .i64 5,.string (Aa nm),.slice sa args.length sc,.slice ta thn.length tc,.slice ua els.length uc] 60));have HF1:=Za (Zc hp (.cells #[.int .i64 5,.string (Aa nm),.slice sa args.length sc,.slice ta thn.length tc,.slice ua els.length uc] 60));have HL1:=Za (Loc.new hp [.int .i64 5,.string (Aa nm),.slice sa args.length sc,.slice ta thn.length tc,.slice ua els.length uc] 60);clear ih ht hp hf hst hse hx hwl hot hoe hlen hs;go_enter Zm,Zn
 go_wp2_with fail
 refine(Fl [.s [98,114,101,97,107,59]] _ _ b _ t _ (by simp) hb (HT.o.fr HF1.o HP.o hb) HP1.o (.s (Hp.nil)) (by omega) HF.o (by simp)).mono ?_;rintro r w2 ⟨rfl,hp2,hf2⟩;have HP2:=Za hp2;have HF2:=Za (HF1.o.trans hf2);have HL2:=Za (HL1.o.step hf2);clear hp2 hf2;go_wp2_with fail
 go_end0
 exact⟨rfl,by simpa only[Zf,Zh,Zi,WIt.text,Zj,Zo]using HP2.o,HF2.o⟩
theorem pst_6(m:Nat)(ih:Mb m)(nm:Bs)(args:List Ex)(thn els:List St)(hx:Ef (m+1) (.mk 6 nm args thn els)=true)(b:Nat)(bs:Bs)(t:Nat)(s st se:Value)(w:World)(hb:3<b)(ht:Ez w)(hp:Bv w b bs t)
  (hs:Ag (· <b) w args s) (hst:Ax (· <b) w thn st) (hse:Ax (· <b) w els se) (htm:t+(m+1)≤1000) (hf:Ct (bs.length+(Cp t (.mk 6 nm args thn els)).length)):
  Calls Zb 134 #[.pointer (some ⟨b,0,none⟩),stV (.mk 6 nm args thn els) s st se] w (Kk w b bs t (Cp t (.mk 6 nm args thn els))):=by
 obtain⟨hlen,hrng,hwl,hot,hoe⟩:=Eg hx;clear hrng;replace hlen:args.length=0:=by simp only[Dz,Zl,if_true,if_false,reduceIte,or_true,true_or,or_false,false_or,or_self]at hlen;omega
 rw[Fq,oZ]at hf ⊢;obtain⟨sa,sc,rfl⟩:=hs.shape;obtain⟨ta,tc,rfl⟩:=hst.shape;obtain⟨ua,uc,rfl⟩:=hse.shape;show Calls _ _ #[.pointer (some ⟨b,0,none⟩),.agg #[.int .i64 6,.string (Aa nm),.slice sa args.length sc,.slice ta thn.length tc,.slice ua els.length uc]] _ _
 have IH:=Za ih;have HT:=Za ht;have HP:=Za hp;have HF:=Za hf;have HST:=Za hst;have HSE:=Za hse;have HOT:=Za hot;have HOE:=Za hoe;have HP1:=Za (hp.alloc (.cells #[.int .i64 6,.string (Aa nm),.slice sa args.length sc,.slice ta thn.length tc,.slice ua els.length uc] 60));have HF1:=Za (Zc hp (.cells #[.int .i64 6,.string (Aa nm),.slice sa args.length sc,.slice ta thn.length tc,.slice ua els.length uc] 60));have HL1:=Za (Loc.new hp [.int .i64 6,.string (Aa nm),.slice sa args.length sc,.slice ta thn.length tc,.slice ua els.length uc] 60);clear ih ht hp hf hst hse hx hwl hot hoe hlen hs;go_enter Zm,Zn
 go_wp2_with fail
 refine(Fl [.s [99,111,110,116,105,110,117,101,59]] _ _ b _ t _ (by simp) hb (HT.o.fr HF1.o HP.o hb) HP1.o (.s (Hp.nil)) (by omega) HF.o (by simp)).mono ?_;rintro r w2 ⟨rfl,hp2,hf2⟩;have HP2:=Za hp2;have HF2:=Za (HF1.o.trans hf2);have HL2:=Za (HL1.o.step hf2);clear hp2 hf2;go_wp2_with fail
 go_end0
 exact⟨rfl,by simpa only[Zf,Zh,Zi,WIt.text,Zj,Zo]using HP2.o,HF2.o⟩
theorem pst_7(m:Nat)(ih:Mb m)(nm:Bs)(args:List Ex)(thn els:List St)(hx:Ef (m+1) (.mk 7 nm args thn els)=true)(b:Nat)(bs:Bs)(t:Nat)(s st se:Value)(w:World)(hb:3<b)(ht:Ez w)(hp:Bv w b bs t)
  (hs:Ag (· <b) w args s) (hst:Ax (· <b) w thn st) (hse:Ax (· <b) w els se) (htm:t+(m+1)≤1000) (hf:Ct (bs.length+(Cp t (.mk 7 nm args thn els)).length)):
  Calls Zb 134 #[.pointer (some ⟨b,0,none⟩),stV (.mk 7 nm args thn els) s st se] w (Kk w b bs t (Cp t (.mk 7 nm args thn els))):=by
 obtain⟨hlen,hrng,hwl,hot,hoe⟩:=Eg hx;clear hrng;replace hlen:args.length=1:=by simp only[Dz,Zl,if_true,if_false,reduceIte,or_true,true_or,or_false,false_or,or_self]at hlen;omega
 rw[Fq,oI]at hf ⊢;obtain⟨sa,sc,rfl⟩:=hs.shape;obtain⟨ta,tc,rfl⟩:=hst.shape;obtain⟨ua,uc,rfl⟩:=hse.shape;obtain⟨eb,off,av,rfl,hebD,hebl,z0,z1,z2,z3,z4,hea,hna⟩:=hs.at0 (by omega);obtain⟨aa,ac,rfl⟩:=hea.shape;have HWA:=Za (hwl _ (Cz (l:=args) (i:=0) (by omega)));have hl0:(0:Int)<(args.length:Int):=by omega
 have hl0n:0<args.length:=by omega
 generalize Bx args 0=xa at*;show Calls _ _ #[.pointer (some ⟨b,0,none⟩),.agg #[.int .i64 7,.string (Aa nm),.slice (some ⟨eb,off,none⟩) args.length sc,.slice ta thn.length tc,.slice ua els.length uc]] _ _
 have IH:=Za ih;have HT:=Za ht;have HP:=Za hp;have HF:=Za hf;have HST:=Za hst;have HSE:=Za hse;have HOT:=Za hot;have HOE:=Za hoe;have HP1:=Za (hp.alloc (.cells #[.int .i64 7,.string (Aa nm),.slice (some ⟨eb,off,none⟩) args.length sc,.slice ta thn.length tc,.slice ua els.length uc] 60));have HF1:=Za (Zc hp (.cells #[.int .i64 7,.string (Aa nm),.slice (some ⟨eb,off,none⟩) args.length sc,.slice ta thn.length tc,.slice ua els.length uc] 60));have HL1:=Za (Loc.new hp [.int .i64 7,.string (Aa nm),.slice (some ⟨eb,off,none⟩) args.length sc,.slice ta thn.length tc,.slice ua els.length uc] 60);have HEA:=Za hea;have HNA:=Za hna;clear ih ht hp hf hst hse hx hwl hot hoe hlen hs hea hna;go_enter Zm,Zn
 go_wp2_with fail
 refine(Fl [.s [114,101,116,117,114,110,32],.e xa (.slice aa xa.args.length ac),.s [59]] _ _ b _ t _ (by simp) hb (HT.o.fr HF1.o HP.o hb) HP1.o (.s (.e (HEA.o.keep (HF1.o.keeps HP.o)) HNA.o HWA.o (.s (Hp.nil)))) (by omega) HF.o (by simp)).mono ?_;rintro r w2 ⟨rfl,hp2,hf2⟩;have HP2:=Za hp2;have HF2:=Za (HF1.o.trans hf2);have HL2:=Za (HL1.o.step hf2);clear hp2 hf2;clear z0 z1 z2 z3 z4;go_wp2_with fail
 go_end0
 exact⟨rfl,by simpa only[Zf,Zh,Zi,WIt.text,Zj,Zo]using HP2.o,HF2.o⟩
theorem pst_8(m:Nat)(ih:Mb m)(nm:Bs)(args:List Ex)(thn els:List St)(hx:Ef (m+1) (.mk 8 nm args thn els)=true)(b:Nat)(bs:Bs)(t:Nat)(s st se:Value)(w:World)(hb:3<b)(ht:Ez w)(hp:Bv w b bs t)
  (hs:Ag (· <b) w args s) (hst:Ax (· <b) w thn st) (hse:Ax (· <b) w els se) (htm:t+(m+1)≤1000) (hf:Ct (bs.length+(Cp t (.mk 8 nm args thn els)).length)):
  Calls Zb 134 #[.pointer (some ⟨b,0,none⟩),stV (.mk 8 nm args thn els) s st se] w (Kk w b bs t (Cp t (.mk 8 nm args thn els))):=by
 obtain⟨hlen,hrng,hwl,hot,hoe⟩:=Eg hx;clear hrng;replace hlen:args.length=1:=by simp only[Dz,Zl,if_true,if_false,reduceIte,or_true,true_or,or_false,false_or,or_self]at hlen;omega
 rw[Fq,pH]at hf ⊢;obtain⟨sa,sc,rfl⟩:=hs.shape;obtain⟨ta,tc,rfl⟩:=hst.shape;obtain⟨ua,uc,rfl⟩:=hse.shape;obtain⟨eb,off,av,rfl,hebD,hebl,z0,z1,z2,z3,z4,hea,hna⟩:=hs.at0 (by omega);obtain⟨aa,ac,rfl⟩:=hea.shape;have HWA:=Za (hwl _ (Cz (l:=args) (i:=0) (by omega)));have hl0:(0:Int)<(args.length:Int):=by omega
 have hl0n:0<args.length:=by omega
 generalize Bx args 0=xa at*;show Calls _ _ #[.pointer (some ⟨b,0,none⟩),.agg #[.int .i64 8,.string (Aa nm),.slice (some ⟨eb,off,none⟩) args.length sc,.slice ta thn.length tc,.slice ua els.length uc]] _ _
 have IH:=Za ih;have HT:=Za ht;have HP:=Za hp;have HF:=Za hf;have HST:=Za hst;have HSE:=Za hse;have HOT:=Za hot;have HOE:=Za hoe;have HP1:=Za (hp.alloc (.cells #[.int .i64 8,.string (Aa nm),.slice (some ⟨eb,off,none⟩) args.length sc,.slice ta thn.length tc,.slice ua els.length uc] 60));have HF1:=Za (Zc hp (.cells #[.int .i64 8,.string (Aa nm),.slice (some ⟨eb,off,none⟩) args.length sc,.slice ta thn.length tc,.slice ua els.length uc] 60));have HL1:=Za (Loc.new hp [.int .i64 8,.string (Aa nm),.slice (some ⟨eb,off,none⟩) args.length sc,.slice ta thn.length tc,.slice ua els.length uc] 60);have HEA:=Za hea;have HNA:=Za hna;clear ih ht hp hf hst hse hx hwl hot hoe hlen hs hea hna;go_enter Zm,Zn
 go_wp2_with fail
 refine(Fl [.s [112,114,105,110,116,40],.e xa (.slice aa xa.args.length ac),.s [41,59]] _ _ b _ t _ (by simp) hb (HT.o.fr HF1.o HP.o hb) HP1.o (.s (.e (HEA.o.keep (HF1.o.keeps HP.o)) HNA.o HWA.o (.s (Hp.nil)))) (by omega) HF.o (by simp)).mono ?_;rintro r w2 ⟨rfl,hp2,hf2⟩;have HP2:=Za hp2;have HF2:=Za (HF1.o.trans hf2);have HL2:=Za (HL1.o.step hf2);clear hp2 hf2;clear z0 z1 z2 z3 z4;go_wp2_with fail
 go_end0
 exact⟨rfl,by simpa only[Zf,Zh,Zi,WIt.text,Zj,Zo]using HP2.o,HF2.o⟩
theorem pst_9(m:Nat)(ih:Mb m)(nm:Bs)(args:List Ex)(thn els:List St)(hx:Ef (m+1) (.mk 9 nm args thn els)=true)(b:Nat)(bs:Bs)(t:Nat)(s st se:Value)(w:World)(hb:3<b)(ht:Ez w)(hp:Bv w b bs t)
  (hs:Ag (· <b) w args s) (hst:Ax (· <b) w thn st) (hse:Ax (· <b) w els se) (htm:t+(m+1)≤1000) (hf:Ct (bs.length+(Cp t (.mk 9 nm args thn els)).length)):
  Calls Zb 134 #[.pointer (some ⟨b,0,none⟩),stV (.mk 9 nm args thn els) s st se] w (Kk w b bs t (Cp t (.mk 9 nm args thn els))):=by
 obtain⟨hlen,hrng,hwl,hot,hoe⟩:=Eg hx;clear hrng;replace hlen:args.length=1:=by simp only[Dz,Zl,if_true,if_false,reduceIte,or_true,true_or,or_false,false_or,or_self]at hlen;omega
 rw[Fq,qH]at hf ⊢;obtain⟨sa,sc,rfl⟩:=hs.shape;obtain⟨ta,tc,rfl⟩:=hst.shape;obtain⟨ua,uc,rfl⟩:=hse.shape;obtain⟨eb,off,av,rfl,hebD,hebl,z0,z1,z2,z3,z4,hea,hna⟩:=hs.at0 (by omega);obtain⟨aa,ac,rfl⟩:=hea.shape;have HWA:=Za (hwl _ (Cz (l:=args) (i:=0) (by omega)));have hl0:(0:Int)<(args.length:Int):=by omega
 have hl0n:0<args.length:=by omega
 generalize Bx args 0=xa at*;show Calls _ _ #[.pointer (some ⟨b,0,none⟩),.agg #[.int .i64 9,.string (Aa nm),.slice (some ⟨eb,off,none⟩) args.length sc,.slice ta thn.length tc,.slice ua els.length uc]] _ _
 have IH:=Za ih;have HT:=Za ht;have HP:=Za hp;have HF:=Za hf;have HST:=Za hst;have HSE:=Za hse;have HOT:=Za hot;have HOE:=Za hoe;have HP1:=Za (hp.alloc (.cells #[.int .i64 9,.string (Aa nm),.slice (some ⟨eb,off,none⟩) args.length sc,.slice ta thn.length tc,.slice ua els.length uc] 60));have HF1:=Za (Zc hp (.cells #[.int .i64 9,.string (Aa nm),.slice (some ⟨eb,off,none⟩) args.length sc,.slice ta thn.length tc,.slice ua els.length uc] 60));have HL1:=Za (Loc.new hp [.int .i64 9,.string (Aa nm),.slice (some ⟨eb,off,none⟩) args.length sc,.slice ta thn.length tc,.slice ua els.length uc] 60);have HEA:=Za hea;have HNA:=Za hna;clear ih ht hp hf hst hse hx hwl hot hoe hlen hs hea hna;go_enter Zm,Zn
 go_wp2_with fail
 refine(Fl [.s [116,114,97,112,40],.e xa (.slice aa xa.args.length ac),.s [41,59]] _ _ b _ t _ (by simp) hb (HT.o.fr HF1.o HP.o hb) HP1.o (.s (.e (HEA.o.keep (HF1.o.keeps HP.o)) HNA.o HWA.o (.s (Hp.nil)))) (by omega) HF.o (by simp)).mono ?_;rintro r w2 ⟨rfl,hp2,hf2⟩;have HP2:=Za hp2;have HF2:=Za (HF1.o.trans hf2);have HL2:=Za (HL1.o.step hf2);clear hp2 hf2;clear z0 z1 z2 z3 z4;go_wp2_with fail
 go_end0
 exact⟨rfl,by simpa only[Zf,Zh,Zi,WIt.text,Zj,Zo]using HP2.o,HF2.o⟩
theorem pst_10(m:Nat)(ih:Mb m)(nm:Bs)(args:List Ex)(thn els:List St)(hx:Ef (m+1) (.mk 10 nm args thn els)=true)(b:Nat)(bs:Bs)(t:Nat)(s st se:Value)(w:World)(hb:3<b)(ht:Ez w)(hp:Bv w b bs t)
  (hs:Ag (· <b) w args s) (hst:Ax (· <b) w thn st) (hse:Ax (· <b) w els se) (htm:t+(m+1)≤1000) (hf:Ct (bs.length+(Cp t (.mk 10 nm args thn els)).length)):
  Calls Zb 134 #[.pointer (some ⟨b,0,none⟩),stV (.mk 10 nm args thn els) s st se] w (Kk w b bs t (Cp t (.mk 10 nm args thn els))):=by
 obtain⟨hlen,hrng,hwl,hot,hoe⟩:=Eg hx;clear hrng;replace hlen:args.length=1:=by simp only[Dz,Zl,if_true,if_false,reduceIte,or_true,true_or,or_false,false_or,or_self]at hlen;omega
 rw[Fq,jI]at hf ⊢;obtain⟨sa,sc,rfl⟩:=hs.shape;obtain⟨ta,tc,rfl⟩:=hst.shape;obtain⟨ua,uc,rfl⟩:=hse.shape;obtain⟨eb,off,av,rfl,hebD,hebl,z0,z1,z2,z3,z4,hea,hna⟩:=hs.at0 (by omega);obtain⟨aa,ac,rfl⟩:=hea.shape;have HWA:=Za (hwl _ (Cz (l:=args) (i:=0) (by omega)));have hl0:(0:Int)<(args.length:Int):=by omega
 have hl0n:0<args.length:=by omega
 generalize Bx args 0=xa at*;show Calls _ _ #[.pointer (some ⟨b,0,none⟩),.agg #[.int .i64 10,.string (Aa nm),.slice (some ⟨eb,off,none⟩) args.length sc,.slice ta thn.length tc,.slice ua els.length uc]] _ _
 have IH:=Za ih;have HT:=Za ht;have HP:=Za hp;have HF:=Za hf;have HST:=Za hst;have HSE:=Za hse;have HOT:=Za hot;have HOE:=Za hoe;have HP1:=Za (hp.alloc (.cells #[.int .i64 10,.string (Aa nm),.slice (some ⟨eb,off,none⟩) args.length sc,.slice ta thn.length tc,.slice ua els.length uc] 60));have HF1:=Za (Zc hp (.cells #[.int .i64 10,.string (Aa nm),.slice (some ⟨eb,off,none⟩) args.length sc,.slice ta thn.length tc,.slice ua els.length uc] 60));have HL1:=Za (Loc.new hp [.int .i64 10,.string (Aa nm),.slice (some ⟨eb,off,none⟩) args.length sc,.slice ta thn.length tc,.slice ua els.length uc] 60);have HEA:=Za hea;have HNA:=Za hna;clear ih ht hp hf hst hse hx hwl hot hoe hlen hs hea hna;go_enter Zm,Zn
 go_wp2_with fail
 refine(Fl [.e xa (.slice aa xa.args.length ac),.s [59]] _ _ b _ t _ (by simp) hb (HT.o.fr HF1.o HP.o hb) HP1.o (.e (HEA.o.keep (HF1.o.keeps HP.o)) HNA.o HWA.o (.s (Hp.nil))) (by omega) HF.o (by simp)).mono ?_;rintro r w2 ⟨rfl,hp2,hf2⟩;have HP2:=Za hp2;have HF2:=Za (HF1.o.trans hf2);have HL2:=Za (HL1.o.step hf2);clear hp2 hf2;clear z0 z1 z2 z3 z4;go_wp2_with fail
 go_end0
 exact⟨rfl,by simpa only[Zf,Zh,Zi,WIt.text,Zj,Zo]using HP2.o,HF2.o⟩
theorem pst_1(m:Nat)(ih:Mb m)(nm:Bs)(args:List Ex)(thn els:List St)(hx:Ef (m+1) (.mk 1 nm args thn els)=true)(b:Nat)(bs:Bs)(t:Nat)(s st se:Value)(w:World)(hb:3<b)(ht:Ez w)(hp:Bv w b bs t)
  (hs:Ag (· <b) w args s) (hst:Ax (· <b) w thn st) (hse:Ax (· <b) w els se) (htm:t+(m+1)≤1000) (hf:Ct (bs.length+(Cp t (.mk 1 nm args thn els)).length)):
  Calls Zb 134 #[.pointer (some ⟨b,0,none⟩),stV (.mk 1 nm args thn els) s st se] w (Kk w b bs t (Cp t (.mk 1 nm args thn els))):=by
 obtain⟨hlen,hrng,hwl,hot,hoe⟩:=Eg hx;clear hrng;replace hlen:args.length=1:=by simp only[Dz,Zl,if_true,if_false,reduceIte,or_true,true_or,or_false,false_or,or_self]at hlen;omega
 rw[Fq,pR]at hf ⊢;obtain⟨sa,sc,rfl⟩:=hs.shape;obtain⟨ta,tc,rfl⟩:=hst.shape;obtain⟨ua,uc,rfl⟩:=hse.shape;obtain⟨eb,off,av,rfl,hebD,hebl,z0,z1,z2,z3,z4,hea,hna⟩:=hs.at0 (by omega);obtain⟨aa,ac,rfl⟩:=hea.shape;have HWA:=Za (hwl _ (Cz (l:=args) (i:=0) (by omega)));have hl0:(0:Int)<(args.length:Int):=by omega
 have hl0n:0<args.length:=by omega
 generalize Bx args 0=xa at*;show Calls _ _ #[.pointer (some ⟨b,0,none⟩),.agg #[.int .i64 1,.string (Aa nm),.slice (some ⟨eb,off,none⟩) args.length sc,.slice ta thn.length tc,.slice ua els.length uc]] _ _
 have IH:=Za ih;have HT:=Za ht;have HP:=Za hp;have HF:=Za hf;have HST:=Za hst;have HSE:=Za hse;have HOT:=Za hot;have HOE:=Za hoe;have HP1:=Za (hp.alloc (.cells #[.int .i64 1,.string (Aa nm),.slice (some ⟨eb,off,none⟩) args.length sc,.slice ta thn.length tc,.slice ua els.length uc] 60));have HF1:=Za (Zc hp (.cells #[.int .i64 1,.string (Aa nm),.slice (some ⟨eb,off,none⟩) args.length sc,.slice ta thn.length tc,.slice ua els.length uc] 60));have HL1:=Za (Loc.new hp [.int .i64 1,.string (Aa nm),.slice (some ⟨eb,off,none⟩) args.length sc,.slice ta thn.length tc,.slice ua els.length uc] 60);have HEA:=Za hea;have HNA:=Za hna;clear ih ht hp hf hst hse hx hwl hot hoe hlen hs hea hna;go_enter Zm,Zn
 go_wp2_with fail
 have z0:(w.alloc (.cells #[.int .i64 1,.string (Aa nm),.slice (some ⟨eb,off,none⟩) args.length sc,.slice ta thn.length tc,.slice ua els.length uc] 60)).cell? ⟨eb,off,none⟩=some (.int .i64 xa.kind):=by rw[Zd _ _ _ hebl];exact z0
 have z1:(w.alloc (.cells #[.int .i64 1,.string (Aa nm),.slice (some ⟨eb,off,none⟩) args.length sc,.slice ta thn.length tc,.slice ua els.length uc] 60)).cell? ⟨eb,off+1,none⟩=some (.int .i64 xa.op):=by rw[Zd _ _ _ hebl];exact z1
 have z2:(w.alloc (.cells #[.int .i64 1,.string (Aa nm),.slice (some ⟨eb,off,none⟩) args.length sc,.slice ta thn.length tc,.slice ua els.length uc] 60)).cell? ⟨eb,off+2,none⟩=some (.int .i64 xa.n):=by rw[Zd _ _ _ hebl];exact z2
 have z3:(w.alloc (.cells #[.int .i64 1,.string (Aa nm),.slice (some ⟨eb,off,none⟩) args.length sc,.slice ta thn.length tc,.slice ua els.length uc] 60)).cell? ⟨eb,off+3,none⟩=some (.string (Aa xa.name)):=by rw[Zd _ _ _ hebl];exact z3
 have z4:(w.alloc (.cells #[.int .i64 1,.string (Aa nm),.slice (some ⟨eb,off,none⟩) args.length sc,.slice ta thn.length tc,.slice ua els.length uc] 60)).cell? ⟨eb,off+4,none⟩=some (.slice aa xa.args.length ac):=by rw[Zd _ _ _ hebl];exact z4
 have hbl:=HP1.o.lt;have HXl:Hid (w.heap.size<(w.alloc (.cells #[.int .i64 1,.string (Aa nm),.slice (some ⟨eb,off,none⟩) args.length sc,.slice ta thn.length tc,.slice ua els.length uc] 60)).heap.size):=by show _<_;simp
 generalize w.alloc (.cells #[.int .i64 1,.string (Aa nm),.slice (some ⟨eb,off,none⟩) args.length sc,.slice ta thn.length tc,.slice ua els.length uc] 60)=W at*;have c1:=HL1.o.cell 1 (by simp);have c2:=HL1.o.cell 2 (by simp);simp only[Ze,Zg]at c1 c2;have hdr:Below W.heap.size W W.drew:=(Below.refl _ _).drew;have HP1d:=Za (HP1.o.old hdr);have HF1d:=Za (HF1.o.trans (Zp hdr hbl));have HL1d:=Za (HL1.o.step (Zp hdr hbl));clear hdr
 go_region_held3 (fun w'=>w'.cell? ⟨w.heap.size,1,none⟩=some (.string (Aa nm))∧w'.cell? ⟨w.heap.size,2,none⟩=some (.slice (some ⟨eb,off,none⟩) args.length sc)∧w'.cell? ⟨eb,off,none⟩=some (.int .i64 xa.kind)∧w'.cell? ⟨eb,off+1,none⟩=some (.int .i64 xa.op)∧w'.cell? ⟨eb,off+2,none⟩=some (.int .i64 xa.n)∧w'.cell? ⟨eb,off+3,none⟩=some (.string (Aa xa.name))∧w'.cell? ⟨eb,off+4,none⟩=some (.slice aa xa.args.length ac)) (first|(simp [*,Zd];done)|go_keep) (first|(go_at_call 34;refine(Fl [.s nm,.s [32,61,32],.e xa (.slice aa xa.args.length ac),.s [59]] _ _ b _ t _ (by simp) hb (HT.o.fr HF1d.o HP.o hb) HP1d.o (.s (.s (.e (HEA.o.keep (HF1d.o.keeps HP.o)) HNA.o HWA.o (.s (Hp.nil))))) (by omega) HF.o (by simp)).mono ?_;rintro r w2 ⟨he,hp2,hf2⟩;subst he;have gc1:w2.cell? ⟨w.heap.size,1,none⟩=some (.string (Aa nm)):=(HL1d.o.step hf2).cell 1 (by simp);have gc2:w2.cell? ⟨w.heap.size,2,none⟩=some (.slice (some ⟨eb,off,none⟩) args.length sc):=(HL1d.o.step hf2).cell 2 (by simp);have gz0:w2.cell? ⟨eb,off,none⟩=some (.int .i64 xa.kind):=hf2.keeps HP1d.o eb _ _ hebD (by simpa using z0);have gz1:w2.cell? ⟨eb,off+1,none⟩=some (.int .i64 xa.op):=hf2.keeps HP1d.o eb _ _ hebD (by simpa using z1);have gz2:w2.cell? ⟨eb,off+2,none⟩=some (.int .i64 xa.n):=hf2.keeps HP1d.o eb _ _ hebD (by simpa using z2);have gz3:w2.cell? ⟨eb,off+3,none⟩=some (.string (Aa xa.name)):=hf2.keeps HP1d.o eb _ _ hebD (by simpa using z3);have gz4:w2.cell? ⟨eb,off+4,none⟩=some (.slice aa xa.args.length ac):=hf2.keeps HP1d.o eb _ _ hebD (by simpa using z4);have HP2:=Za hp2;have HF2:=Za (HF1d.o.trans hf2);clear hp2 hf2))
 go_wp2_with fail
 go_end0
 exact⟨rfl,by simpa only[Zf,Zh,Zi,WIt.text,Zj,Zo]using HP2.o,HF2.o⟩
theorem pst_2(m:Nat)(ih:Mb m)(nm:Bs)(args:List Ex)(thn els:List St)(hx:Ef (m+1) (.mk 2 nm args thn els)=true)(b:Nat)(bs:Bs)(t:Nat)(s st se:Value)(w:World)(hb:3<b)(ht:Ez w)(hp:Bv w b bs t)
  (hs:Ag (· <b) w args s) (hst:Ax (· <b) w thn st) (hse:Ax (· <b) w els se) (htm:t+(m+1)≤1000) (hf:Ct (bs.length+(Cp t (.mk 2 nm args thn els)).length)):
  Calls Zb 134 #[.pointer (some ⟨b,0,none⟩),stV (.mk 2 nm args thn els) s st se] w (Kk w b bs t (Cp t (.mk 2 nm args thn els))):=by
 obtain⟨hlen,hrng,hwl,hot,hoe⟩:=Eg hx;clear hrng;replace hlen:args.length=2:=by simp only[Dz,Zl,if_true,if_false,reduceIte,or_true,true_or,or_false,false_or,or_self]at hlen;omega
 rw[Fq,oY]at hf ⊢;obtain⟨sa,sc,rfl⟩:=hs.shape;obtain⟨ta,tc,rfl⟩:=hst.shape;obtain⟨ua,uc,rfl⟩:=hse.shape;obtain⟨eb,off,av,rfl,hebD,hebl,z0,z1,z2,z3,z4,hea,hna⟩:=hs.at0 (by omega);obtain⟨aa,ac,rfl⟩:=hea.shape;have HWA:=Za (hwl _ (Cz (l:=args) (i:=0) (by omega)));have hl0:(0:Int)<(args.length:Int):=by omega
 have hl0n:0<args.length:=by omega
 obtain⟨cs,y0,y1,y2,y3,y4,hec,hnc⟩:=hs.at1 (by omega);obtain⟨ca,cc,rfl⟩:=hec.shape;have HWC:=Za (hwl _ (Cz (l:=args) (i:=1) (by omega)));have hl1':(1:Int)<(args.length:Int):=by omega
 have hl1n:1<args.length:=by omega
 generalize Bx args 1=xc at*;generalize Bx args 0=xa at*;show Calls _ _ #[.pointer (some ⟨b,0,none⟩),.agg #[.int .i64 2,.string (Aa nm),.slice (some ⟨eb,off,none⟩) args.length sc,.slice ta thn.length tc,.slice ua els.length uc]] _ _
 have IH:=Za ih;have HT:=Za ht;have HP:=Za hp;have HF:=Za hf;have HST:=Za hst;have HSE:=Za hse;have HOT:=Za hot;have HOE:=Za hoe;have HP1:=Za (hp.alloc (.cells #[.int .i64 2,.string (Aa nm),.slice (some ⟨eb,off,none⟩) args.length sc,.slice ta thn.length tc,.slice ua els.length uc] 60));have HF1:=Za (Zc hp (.cells #[.int .i64 2,.string (Aa nm),.slice (some ⟨eb,off,none⟩) args.length sc,.slice ta thn.length tc,.slice ua els.length uc] 60));have HL1:=Za (Loc.new hp [.int .i64 2,.string (Aa nm),.slice (some ⟨eb,off,none⟩) args.length sc,.slice ta thn.length tc,.slice ua els.length uc] 60);have HEA:=Za hea;have HNA:=Za hna;have HEC:=Za hec;have HNC:=Za hnc;clear ih ht hp hf hst hse hx hwl hot hoe hlen hs hea hna hec hnc;go_enter Zm,Zn
 go_wp2_with fail
 have z0:(w.alloc (.cells #[.int .i64 2,.string (Aa nm),.slice (some ⟨eb,off,none⟩) args.length sc,.slice ta thn.length tc,.slice ua els.length uc] 60)).cell? ⟨eb,off,none⟩=some (.int .i64 xa.kind):=by rw[Zd _ _ _ hebl];exact z0
 have z1:(w.alloc (.cells #[.int .i64 2,.string (Aa nm),.slice (some ⟨eb,off,none⟩) args.length sc,.slice ta thn.length tc,.slice ua els.length uc] 60)).cell? ⟨eb,off+1,none⟩=some (.int .i64 xa.op):=by rw[Zd _ _ _ hebl];exact z1
 have z2:(w.alloc (.cells #[.int .i64 2,.string (Aa nm),.slice (some ⟨eb,off,none⟩) args.length sc,.slice ta thn.length tc,.slice ua els.length uc] 60)).cell? ⟨eb,off+2,none⟩=some (.int .i64 xa.n):=by rw[Zd _ _ _ hebl];exact z2
 have z3:(w.alloc (.cells #[.int .i64 2,.string (Aa nm),.slice (some ⟨eb,off,none⟩) args.length sc,.slice ta thn.length tc,.slice ua els.length uc] 60)).cell? ⟨eb,off+3,none⟩=some (.string (Aa xa.name)):=by rw[Zd _ _ _ hebl];exact z3
 have z4:(w.alloc (.cells #[.int .i64 2,.string (Aa nm),.slice (some ⟨eb,off,none⟩) args.length sc,.slice ta thn.length tc,.slice ua els.length uc] 60)).cell? ⟨eb,off+4,none⟩=some (.slice aa xa.args.length ac):=by rw[Zd _ _ _ hebl];exact z4
 have y0:(w.alloc (.cells #[.int .i64 2,.string (Aa nm),.slice (some ⟨eb,off,none⟩) args.length sc,.slice ta thn.length tc,.slice ua els.length uc] 60)).cell? ⟨eb,off+5,none⟩=some (.int .i64 xc.kind):=by rw[Zd _ _ _ hebl];exact y0
 have y1:(w.alloc (.cells #[.int .i64 2,.string (Aa nm),.slice (some ⟨eb,off,none⟩) args.length sc,.slice ta thn.length tc,.slice ua els.length uc] 60)).cell? ⟨eb,off+5+1,none⟩=some (.int .i64 xc.op):=by rw[Zd _ _ _ hebl];exact y1
 have y2:(w.alloc (.cells #[.int .i64 2,.string (Aa nm),.slice (some ⟨eb,off,none⟩) args.length sc,.slice ta thn.length tc,.slice ua els.length uc] 60)).cell? ⟨eb,off+5+2,none⟩=some (.int .i64 xc.n):=by rw[Zd _ _ _ hebl];exact y2
 have y3:(w.alloc (.cells #[.int .i64 2,.string (Aa nm),.slice (some ⟨eb,off,none⟩) args.length sc,.slice ta thn.length tc,.slice ua els.length uc] 60)).cell? ⟨eb,off+5+3,none⟩=some (.string (Aa xc.name)):=by rw[Zd _ _ _ hebl];exact y3
 have y4:(w.alloc (.cells #[.int .i64 2,.string (Aa nm),.slice (some ⟨eb,off,none⟩) args.length sc,.slice ta thn.length tc,.slice ua els.length uc] 60)).cell? ⟨eb,off+5+4,none⟩=some (.slice ca xc.args.length cc):=by rw[Zd _ _ _ hebl];exact y4
 have hbl:=HP1.o.lt;have HXl:Hid (w.heap.size<(w.alloc (.cells #[.int .i64 2,.string (Aa nm),.slice (some ⟨eb,off,none⟩) args.length sc,.slice ta thn.length tc,.slice ua els.length uc] 60)).heap.size):=by show _<_;simp
 generalize w.alloc (.cells #[.int .i64 2,.string (Aa nm),.slice (some ⟨eb,off,none⟩) args.length sc,.slice ta thn.length tc,.slice ua els.length uc] 60)=W at*;have c1:=HL1.o.cell 1 (by simp);have c2:=HL1.o.cell 2 (by simp);simp only[Ze,Zg]at c1 c2;have hdr:Below W.heap.size W W.drew:=(Below.refl _ _).drew;have HP1d:=Za (HP1.o.old hdr);have HF1d:=Za (HF1.o.trans (Zp hdr hbl));have HL1d:=Za (HL1.o.step (Zp hdr hbl));clear hdr
 go_region_held3 (fun w'=>w'.cell? ⟨w.heap.size,1,none⟩=some (.string (Aa nm))∧w'.cell? ⟨w.heap.size,2,none⟩=some (.slice (some ⟨eb,off,none⟩) args.length sc)∧w'.cell? ⟨eb,off,none⟩=some (.int .i64 xa.kind)∧w'.cell? ⟨eb,off+1,none⟩=some (.int .i64 xa.op)∧w'.cell? ⟨eb,off+2,none⟩=some (.int .i64 xa.n)∧w'.cell? ⟨eb,off+3,none⟩=some (.string (Aa xa.name))∧w'.cell? ⟨eb,off+4,none⟩=some (.slice aa xa.args.length ac)∧w'.cell? ⟨eb,off+5,none⟩=some (.int .i64 xc.kind)∧w'.cell? ⟨eb,off+5+1,none⟩=some (.int .i64 xc.op)∧w'.cell? ⟨eb,off+5+2,none⟩=some (.int .i64 xc.n)∧w'.cell? ⟨eb,off+5+3,none⟩=some (.string (Aa xc.name))∧w'.cell? ⟨eb,off+5+4,none⟩=some (.slice ca xc.args.length cc)) (first|(simp [*,Zd];done)|go_keep) (first|(go_at_call 34;refine(Fl [.s nm,.s [91],.e xa (.slice aa xa.args.length ac),.s [93,32,61,32],.e xc (.slice ca xc.args.length cc),.s [59]] _ _ b _ t _ (by simp) hb (HT.o.fr HF1d.o HP.o hb) HP1d.o (.s (.s (.e (HEA.o.keep (HF1d.o.keeps HP.o)) HNA.o HWA.o (.s (.e (HEC.o.keep (HF1d.o.keeps HP.o)) HNC.o HWC.o (.s (Hp.nil))))))) (by omega) HF.o (by simp)).mono ?_;rintro r w2 ⟨he,hp2,hf2⟩;subst he;have gc1:w2.cell? ⟨w.heap.size,1,none⟩=some (.string (Aa nm)):=(HL1d.o.step hf2).cell 1 (by simp);have gc2:w2.cell? ⟨w.heap.size,2,none⟩=some (.slice (some ⟨eb,off,none⟩) args.length sc):=(HL1d.o.step hf2).cell 2 (by simp);have gz0:w2.cell? ⟨eb,off,none⟩=some (.int .i64 xa.kind):=hf2.keeps HP1d.o eb _ _ hebD (by simpa using z0);have gz1:w2.cell? ⟨eb,off+1,none⟩=some (.int .i64 xa.op):=hf2.keeps HP1d.o eb _ _ hebD (by simpa using z1);have gz2:w2.cell? ⟨eb,off+2,none⟩=some (.int .i64 xa.n):=hf2.keeps HP1d.o eb _ _ hebD (by simpa using z2);have gz3:w2.cell? ⟨eb,off+3,none⟩=some (.string (Aa xa.name)):=hf2.keeps HP1d.o eb _ _ hebD (by simpa using z3);have gz4:w2.cell? ⟨eb,off+4,none⟩=some (.slice aa xa.args.length ac):=hf2.keeps HP1d.o eb _ _ hebD (by simpa using z4);have gy0:w2.cell? ⟨eb,off+5,none⟩=some (.int .i64 xc.kind):=hf2.keeps HP1d.o eb _ _ hebD (by simpa using y0);have gy1:w2.cell? ⟨eb,off+5+1,none⟩=some (.int .i64 xc.op):=hf2.keeps HP1d.o eb _ _ hebD (by simpa using y1);have gy2:w2.cell? ⟨eb,off+5+2,none⟩=some (.int .i64 xc.n):=hf2.keeps HP1d.o eb _ _ hebD (by simpa using y2);have gy3:w2.cell? ⟨eb,off+5+3,none⟩=some (.string (Aa xc.name)):=hf2.keeps HP1d.o eb _ _ hebD (by simpa using y3);have gy4:w2.cell? ⟨eb,off+5+4,none⟩=some (.slice ca xc.args.length cc):=hf2.keeps HP1d.o eb _ _ hebD (by simpa using y4);have HP2:=Za hp2;have HF2:=Za (HF1d.o.trans hf2);clear hp2 hf2))
 go_wp2_with fail
 go_end0
 exact⟨rfl,by simpa only[Zf,Zh,Zi,WIt.text,Zj,Zo]using HP2.o,HF2.o⟩
theorem pst_3a(m:Nat)(ih:Mb m)(nm:Bs)(args:List Ex)(thn:List St)(hx:Ef (m+1) (.mk 3 nm args thn ([]:List St))=true)(b:Nat)(bs:Bs)(t:Nat)(s st se:Value)(w:World)(hb:3<b)(ht:Ez w)(hp:Bv w b bs t)
  (hs:Ag (· <b) w args s) (hst:Ax (· <b) w thn st) (hse:Ax (· <b) w ([]:List St) se) (htm:t+(m+1)≤1000) (hf:Ct (bs.length+(Cp t (.mk 3 nm args thn ([]:List St))).length)):
  Calls Zb 134 #[.pointer (some ⟨b,0,none⟩),stV (.mk 3 nm args thn ([]:List St)) s st se] w (Kk w b bs t (Cp t (.mk 3 nm args thn ([]:List St)))):=by
 obtain⟨hlen,hrng,hwl,hot,hoe⟩:=Eg hx;clear hrng;replace hlen:args.length=1:=by simp only[Dz,Zl,if_true,if_false,reduceIte,or_true,true_or,or_false,false_or,or_self]at hlen;omega
 rw[Fq,aO]at hf ⊢;simp only[List.isEmpty_nil,if_true,Zj]at hf ⊢;obtain⟨sa,sc,rfl⟩:=hs.shape;obtain⟨ta,tc,rfl⟩:=hst.shape;obtain⟨ua,uc,rfl⟩:=hse.shape;obtain⟨eb,off,av,rfl,hebD,hebl,z0,z1,z2,z3,z4,hea,hna⟩:=hs.at0 (by omega);obtain⟨aa,ac,rfl⟩:=hea.shape;have HWA:=Za (hwl _ (Cz (l:=args) (i:=0) (by omega)));have hl0:(0:Int)<(args.length:Int):=by omega
 have hl0n:0<args.length:=by omega
 generalize Bx args 0=xa at*;show Calls _ _ #[.pointer (some ⟨b,0,none⟩),.agg #[.int .i64 3,.string (Aa nm),.slice (some ⟨eb,off,none⟩) args.length sc,.slice ta thn.length tc,.slice ua ([]:List St).length uc]] _ _
 have IH:=Za ih;have HT:=Za ht;have HP:=Za hp;have HF:=Za hf;have HST:=Za hst;have HSE:=Za hse;have HOT:=Za hot;have HOE:=Za hoe;have HP1:=Za (hp.alloc (.cells #[.int .i64 3,.string (Aa nm),.slice (some ⟨eb,off,none⟩) args.length sc,.slice ta thn.length tc,.slice ua ([]:List St).length uc] 60));have HF1:=Za (Zc hp (.cells #[.int .i64 3,.string (Aa nm),.slice (some ⟨eb,off,none⟩) args.length sc,.slice ta thn.length tc,.slice ua ([]:List St).length uc] 60));have HL1:=Za (Loc.new hp [.int .i64 3,.string (Aa nm),.slice (some ⟨eb,off,none⟩) args.length sc,.slice ta thn.length tc,.slice ua ([]:List St).length uc] 60);have HEA:=Za hea;have HNA:=Za hna;clear ih ht hp hf hst hse hx hwl hot hoe hlen hs hea hna;go_enter Zm,Zn
 go_wp2_with fail
 refine(Fl [.s [105,102,32,40],.e xa (.slice aa xa.args.length ac),.s [41,32,123]] _ _ b _ t _ (by simp) hb (HT.o.fr HF1.o HP.o hb) HP1.o (.s (.e (HEA.o.keep (HF1.o.keeps HP.o)) HNA.o HWA.o (.s (Hp.nil)))) (by omega) HF.o.left (by simp)).mono ?_;rintro r w2 ⟨rfl,hp2,hf2⟩;have HP2:=Za hp2;have HF2:=Za (HF1.o.trans hf2);have HL2:=Za (HL1.o.step hf2);clear hp2 hf2;clear z0 z1 z2 z3 z4;have c3:=HL2.o.cell 3 (by simp);simp only[Ze,Zg]at c3;go_wp2_with fail
 refine(IH.out thn HOT.o b _ t _ _ hb (HT.o.fr HF2.o HP.o hb) HP2.o (HST.o.keep (HF2.o.keeps HP.o)) (by omega) HF.o.right.left).mono ?_;rintro r w3 ⟨rfl,hp3,hf3⟩;have HP3:=Za hp3;have HF3:=Za (HF2.o.trans hf3);have HL3:=Za (HL2.o.step hf3);clear hp3 hf3 c3;have c4:=HL3.o.cell 4 (by simp);simp only[Ze,Zg]at c4;go_wp2_with fail
 refine(Fl [.s [125]] _ _ b _ t _ (by simp) hb (HT.o.fr HF3.o HP.o hb) HP3.o (.s (Hp.nil)) (by omega) HF.o.right.right (by simp)).mono ?_;rintro r w4 ⟨rfl,hp4,hf4⟩;have HP4:=Za hp4;have HF4:=Za (HF3.o.trans hf4);have HL4:=Za (HL3.o.step hf4);clear hp4 hf4;go_wp2_with fail
 go_end0
 exact⟨rfl,by simpa only[Zf,Zh,Zi,WIt.text,Zj,Zo]using HP4.o,HF4.o⟩
theorem pst_3b(m:Nat)(ih:Mb m)(nm:Bs)(args:List Ex)(thn:List St)(e0:St)(el:List St)(hx:Ef (m+1) (.mk 3 nm args thn (e0::el))=true)(b:Nat)(bs:Bs)(t:Nat)(s st se:Value)(w:World)(hb:3<b)(ht:Ez w)(hp:Bv w b bs t)
  (hs:Ag (· <b) w args s) (hst:Ax (· <b) w thn st) (hse:Ax (· <b) w (e0::el) se) (htm:t+(m+1)≤1000) (hf:Ct (bs.length+(Cp t (.mk 3 nm args thn (e0::el))).length)):
  Calls Zb 134 #[.pointer (some ⟨b,0,none⟩),stV (.mk 3 nm args thn (e0::el)) s st se] w (Kk w b bs t (Cp t (.mk 3 nm args thn (e0::el)))):=by
 obtain⟨hlen,hrng,hwl,hot,hoe⟩:=Eg hx;clear hrng;replace hlen:args.length=1:=by simp only[Dz,Zl,if_true,if_false,reduceIte,or_true,true_or,or_false,false_or,or_self]at hlen;omega
 rw[Fq,aO]at hf ⊢;have E3:((if(e0::el).isEmpty=true then([]:Bs)else ln t [[125,32,101,108,115,101,32,123]]++By (t+1) (e0::el))++ln t [[125]])=ln t [[125,32,101,108,115,101,32,123]]++(By (t+1) (e0::el)++ln t [[125]]):=by simp
 rw[E3]at hf ⊢;clear E3;obtain⟨sa,sc,rfl⟩:=hs.shape;obtain⟨ta,tc,rfl⟩:=hst.shape;obtain⟨ua,uc,rfl⟩:=hse.shape;obtain⟨eb,off,av,rfl,hebD,hebl,z0,z1,z2,z3,z4,hea,hna⟩:=hs.at0 (by omega);obtain⟨aa,ac,rfl⟩:=hea.shape;have HWA:=Za (hwl _ (Cz (l:=args) (i:=0) (by omega)));have hl0:(0:Int)<(args.length:Int):=by omega
 have hl0n:0<args.length:=by omega
 generalize Bx args 0=xa at*;show Calls _ _ #[.pointer (some ⟨b,0,none⟩),.agg #[.int .i64 3,.string (Aa nm),.slice (some ⟨eb,off,none⟩) args.length sc,.slice ta thn.length tc,.slice ua (e0::el).length uc]] _ _
 have IH:=Za ih;have HT:=Za ht;have HP:=Za hp;have HF:=Za hf;have HST:=Za hst;have HSE:=Za hse;have HOT:=Za hot;have HOE:=Za hoe;have HP1:=Za (hp.alloc (.cells #[.int .i64 3,.string (Aa nm),.slice (some ⟨eb,off,none⟩) args.length sc,.slice ta thn.length tc,.slice ua (e0::el).length uc] 60));have HF1:=Za (Zc hp (.cells #[.int .i64 3,.string (Aa nm),.slice (some ⟨eb,off,none⟩) args.length sc,.slice ta thn.length tc,.slice ua (e0::el).length uc] 60));have HL1:=Za (Loc.new hp [.int .i64 3,.string (Aa nm),.slice (some ⟨eb,off,none⟩) args.length sc,.slice ta thn.length tc,.slice ua (e0::el).length uc] 60);have HEA:=Za hea;have HNA:=Za hna;clear ih ht hp hf hst hse hx hwl hot hoe hlen hs hea hna;have hpos:(0:Int)<((e0::el).length:Int):=by simp only[List.length_cons];omega
 generalize hels:e0::el=els at*;have HELS:=Za hels;clear hels;go_enter Zm,Zn
 go_wp2_with fail
 refine(Fl [.s [105,102,32,40],.e xa (.slice aa xa.args.length ac),.s [41,32,123]] _ _ b _ t _ (by simp) hb (HT.o.fr HF1.o HP.o hb) HP1.o (.s (.e (HEA.o.keep (HF1.o.keeps HP.o)) HNA.o HWA.o (.s (Hp.nil)))) (by omega) HF.o.left (by simp)).mono ?_;rintro r w2 ⟨rfl,hp2,hf2⟩;have HP2:=Za hp2;have HF2:=Za (HF1.o.trans hf2);have HL2:=Za (HL1.o.step hf2);clear hp2 hf2;clear z0 z1 z2 z3 z4;have c3:=HL2.o.cell 3 (by simp);simp only[Ze,Zg]at c3;go_wp2_with fail
 refine(IH.out thn HOT.o b _ t _ _ hb (HT.o.fr HF2.o HP.o hb) HP2.o (HST.o.keep (HF2.o.keeps HP.o)) (by omega) HF.o.right.left).mono ?_;rintro r w3 ⟨rfl,hp3,hf3⟩;have HP3:=Za hp3;have HF3:=Za (HF2.o.trans hf3);have HL3:=Za (HL2.o.step hf3);clear hp3 hf3 c3;have c4:=HL3.o.cell 4 (by simp);simp only[Ze,Zg]at c4;go_wp2_with fail
 refine(Fl [.s [125,32,101,108,115,101,32,123]] _ _ b _ t _ (by simp) hb (HT.o.fr HF3.o HP.o hb) HP3.o (.s (Hp.nil)) (by omega) HF.o.right.right.left (by simp)).mono ?_;rintro r w4 ⟨rfl,hp4,hf4⟩;have HP4:=Za hp4;have HF4:=Za (HF3.o.trans hf4);have HL4:=Za (HL3.o.step hf4);clear hp4 hf4;clear c4;have c4:=HL4.o.cell 4 (by simp);simp only[Ze,Zg]at c4;go_wp2_with fail
 refine(IH.out els HOE.o b _ t _ _ hb (HT.o.fr HF4.o HP.o hb) HP4.o (HSE.o.keep (HF4.o.keeps HP.o)) (by omega) HF.o.right.right.right.left).mono ?_;rintro r w5 ⟨rfl,hp5,hf5⟩;have HP5:=Za hp5;have HF5:=Za (HF4.o.trans hf5);have HL5:=Za (HL4.o.step hf5);clear hp5 hf5 c4;go_wp2_with fail
 refine(Fl [.s [125]] _ _ b _ t _ (by simp) hb (HT.o.fr HF5.o HP.o hb) HP5.o (.s (Hp.nil)) (by omega) HF.o.right.right.right.right (by simp)).mono ?_;rintro r w6 ⟨rfl,hp6,hf6⟩;have HP6:=Za hp6;have HF6:=Za (HF5.o.trans hf6);have HL6:=Za (HL5.o.step hf6);clear hp6 hf6;go_wp2_with fail
 go_end0
 exact⟨rfl,by simpa only[Zf,Zh,Zi,WIt.text,Zj,Zo]using HP6.o,HF6.o⟩
theorem pst_4(m:Nat)(ih:Mb m)(nm:Bs)(args:List Ex)(thn els:List St)(hx:Ef (m+1) (.mk 4 nm args thn els)=true)(b:Nat)(bs:Bs)(t:Nat)(s st se:Value)(w:World)(hb:3<b)(ht:Ez w)(hp:Bv w b bs t)
  (hs:Ag (· <b) w args s) (hst:Ax (· <b) w thn st) (hse:Ax (· <b) w els se) (htm:t+(m+1)≤1000) (hf:Ct (bs.length+(Cp t (.mk 4 nm args thn els)).length)):
  Calls Zb 134 #[.pointer (some ⟨b,0,none⟩),stV (.mk 4 nm args thn els) s st se] w (Kk w b bs t (Cp t (.mk 4 nm args thn els))):=by
 obtain⟨hlen,hrng,hwl,hot,hoe⟩:=Eg hx;clear hrng;replace hlen:args.length=1:=by simp only[Dz,Zl,if_true,if_false,reduceIte,or_true,true_or,or_false,false_or,or_self]at hlen;omega
 rw[Fq,pX]at hf ⊢;obtain⟨sa,sc,rfl⟩:=hs.shape;obtain⟨ta,tc,rfl⟩:=hst.shape;obtain⟨ua,uc,rfl⟩:=hse.shape;obtain⟨eb,off,av,rfl,hebD,hebl,z0,z1,z2,z3,z4,hea,hna⟩:=hs.at0 (by omega);obtain⟨aa,ac,rfl⟩:=hea.shape;have HWA:=Za (hwl _ (Cz (l:=args) (i:=0) (by omega)));have hl0:(0:Int)<(args.length:Int):=by omega
 have hl0n:0<args.length:=by omega
 generalize Bx args 0=xa at*;show Calls _ _ #[.pointer (some ⟨b,0,none⟩),.agg #[.int .i64 4,.string (Aa nm),.slice (some ⟨eb,off,none⟩) args.length sc,.slice ta thn.length tc,.slice ua els.length uc]] _ _
 have IH:=Za ih;have HT:=Za ht;have HP:=Za hp;have HF:=Za hf;have HST:=Za hst;have HSE:=Za hse;have HOT:=Za hot;have HOE:=Za hoe;have HP1:=Za (hp.alloc (.cells #[.int .i64 4,.string (Aa nm),.slice (some ⟨eb,off,none⟩) args.length sc,.slice ta thn.length tc,.slice ua els.length uc] 60));have HF1:=Za (Zc hp (.cells #[.int .i64 4,.string (Aa nm),.slice (some ⟨eb,off,none⟩) args.length sc,.slice ta thn.length tc,.slice ua els.length uc] 60));have HL1:=Za (Loc.new hp [.int .i64 4,.string (Aa nm),.slice (some ⟨eb,off,none⟩) args.length sc,.slice ta thn.length tc,.slice ua els.length uc] 60);have HEA:=Za hea;have HNA:=Za hna;clear ih ht hp hf hst hse hx hwl hot hoe hlen hs hea hna;go_enter Zm,Zn
 go_wp2_with fail
 refine(Fl [.s [119,104,105,108,101,32,40],.e xa (.slice aa xa.args.length ac),.s [41,32,123]] _ _ b _ t _ (by simp) hb (HT.o.fr HF1.o HP.o hb) HP1.o (.s (.e (HEA.o.keep (HF1.o.keeps HP.o)) HNA.o HWA.o (.s (Hp.nil)))) (by omega) HF.o.left (by simp)).mono ?_;rintro r w2 ⟨rfl,hp2,hf2⟩;have HP2:=Za hp2;have HF2:=Za (HF1.o.trans hf2);have HL2:=Za (HL1.o.step hf2);clear hp2 hf2;clear z0 z1 z2 z3 z4;have c3:=HL2.o.cell 3 (by simp);simp only[Ze,Zg]at c3;go_wp2_with fail
 refine(IH.out thn HOT.o b _ t _ _ hb (HT.o.fr HF2.o HP.o hb) HP2.o (HST.o.keep (HF2.o.keeps HP.o)) (by omega) HF.o.right.left).mono ?_;rintro r w3 ⟨rfl,hp3,hf3⟩;have HP3:=Za hp3;have HF3:=Za (HF2.o.trans hf3);have HL3:=Za (HL2.o.step hf3);clear hp3 hf3 c3;go_wp2_with fail
 refine(Fl [.s [125]] _ _ b _ t _ (by simp) hb (HT.o.fr HF3.o HP.o hb) HP3.o (.s (Hp.nil)) (by omega) HF.o.right.right (by simp)).mono ?_;rintro r w4 ⟨rfl,hp4,hf4⟩;have HP4:=Za hp4;have HF4:=Za (HF3.o.trans hf4);have HL4:=Za (HL3.o.step hf4);clear hp4 hf4;go_wp2_with fail
 go_end0
 exact⟨rfl,by simpa only[Zf,Zh,Zi,WIt.text,Zj,Zo]using HP4.o,HF4.o⟩
theorem Ax.cellAt {D:Nat→Prop}{w:World}{l:List St}{a:Option Addr}{n cap:Nat}(h:Ax D w l (.slice a n cap))(i:Nat)(hl:i<l.length):∃b off s t e,a=some ⟨b,off,none⟩∧D b∧b<w.heap.size∧
  w.cell? ⟨b,off+i*5,none⟩=some (.int .i64 (Ht l i).kind)∧w.cell? ⟨b,off+i*5+1,none⟩=some (.string (Aa (Ht l i).name))∧w.cell? ⟨b,off+i*5+2,none⟩=some s∧
  w.cell? ⟨b,off+i*5+3,none⟩=some t∧w.cell? ⟨b,off+i*5+4,none⟩=some e∧Ag D w (Ht l i).args s∧Ax D w (Ht l i).thn t∧Ax D w (Ht l i).els e:=by
 cases h with
 |mk _ _ _ b off sa st se hcap hfit ha h0 h1 h2 h3 h4 ea et ee=>
  rcases ha with ha|⟨ha,hD⟩
  ·omega
  ·exact⟨b,off,sa i,st i,se i,ha,hD,Zx _ _ (h0 i hl),h0 i hl,h1 i hl,h2 i hl,h3 i hl,h4 i hl,ea i hl,et i hl,ee i hl⟩
theorem Ax.fits {D:Nat→Prop}{w:World}{l:List St}{v:Value}(h:Ax D w l v):Ct l.length:=by
 cases h with
 |mk _ _ _ b off sa st se hcap hfit=>exact hfit
theorem tT(m:Nat)(ih:Mb m):mV (m+1):=by
 intro x hx b bs t s st se w hb ht hp hs hst hse htm hf;obtain⟨k,nm,args,thn,els⟩:=x;have hk:=(Eg hx).2.1;have hk':k=1∨k=2∨k=3∨k=4∨k=5∨k=6∨k=7∨k=8∨k=9∨k=10:=by omega
 rcases hk' with rfl|rfl|rfl|rfl|rfl|rfl|rfl|rfl|rfl|rfl
 ·exact pst_1 m ih nm args thn els hx b bs t s st se w hb ht hp hs hst hse htm hf
 ·exact pst_2 m ih nm args thn els hx b bs t s st se w hb ht hp hs hst hse htm hf
 ·cases els with
  |nil=>exact pst_3a m ih nm args thn hx b bs t s st se w hb ht hp hs hst hse htm hf
  |cons e0 el=>exact pst_3b m ih nm args thn e0 el hx b bs t s st se w hb ht hp hs hst hse htm hf
 ·exact pst_4 m ih nm args thn els hx b bs t s st se w hb ht hp hs hst hse htm hf
 ·exact pst_5 m ih nm args thn els hx b bs t s st se w hb ht hp hs hst hse htm hf
 ·exact pst_6 m ih nm args thn els hx b bs t s st se w hb ht hp hs hst hse htm hf
 ·exact pst_7 m ih nm args thn els hx b bs t s st se w hb ht hp hs hst hse htm hf
 ·exact pst_8 m ih nm args thn els hx b bs t s st se w hb ht hp hs hst hse htm hf
 ·exact pst_9 m ih nm args thn els hx b bs t s st se w hb ht hp hs hst hse htm hf
 ·exact pst_10 m ih nm args thn els hx b bs t s st se w hb ht hp hs hst hse htm hf
theorem Bv.frozen {w:World}{b:Nat}{bs:Bs}{t:Int}(h:Bv w b bs t):w.frozen? ⟨b,2,none⟩=false:=by
 obtain⟨p,v,hb,_⟩:=h;exact Lib.frozen_of_heap hb 2
theorem Bv.set {w:World}{b:Nat}{bs:Bs}{t:Int}(h:Bv w b bs t)(u:Int):Bv (w.setCell ⟨b,2,none⟩ (.int .i64 u)) b bs u∧PFr b w (w.setCell ⟨b,2,none⟩ (.int .i64 u)):=by
 obtain⟨p,v,hb,hq,hown⟩:=h;have hb':(w.setCell ⟨b,2,none⟩ (.int .i64 u)).heap[b]? =some (.cells #[p,v,.int .i64 u] 81 (0,0)):=by
  simp [World.setCell,Array.getElem?_modify,hb]
 refine⟨⟨p,v,hb',hq,?_⟩,⟨rfl,rfl,rfl,by simp [World.setCell],fun k _ hk _=>Below.heap_setCell _ _ _ _ hk,.inl (by simp [own,hb,hb'])⟩⟩;refine hown.kept (row:=some b) ⟨rfl,rfl,rfl,by simp [World.setCell],fun k _ hk=>Below.heap_setCell _ _ _ _ (fun e=>hk (by simp [e]))⟩ (Or.inr ?_);intro e;have:=hown.lt b e;omega
theorem iC(m:Nat)(ih:mV m):Mb m:=by
 intro l hl b bs t v w hb ht hp hs htm hf;obtain⟨sa,sc,rfl⟩:=hs.shape;have hl63:=hs.fits.lt;have c2:=hp.tab;have fz:=hp.frozen;have hset:=hp.set (t+1);have IH:=Za ih;have HT:=Za ht;have HP:=Za hp;have HS:=Za hs;have HF:=Za hf;have HO:=Za hl;have HP1:Hid (Bv (w.setCell ⟨b,2,none⟩ (.int .i64 (t+1))) b bs ((t+1:Nat):Int)):=by have q:=hset.1;show Bv _ _ _ _;rwa[show((t+1:Nat):Int)=(t:Int)+1 from by omega]
 have HF1:=Za hset.2;clear ih ht hp hs hf hl hset;have ht0:(0:Int)≤(t:Int):=by omega
 have ht1:(t:Int)≤1000:=by omega
 go_enter func81,ntmps81
 go_wp2_with fail
 go_loopw [5,15] (fun _ s15 wr=> ∃k:Nat,k≤l.length∧s15=.int .i64 k∧Bv wr b (bs++By (t+1) (l.take k)) ((t+1:Nat):Int)∧PFr b w wr) (fun _ s15 _=>l.length-(intOf s15).toNat)
 case atStart=>exact⟨0,Zs _,rfl,by simpa [By]using HP1.o,HF1.o⟩
 case round=>
  obtain⟨k,hk,rfl,hpk,hfr⟩:=hrel;have HPK:=Za hpk;have HFR:=Za hfr;have hbl:=hpk.lt;have c2:=hpk.tab;have fz:=hpk.frozen;have hset:=hpk.set t;clear hpk hfr
  by_cases hlt:k<l.length
  ·clear hset c2 fz
   obtain⟨eb,off,es,et,ee,rfl,hD,hebl,z0,z1,z2,z3,z4,hes,het,hee⟩:=(HS.o.keep (HFR.o.keeps HP.o)).cellAt k hlt;obtain⟨a1,a2,rfl⟩:=hes.shape;obtain⟨t1,t2,rfl⟩:=het.shape;obtain⟨u1,u2,rfl⟩:=hee.shape;have hok:Ef m (Ht l k)=true:=Zu.1 HO.o _ (Xu hlt);have hnext:=Za (dQ (t+1) l k hlt);have hfit:Hid (Ct ((bs++By (t+1) (l.take k)).length+(Cp (t+1) (Ht l k)).length)):=by
    refine HF.o.mono ?_;have e:=Vk (t+1) l (k+1);rw[hnext.out,Zk]at e;rw[Zk];omega
   have HES:=Za hes;have HET:=Za het;have HEE:=Za hee;have HOK:=Za hok;clear hes het hee hok hD;generalize Ht l k=x at*;have HP2:=Za (HPK.o.alloc (.cells #[.int .i64 x.kind,.string (Aa x.name),.slice a1 x.args.length a2,.slice t1 x.thn.length t2,.slice u1 x.els.length u2] 60));have HF2:=Za (HFR.o.trans (Zc HPK.o (.cells #[.int .i64 x.kind,.string (Aa x.name),.slice a1 x.args.length a2,.slice t1 x.thn.length t2,.slice u1 x.els.length u2] 60)));have HK2:=Za ((Zc HPK.o (.cells #[.int .i64 x.kind,.string (Aa x.name),.slice a1 x.args.length a2,.slice t1 x.thn.length t2,.slice u1 x.els.length u2] 60)).keeps HPK.o);go_wp2_with fail
   refine(IH.out x HOK.o b _ (t+1) (.slice a1 x.args.length a2) (.slice t1 x.thn.length t2) (.slice u1 x.els.length u2) _ hb (HT.o.fr HF2.o HP.o hb) HP2.o (HES.o.keep HK2.o) (HET.o.keep HK2.o) (HEE.o.keep HK2.o) (by omega) hfit.out).mono ?_;rintro r w3 ⟨rfl,hp3,hf3⟩;have HP3:=Za hp3;have HF3:=Za (HF2.o.trans hf3);clear hp3 hf3 z0 z1 z2 z3 z4;go_wp2_with fail
   go_roundw
   case rel=>exact⟨k+1,by omega,by go_num,by rw[hnext.out,←Zf];exact HP3.o,HF3.o⟩
   case measure=>simp [intOf];omega
  ·have HSET:=Za hset;clear hset
   have ec:((t+1:Nat):Int)-1=t:=by omega
   have e:l.take k=l:=Zt (by omega);rw[e]at HSET;have EC:=Za ec;clear e ec;go_wp2_with fail
   go_end0
   refine⟨rfl,?_,?_⟩
   ·first|exact HSET.o.1|(have q:=HSET.o.1;simpa [EC.out]using q)
   ·first|exact HFR.o.trans HSET.o.2|(have q:=HFR.o.trans HSET.o.2;simpa [EC.out]using q)
theorem nF:∀m,mV m∧Mb m
 |0=>have a:mV 0:=fun x hx=>by simp [Ef]at hx
  ⟨a,iC 0 a⟩
 |m+1=>have a:=tT m (nF m).2;⟨a,iC (m+1) a⟩
theorem oN(f:Bs→Bs)(l:List Bs)(k:Nat)(h:k<l.length):(l.take (k+1)).map f=(l.take k).map f++[f (l.getD k [])]:=by
 rw[Zw h,List.map_append,Zh,Zi];simp [Zr h]
theorem gL(p:Bs)(X b:Nat)(bs:Bs)(t:Int)(w:World)(hc:w.cell? ⟨X,0,none⟩=some (.pointer (some ⟨b,0,none⟩)))(hp:Bv w b bs t)(hf:Ct (bs.length+(Ki p).length)):
  Calls Zb 80 #[.string (Aa p),.pointer (some ⟨X,0,none⟩)] w (Kk w b bs t (Ki p)):=by
 have HP:=Za hp;have HF:=Za hf;clear hp hf;go_enter func80,ntmps80
 go_wp2_with fail
 refine(put2 [105,110,116,32] p _ _ b bs t _ (by simp) HP.o HF.o).mono ?_;rintro r w1 ⟨rfl,hp1,hf1⟩;have HP1:=Za hp1;have HF1:=Za hf1;clear hp1 hf1;go_wp2_with fail
 go_end0
 exact⟨rfl,HP1.o,HF1.o⟩
theorem pD(l:List Bs)(X b:Nat)(bs:Bs)(t:Int)(s:Value)(w:World)(hX:Loc w b X [.pointer (some ⟨b,0,none⟩)])(hp:Bv w b bs t)(hs:Ba (· <b) w l s)(hf:Ct (bs.length+(Bo (l.map Ki)).length)):
  Calls Zb 79 #[.pointer (some ⟨b,0,none⟩),s,.func (.func 80) #[] #[.pointer (some ⟨X,0,none⟩)]] w (Kk w b bs t (Bo (l.map Ki))):=by
 have HX:=Za hX;have HP:=Za hp;have HF:=Za hf;obtain⟨sa,sc,rfl⟩:=hs.shape;have hl63:=hs.fits.lt;have HS:=Za hs;clear hX hs hf hp;go_enter func79,ntmps79
 go_wp2_with fail
 go_loopw [6,7,10] (fun _ _ s10 wr=> ∃k:Nat,k≤l.length∧s10=.int .i64 k∧Bv wr b (bs++Bo ((l.take k).map Ki)) t∧PFr b w wr) (fun _ _ s10 _=>l.length-(intOf s10).toNat)
 case atStart=>exact⟨0,Zs _,rfl,by simpa [Bo]using HP.o,PFr.refl _ _⟩
 case round=>
  obtain⟨k,hk,rfl,hpk,hfr⟩:=hrel;have HPK:=Za hpk;have HFR:=Za hfr;have hbl:=hpk.lt;have HXK:=Za (HX.o.step hfr);clear hpk hfr
  by_cases hlt:k<l.length
  ·obtain⟨eb,off,rfl,hD,hebl,c⟩:=Na (Ba.keep (HFR.o.keeps HP.o) HS.o) k hlt
   have hmap:=Za (oN Ki l k hlt);have hle:=Za (Nz (l.map Ki) (k+1));rw[←List.map_take,hmap.out,Lj]at hle;clear hD;generalize l.getD k []=e at c hmap hle;have cX:=HXK.o.cell 0 (by simp);simp only[Ze]at cX
   by_cases hk0:k=0
   ·have hk0':(k:Int)≤0:=by omega
    have hnil:(l.take k).map Ki=[]:=by rw[hk0];simp
    rw[if_pos hnil]at hle;have HNIL:=Za hnil;have hle':Hid (Ct ((bs++Bo ((l.take k).map Ki)).length+(Ki e).length)):=HF.o.mono (by have:=hle.out;rw[HNIL.o];simp [Bo];exact this);have hnext:Hid (Bo ((l.take (k+1)).map Ki)=Bo ((l.take k).map Ki)++Ki e):=by show _=_;rw[hmap.out,HNIL.o];simp [Bo]
    clear hk0 hnil;have CX:=Za cX;clear cX;go_wp2_with fail
    refine(gL e X b _ t _ CX.out HPK.o hle'.out).mono ?_;rintro r w3 ⟨rfl,hp3,hf3⟩;have HP3:=Za hp3;have HF3:=Za (HFR.o.trans hf3);clear hp3 hf3 c;go_wp2_with fail
    go_roundw
    case rel=>exact⟨k+1,by omega,by go_num,by have q:=HP3.o;rw[hnext.out];simpa using q,HF3.o⟩
    case measure=>simp [intOf];omega
   ·have hk1:(0:Int)<k:=by omega
    have hne:Hid ((l.take k).map Ki≠[]):=by
     intro h;rw[List.map_eq_nil_iff,List.take_eq_nil_iff]at h;rcases h with h|h
     ·exact hk0 h
     ·rw[h]at hlt;simp at hlt
    have hle2:Hid (Ct ((bs++Bo ((l.take k).map Ki)).length+([44,32]:Bs).length+(Ki e).length)):=HF.o.mono (by have:=hle.out;rw[if_neg hne.out]at this;simp at this;simp;omega);have hnext:Hid (Bo ((l.take (k+1)).map Ki)=Bo ((l.take k).map Ki)++[44,32]++Ki e):=by show _=_;rw[hmap.out,Lj,if_neg hne.out]
    clear hk0 cX;go_wp2_with fail
    refine(Sk [44,32] _ _ b _ t _ rfl HPK.o (hle2.out.mono (by omega))).mono ?_;rintro r w2 ⟨rfl,hp2,hf2⟩;have HP2:=Za hp2;have HF2:=Za (HFR.o.trans hf2);have HX2:=Za (HXK.o.step hf2);clear hp2 hf2 c;have cX:=HX2.o.cell 0 (by simp);simp only[Ze]at cX;have CX:=Za cX;clear cX;go_wp2_with fail
    refine(gL e X b _ t _ CX.out HP2.o (hle2.out.mono (by simp;omega))).mono ?_;rintro r w3 ⟨rfl,hp3,hf3⟩;have HP3:=Za hp3;have HF3:=Za (HF2.o.trans hf3);clear hp3 hf3;go_wp2_with fail
    go_roundw
    case rel=>exact⟨k+1,by omega,by go_num,by have q:=HP3.o;rw[hnext.out];simpa using q,HF3.o⟩
    case measure=>simp [intOf];omega
  ·go_wp2_with fail
   go_end0
   exact⟨rfl,by have e:l.take k=l:=Zt (by omega);have q:=HPK.o;rwa[e]at q,HFR.o⟩
abbrev fuV(f:Fu)(p l bd:Value):Value:=.agg #[.string (Aa f.name),p,l,bd]
theorem Loc.alloc {w:World}{b X:Nat}{cs:List Value}{bs:Bs}{t:Int}(h:Loc w b X cs)(hp:Bv w b bs t)(o:Obj):Loc (w.alloc o) b X cs:=h.step (Zc hp o)
theorem dO(f:Fu)(b:Nat)(bs:Bs)(pv lv bv:Value)(w:World)(hb:3<b)(ht:Ez w)(hp:Bv w b bs 0)(hps:Ba (· <b) w f.params pv)(hls:Ba (· <b) w f.locals lv)(hbs:Ax (· <b) w f.body bv)
  (hok:f.body.all (Ef 40)=true) (hf:Ct (bs.length+(Jc f).length)):
  Calls Zb 36 #[.pointer (some ⟨b,0,none⟩),fuV f pv lv bv] w (Kk w b bs 0 (Jc f)):=by
 obtain⟨nm,ps,ls,bd⟩:=f;obtain⟨pa,pc,rfl⟩:=hps.shape;obtain⟨la,lc,rfl⟩:=hls.shape;obtain⟨ba,bc,rfl⟩:=hbs.shape;have hl63:=hls.fits.lt;unfold Jc at hf ⊢;unfold fuV;dsimp only at*;have q1:=hp.alloc (.cells #[.pointer (some ⟨b,0,none⟩)] 75);have r1:=Zc hp (.cells #[.pointer (some ⟨b,0,none⟩)] 75);have l1:=Loc.new hp [.pointer (some ⟨b,0,none⟩)] 75;have HP1:=Za (q1.alloc (.cells #[.string (Aa nm),.slice pa ps.length pc,.slice la ls.length lc,.slice ba bd.length bc] 58));have HF1:=Za (r1.trans (Zc q1 (.cells #[.string (Aa nm),.slice pa ps.length pc,.slice la ls.length lc,.slice ba bd.length bc] 58)));have HA1:=Za (l1.alloc q1 (.cells #[.string (Aa nm),.slice pa ps.length pc,.slice la ls.length lc,.slice ba bd.length bc] 58));have HB1:=Za (Loc.new q1 [.string (Aa nm),.slice pa ps.length pc,.slice la ls.length lc,.slice ba bd.length bc] 58);have hz:(w.alloc (.cells #[.pointer (some ⟨b,0,none⟩)] 75)).heap.size=w.heap.size+1:=by simp
 rw[hz]at HB1;have HT:=Za ht;have HP:=Za hp;have HPS:=Za hps;have HLS:=Za hls;have HBS:=Za hbs;have HO:=Za hok;have HF:=Za hf;clear ht hp hps hls hbs hok hf q1 r1 l1 hz;go_enter func36,ntmps36
 go_wp2_with fail
 have hW0:w.heap.size+1+1=((w.alloc (.cells #[.pointer (some ⟨b,0,none⟩)] 75)).alloc (.cells #[.string (Aa nm),.slice pa ps.length pc,.slice la ls.length lc,.slice ba bd.length bc] 58)).heap.size:=by simp
 generalize hX1:w.heap.size+1=X1 at*;clear hX1;generalize w.heap.size=X0 at*;generalize (w.alloc (.cells #[.pointer (some ⟨b,0,none⟩)] 75)).alloc (.cells #[.string (Aa nm),.slice pa ps.length pc,.slice la ls.length lc,.slice ba bd.length bc] 58)=W1 at*;refine(put3 [105,110,116,32] nm [40] _ _ b bs 0 W1 hW0 HP1.o HF.o.left).mono ?_;clear hW0;rintro r w2 ⟨rfl,hp2,hf2⟩;have HP2:=Za hp2;have HF2:=Za (HF1.o.trans hf2);have HA2:=Za (HA1.o.step hf2);have HB2:=Za (HB1.o.step hf2);clear hp2 hf2;have cA:=HA2.o.cell 0 (by simp);have c1:=HB2.o.cell 1 (by simp);simp only[Ze,Zg]at cA c1;go_wp2_with fail
 refine(pD ps X0 b _ 0 _ _ HA2.o HP2.o (Ba.keep (HF2.o.keeps HP.o) HPS.o) HF.o.right.left).mono ?_;rintro r w3 ⟨rfl,hp3,hf3⟩;have HP3:=Za hp3;have HF3:=Za (HF2.o.trans hf3);have HA3:=Za (HA2.o.step hf3);have HB3:=Za (HB2.o.step hf3);clear hp3 hf3 cA c1;have cA:=HA3.o.cell 0 (by simp);have c1:=HB3.o.cell 1 (by simp);simp only[Ze,Zg]at cA c1;go_wp2_with fail
 refine(Sk [41,32,123,10] _ _ b _ 0 w3 rfl HP3.o HF.o.right.right.left).mono ?_;rintro r w4 ⟨rfl,hp4,hf4⟩;have HP4:=Za hp4;have HF4:=Za (HF3.o.trans hf4);have HA4:=Za (HA3.o.step hf4);have HB4:=Za (HB3.o.step hf4);clear hp4 hf4 cA c1;have cA:=HA4.o.cell 0 (by simp);have c2:=HB4.o.cell 2 (by simp);simp only[Ze,Zg]at cA c2;have cT:=HP4.o.tab;have fz:=HP4.o.frozen;have hset:=HP4.o.set 1;have HP5:=Za hset.1;have HF5:=Za (HF4.o.trans hset.2);have HA5:=Za (HA4.o.step hset.2);have HB5:=Za (HB4.o.step hset.2);clear hset;have c2':=HB5.o.cell 2 (by simp);simp only[Ze,Zg]at c2';go_wp2_with fail
 go_loopw [5,25] (fun _ s25 wr=> ∃k:Nat,k≤ls.length∧s25=.int .i64 k∧Bv wr b ((bs++([105,110,116,32]++(nm++[40]))++Bo (ps.map Ki)++[41,32,123,10])++Fr (ls.take k)) 1∧PFr b w wr∧Loc wr b X0 [.pointer (some ⟨b,0,none⟩)]∧Loc wr b X1 [.string (Aa nm),.slice pa ps.length pc,.slice la ls.length lc,.slice ba bd.length bc]) (fun _ s25 _=>ls.length-(intOf s25).toNat)
 case atStart=>exact⟨0,Zs _,rfl,by simpa [Fr]using HP5.o,HF5.o,HA5.o,HB5.o⟩
 case round=>
  clear cT fz cA c2 c2';obtain⟨k,hk,rfl,hpk,hfr,hA,hB⟩:=hrel;have HPK:=Za hpk;have HFK:=Za hfr;have HAK:=Za hA;have HBK:=Za hB;clear hpk hfr hA hB
  by_cases hlt:k<ls.length
  ·obtain⟨eb,off,rfl,hD,hebl,c⟩:=Na (Ba.keep (HFK.o.keeps HP.o) HLS.o) k hlt
   have hnext:=Za (eQ ls k hlt);have hfit:Hid (Ct (((bs++([105,110,116,32]++(nm++[40]))++Bo (ps.map Ki)++[41,32,123,10])++Fr (ls.take k)).length+(ln 1 [[105,110,116,32],ls.getD k [],[59]]).length)):=by
    refine HF.o.right.right.right.left.mono ?_;have e:=Vi ls (k+1);rw[hnext.out,Zk]at e;simp only[Zk]at e ⊢;omega
   clear hD;generalize ls.getD k []=x at*;have cA:=HAK.o.cell 0 (by simp);simp only[Ze,Zg]at cA;go_wp2_with fail
   refine(Fl [.s [105,110,116,32],.s x,.s [59]] _ _ b _ 1 _ (by simp) hb (HT.o.fr HFK.o HP.o hb) HPK.o (.s (.s (.s .nil))) (by omega) hfit.out (by simp)).mono ?_;rintro r w7 ⟨rfl,hp7,hf7⟩;have HP7:=Za hp7;have HF7:=Za (HFK.o.trans hf7);have HA7:=Za (HAK.o.step hf7);have HB7:=Za (HBK.o.step hf7);clear hp7 hf7 c cA;go_wp2_with fail
   go_roundw
   case rel=>exact⟨k+1,by omega,by go_num,by rw[hnext.out,←Zf];exact HP7.o,HF7.o,HA7.o,HB7.o⟩
   case measure=>simp [intOf];omega
  ·have e:ls.take k=ls:=Zt (by omega)
   rw[e]at HPK;clear e;have cA:=HAK.o.cell 0 (by simp);have c3:=HBK.o.cell 3 (by simp);simp only[Ze,Zg]at cA c3;have cT:=HPK.o.tab;have fz:=HPK.o.frozen;have hset:=HPK.o.set 0;have HP8:=Za hset.1;have HF8:=Za (HFK.o.trans hset.2);have HA8:=Za (HAK.o.step hset.2);have HB8:=Za (HBK.o.step hset.2);clear hset;go_wp2_with fail
   refine((nF 40).2 bd HO.o b _ 0 _ _ hb (HT.o.fr HF8.o HP.o hb) HP8.o (HBS.o.keep (HF8.o.keeps HP.o)) (by omega) HF.o.right.right.right.right.left).mono ?_;rintro r w9 ⟨rfl,hp9,hf9⟩;have HP9:=Za hp9;have HF9:=Za (HF8.o.trans hf9);have HA9:=Za (HA8.o.step hf9);have HB9:=Za (HB8.o.step hf9);clear hp9 hf9 cA c3 cT fz;have cA:=HA9.o.cell 0 (by simp);simp only[Ze,Zg]at cA;go_wp2_with fail
   refine(Fl [.s [125]] _ _ b _ 0 _ (by simp) hb (HT.o.fr HF9.o HP.o hb) HP9.o (.s .nil) (by omega) HF.o.right.right.right.right.right (by simp)).mono ?_;rintro r w10 ⟨rfl,hp10,hf10⟩;have HP10:=Za hp10;have HF10:=Za (HF9.o.trans hf10);have HA10:=Za (HA9.o.step hf10);have HB10:=Za (HB9.o.step hf10);clear hp10 hf10;go_wp2_with fail
   go_end0
   exact⟨rfl,by simpa [WIt.text]using HP10.o,HF10.o⟩
theorem dF(l:List Ar)(k:Nat)(h:k<l.length):Ep (l.take (k+1))=Ep (l.take k)++Oe (Kz l k):=by
 unfold Ep;rw[Zw h,Zq];simp [Kz,Zr h]
theorem Vm(l:List Ar)(k:Nat):(Ep (l.take k)).length≤(Ep l).length:=by
 have e:Ep l=Ep (l.take k)++Ep (l.drop k):=by unfold Ep;rw[←Zq,List.take_append_drop]
 rw[e];simp
theorem dY(l:List Fu)(k:Nat)(h:k<l.length):Fj (l.take (k+1))=Fj (l.take k)++Jc (Dn l k):=by
 unfold Fj;rw[Zw h,Zq];simp [Dn,Zr h]
theorem Vn(l:List Fu)(k:Nat):(Fj (l.take k)).length≤(Fj l).length:=by
 have e:Fj l=Fj (l.take k)++Fj (l.drop k):=by unfold Fj;rw[←Zq,List.take_append_drop]
 rw[e];simp
theorem kT(p:Pr)(sa sf:Value)(w:World)(hb:3<w.heap.size)(ht:Ez w)(ha:Bt (· <w.heap.size) w p.arrays sa)(hf:Bw (· <w.heap.size) w p.funcs sf)(hr:Eb p=true)
  (hne:∀b W,Bv W b (Du p) 0→Calls Zb 33 #[.pointer (some ⟨b,0,none⟩)] W fun e w'=>e=.returned (.string (Aa (Du p)))∧Below b W w') (hfit:Ct (Du p).length):
  Calls Zb 18 #[.agg #[sa,sf]] w fun r w'=>r=.returned (.tuple #[.string (Aa (Du p)),.int .i64 0])∧Below w.heap.size w w':=by
 obtain⟨a1,a2,rfl⟩:=ha.shape;obtain⟨f1,f2,rfl⟩:=hf.shape;have la:=ha.fits.lt;have lf:=hf.fits.lt;have hb1:Below w.heap.size w (w.alloc (.cells #[.slice a1 p.arrays.length a2,.slice f1 p.funcs.length f2] 34)):=bA;have hr':(∀a,a∈p.arrays→Dk a=true)∧∀f,f∈p.funcs→Gh f=true:=by unfold Eb at hr;rw[Zv,Zu,Zu]at hr;exact hr
 have HB1:=Za hb1;have HA:=Za ha;have HF:=Za hf;have HR:=Za hr;have HRA:=Za hr'.1;have HRF:=Za hr'.2;have HT:=Za ht;have HG:=Za hb;have HNE:=Za hne;have HFIT:=Za hfit;clear hb1 ha hf hr hr' ht hb hne hfit;go_enter func18,ntmps18
 go_wp2_with fail
 refine(bI p (· <w.heap.size) _ _ _ (Bt.old HB1.o HA.o) (Bw.old HB1.o HF.o)).mono ?_;rintro r w1 ⟨rfl,hb1⟩;rw[HR.o];have hz:w.heap.size<w1.heap.size:=by have:=hb1.size;simp at this;omega
 have c0:w1.cell? ⟨w.heap.size,0,none⟩=some (.slice a1 p.arrays.length a2):=Ad hb1 (by simp);have c1:w1.cell? ⟨w.heap.size,1,none⟩=some (.slice f1 p.funcs.length f2):=Ad hb1 (by simp);have HB2:=Za (HB1.o.trans (hb1.mono (by simp)));clear hb1;have hb3:Below w1.heap.size w1 (w1.alloc (.cells #[.pointer none,.slice none 0 0,.int .i64 0] 81)):=bA;have HB3:Hid (Below w.heap.size w (w1.alloc (.cells #[.pointer none,.slice none 0 0,.int .i64 0] 81))):=HB2.o.alloc (by omega) _;have HP3:=Za (Bv.new w1);have C0:Hid ((w1.alloc (.cells #[.pointer none,.slice none 0 0,.int .i64 0] 81)).cell? ⟨w.heap.size,0,none⟩=some (.slice a1 p.arrays.length a2)):=Ad hb3 c0;have C1:Hid ((w1.alloc (.cells #[.pointer none,.slice none 0 0,.int .i64 0] 81)).cell? ⟨w.heap.size,1,none⟩=some (.slice f1 p.funcs.length f2)):=Ad hb3 c1;have HT3:Hid (Ez (w1.alloc (.cells #[.pointer none,.slice none 0 0,.int .i64 0] 81))):=HT.o.keep (HB3.o.block _ HG.o);have HA3:Hid (Bt (· <w1.heap.size) (w1.alloc (.cells #[.pointer none,.slice none 0 0,.int .i64 0] 81)) p.arrays (.slice a1 p.arrays.length a2)):=(Bt.old HB3.o HA.o).mono (fun b h=>Nat.lt_trans h hz);have HF3:Hid (Bw (· <w1.heap.size) (w1.alloc (.cells #[.pointer none,.slice none 0 0,.int .i64 0] 81)) p.funcs (.slice f1 p.funcs.length f2)):=(Bw.old HB3.o HF.o).mono (fun b h=>Nat.lt_trans h hz);have HGb:Hid (3<w1.heap.size):=Nat.lt_trans HG.o hz;clear hb3 HA HF HT;go_wp2_with fail
 generalize w1.alloc (.cells #[.pointer none,.slice none 0 0,.int .i64 0] 81)=W3 at*;generalize w1.heap.size=b at*
 go_loopw [6,17] (fun _ s17 wr=> ∃k:Nat,k≤p.arrays.length∧s17=.int .i64 k∧Bv wr b (Ep (p.arrays.take k)) 0∧PFr b W3 wr) (fun _ s17 _=>p.arrays.length-(intOf s17).toNat)
 case atStart=>exact⟨0,Zs _,rfl,by simpa [Ep]using HP3.o,PFr.refl _ _⟩
 case round=>
  obtain⟨k,hk,rfl,hpk,hfr⟩:=hrel;have HPK:=Za hpk;have HFK:=Za hfr;have hbl:=hpk.lt;clear hpk hfr c0 c1
  by_cases hlt:k<p.arrays.length
  ·obtain⟨eb,off,rfl,hD,hebl,z0,z1⟩:=Bt.cellAt (Bt.keep (HFK.o.keeps HP3.o) HA3.o) k hlt
   have hnext:=Za (dF p.arrays k hlt);have hra:=HRA.o _ (rX hlt);have hfit:Hid (Ct ((Ep (p.arrays.take k)).length+(Oe (Kz p.arrays k)).length)):=by
    refine HFIT.o.mono ?_;have e:=Vm p.arrays (k+1);rw[hnext.out,Zk]at e;unfold Du;rw[Zk];omega
   clear hD;generalize Kz p.arrays k=x at*;have hsz:Hid (I64 x.size):=by
    unfold Dk at hra;rw[Zv]at hra;have:=of_decide_eq_true hra.2;show _∧_;omega
   clear hra;have HPb:=Za (HPK.o.alloc (.cells #[.string (Aa x.name),.int .i64 x.size] 85));have HFb:=Za (HFK.o.trans (Zc HPK.o (.cells #[.string (Aa x.name),.int .i64 x.size] 85)));have HLb:=Za (Loc.new HPK.o [.string (Aa x.name),.int .i64 x.size] 85);have hbl':b<(wr.alloc (.cells #[.string (Aa x.name),.int .i64 x.size] 85)).heap.size:=HPb.o.lt;go_wp2_with fail
   generalize wr.alloc (.cells #[.string (Aa x.name),.int .i64 x.size] 85)=W' at*;generalize wr.heap.size=X at*;clear z0 z1;have c0:=HLb.o.cell 0 (by simp);have c1:=HLb.o.cell 1 (by simp);simp only[Ze,Zg]at c0 c1;have hXl:X<W'.heap.size:=Zx _ _ c0;have hdr:Below W'.heap.size W' W'.drew:=(Below.refl _ _).drew;have HPd:=Za (HPb.o.old hdr);have HFd:=Za (HFb.o.trans (Zp hdr hbl'));have HLd:=Za (HLb.o.step (Zp hdr hbl'));have HTd:=Za (HT3.o.fr HFd.o HP3.o HGb.o);clear hdr
   go_region_held3 (fun w'=>w'.cell? ⟨X,0,none⟩=some (.string (Aa x.name))∧w'.cell? ⟨X,1,none⟩=some (.int .i64 x.size)) (first|(simp [*,Zd];done)|go_keep) (first
    |(go_at_call 35;refine(gD x.size hsz.out _ HTd.o).mono ?_;rintro r w4 ⟨he,hb4⟩;subst he;have HP4:=Za (HPd.o.old hb4);have HF4:=Za (HFd.o.trans (Zp hb4 HPd.o.lt));have HL4:=Za (HLd.o.step (Zp hb4 HPd.o.lt));have g0:w4.cell? ⟨X,0,none⟩=some (.string (Aa x.name)):=HL4.o.cell 0 (by simp);have g1:w4.cell? ⟨X,1,none⟩=some (.int .i64 x.size):=HL4.o.cell 1 (by simp);have h4l:X<w4.heap.size:=Zx _ _ g0;clear hb4)
    |(go_at_call 34;refine(Fl [.s [105,110,116,32],.s x.name,.s [91],.s (Lib.itoa x.size),.s [93,59]] _ _ b _ 0 w4 (by simp) HGb.o (HT3.o.fr HF4.o HP3.o HGb.o) HP4.o (.s (.s (.s (.s (.s .nil))))) (by omega) hfit.out (by simp)).mono ?_;rintro r w5 ⟨he,hp5,hf5⟩;subst he;have HP5:=Za hp5;have HF5:=Za (HF4.o.trans hf5);have HL5:=Za (HL4.o.step hf5);have k0:w5.cell? ⟨X,0,none⟩=some (.string (Aa x.name)):=HL5.o.cell 0 (by simp);have k1:w5.cell? ⟨X,1,none⟩=some (.int .i64 x.size):=HL5.o.cell 1 (by simp);clear hp5 hf5))
   go_wp2_with fail
   go_roundw
   case rel=>exact⟨k+1,by omega,by go_num,by rw[hnext.out];exact HP5.o,HF5.o⟩
   case measure=>simp [intOf];omega
  ·have e:p.arrays.take k=p.arrays:=Zt (by omega)
   rw[e]at HPK;clear e;have hK:=HFK.o.keeps HP3.o;have c1:=hK _ _ _ hz C1.out;clear hK;go_wp2_with fail
   clear c1
   go_loopw [8,38] (fun _ s38 wx=> ∃k:Nat,k≤p.funcs.length∧s38=.int .i64 k∧Bv wx b (Ep p.arrays++Fj (p.funcs.take k)) 0∧PFr b W3 wx) (fun _ s38 _=>p.funcs.length-(intOf s38).toNat)
   case atStart=>exact⟨0,Zs _,rfl,by simpa [Fj]using HPK.o,HFK.o⟩
   case round=>
    obtain⟨j,hj,rfl,hpj,hfj⟩:=hrel;have HPJ:=Za hpj;have HFJ:=Za hfj;have hbj:=hpj.lt;clear hpj hfj HPK HFK hbl
    by_cases hlj:j<p.funcs.length
    ·obtain⟨eb,off,pv,vv,sv,rfl,hD,hebl,z0,z1,z2,z3,hps,hvs,hss⟩:=Bw.cellAt (Bw.keep (HFJ.o.keeps HP3.o) HF3.o) j hlj
     obtain⟨p1,p2,rfl⟩:=hps.shape;obtain⟨v1,v2,rfl⟩:=hvs.shape;obtain⟨s1,s2,rfl⟩:=hss.shape;have hnext:=Za (dY p.funcs j hlj);have hra:=HRF.o _ (Sm hlj);have hfit:Hid (Ct ((Ep p.arrays++Fj (p.funcs.take j)).length+(Jc (Dn p.funcs j)).length)):=by
      refine HFIT.o.mono ?_;have e:=Vn p.funcs (j+1);rw[hnext.out,Zk]at e;unfold Du;rw[Zk,Zk];omega
     have HPS:=Za hps;have HVS:=Za hvs;have HSS:=Za hss;clear hD hps hvs hss;generalize Dn p.funcs j=x at*;have hok:Hid (x.body.all (Ef 40)=true):=by
      unfold Gh at hra;rw[Zv]at hra;exact hra.2
     clear hra;have HPb:=Za (HPJ.o.alloc (.cells #[.string (Aa x.name),.slice p1 x.params.length p2,.slice v1 x.locals.length v2,.slice s1 x.body.length s2] 58));have HFb:=Za (HFJ.o.trans (Zc HPJ.o (.cells #[.string (Aa x.name),.slice p1 x.params.length p2,.slice v1 x.locals.length v2,.slice s1 x.body.length s2] 58)));have HKb:=Za ((Zc HPJ.o (.cells #[.string (Aa x.name),.slice p1 x.params.length p2,.slice v1 x.locals.length v2,.slice s1 x.body.length s2] 58)).keeps HPJ.o);go_wp2_with fail
     refine(dO x b _ (.slice p1 x.params.length p2) (.slice v1 x.locals.length v2) (.slice s1 x.body.length s2) _ HGb.o (HT3.o.fr HFb.o HP3.o HGb.o) HPb.o (Ba.keep HKb.o HPS.o) (Ba.keep HKb.o HVS.o) (HSS.o.keep HKb.o) hok.out hfit.out).mono ?_;rintro r w5 ⟨rfl,hp5,hf5⟩;have HP5:=Za hp5;have HF5:=Za (HFb.o.trans hf5);clear hp5 hf5 z0 z1 z2 z3;go_wp2_with fail
     go_roundw
     case rel=>exact⟨j+1,by omega,by go_num,by rw[hnext.out,←Zf];exact HP5.o,HF5.o⟩
     case measure=>simp [intOf];omega
    ·have e:p.funcs.take j=p.funcs:=Zt (by omega)
     rw[e]at HPJ;clear e;go_wp2_with fail
     refine(HNE.o b _ HPJ.o).mono ?_;rintro r w6 ⟨rfl,hb6⟩;have HB6:=Za (HB3.o.trans (((HFJ.o.below HP3.o).trans hb6).mono (Nat.le_of_lt hz)));clear hb6;go_wp2_with fail
     go_ret2
     exact⟨rfl,HB6.o⟩
theorem jV(p:Pr)(sa sf:Value)(w:World)(hb:3<w.heap.size)(ht:Ez w)(ha:Bt (· <w.heap.size) w p.arrays sa)(hf:Bw (· <w.heap.size) w p.funcs sf)(hr:Eb p=true)(hne:Du p≠[])(hfit:Ct (Du p).length):
  Calls Zb 18 #[.agg #[sa,sf]] w fun r w'=>r=.returned (.tuple #[.string (Aa (Du p)),.int .i64 0])∧Below w.heap.size w w':=
 kT p sa sf w hb ht ha hf hr (fun b W h=>jQ b _ _ _ h hne) hfit
end Go.Proofs.YtcfpfnoldgnloaaGreatDoor
