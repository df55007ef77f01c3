/-
  What all laws' wrappers share: the tables that the row lists, the post of a call that only makes memory.
-/
import Derived.Test.YtcfpfnoldgnloaaGreatDoorRows
import Derived.ProofKit
import Derived.OpenShut
import Derived.Deep.DeepHandedRow
import Derived.Lib.LaidTab
import Derived.ChangeSame
import Derived.Lib.ItoaLen
import Derived.Lib.AtoiTie
import Derived.Test.YtcfpfnoldgnloaaGreatDoorBk10
import Derived.WideLaws
import Derived.Lib.SmallJoins
import Derived.ChangeSlices
import Derived.WideKeyArgs
import Derived.Lib.LaidU8T
import Derived.PinnedBridge
import Derived.Shelf.Vars
import Derived.Test.YtcfpfnoldgnloaaGreatDoorBk17
set_option linter.unusedVariables false
set_option linter.unusedSimpArgs false
namespace Go.Proofs.YtcfpfnoldgnloaaGreatDoor
open Go.ChangeShapes Go.WideShapes Go.ChangeAt Go.RowKit
theorem Ry {P:Program}{x:String ×DataW Unit}{l:List (String ×DataW Unit)}{W:World}(h:laidMet P (x::l) W):laidMet P l W:=by
 obtain⟨n,d⟩:=x;obtain⟨ps,⟨g,t,cs,fuel,p,q,hg,ht,hv,hd,hr,rfl⟩,hn,hc⟩:=h;refine⟨q,hr,(List.nodup_append.1 hn).2.1,fun b off hm=>hc b off (List.mem_append_right _ hm)⟩
theorem iL {H:Type}{enc:TypeId ×Value→H}{P:Program}{f:Func}{s:ChangeSpec}{apart fresh handsOn again:Bool}{W W':World}{args:Array Value}{v:Value}{ds gs:List (DataW H)}{before pa pv:List MemPlace}
  (hW:DataW.Whole enc P f.params.toList s.vars apart W args.toList ds gs before)
  (hres:∀(b:Nat) (sp:Nat→Bool) (hd:Bool),DataW.TrodAll enc P W' b sp hd f.resultTypes.toList (v.resultList f.resultTypes.size) (s.fn H (ds++gs)).results [])
  (hargs:∀sp:Nat→Bool,(∀p∈before,sp p.block=true)→DataW.TrodAll enc P W' 0 sp true f.params.toList args.toList (s.fn H (ds++gs)).args pa)
  (hvars:∀sp:Nat→Bool,(∀p∈before,sp p.block=true)→DataW.TrodVars enc P W' sp s.vars (s.fn H (ds++gs)).vars pv)
  (hps:before=pa++pv) (hb:Below W.heap.size W W')
  (hok:∀(j:Nat) (t:TypeId) (r:Value),f.resultTypes[j]? =some t→(v.resultList f.resultTypes.size)[j]? =some r→Value.okWide P W' .any 0 t r):
  s.post enc P f apart fresh handsOn again W args v W':=by
 have lt:∀p∈before,p.block<W.heap.size:=hW.lt;have old:∀p∈before,(fun k=>decide (k<W.heap.size)) p.block=true:=fun p hp=>decide_eq_true (lt p hp)
 refine⟨ds,gs,before,[],pa,pv,hW,hres _ _ _,hargs _ old,hvars _ old,World.keptBut_mono (fun p hp=>⟨hp,.inr (by rw[hps]at hp;exact List.mem_append.1 hp)⟩) (hb.frame (· ∈before)),fun _=> ?_⟩;obtain⟨_,_,_,_,_,fz,nd⟩:=hW;refine⟨hok,_,_,([]++pa)++pv,⟨[]++pa,pv,trodAll_append (hargs _ (fun _ _=>rfl)) (hres _ _ _),hvars _ (fun _ _=>rfl),rfl,fun b off hp=> ?_,fun ha=> ?_⟩,fun p hp _=> ?_⟩
 ·have hin:MemPlace.cell b off∈before:=by rw[hps];exact hp
  have e:=fz b off hin;rw[←hb.frozen (lt _ hin)]at e;exact e
 ·have e:=nd ha
  rw[hps]at e;exact e
 ·rw[hps];exact hp
end Go.Proofs.YtcfpfnoldgnloaaGreatDoor
namespace Go.Proofs.YtcfpfnoldgnloaaGreatDoor
open Go.RowKit
set_option maxHeartbeats 20000000
set_option maxRecDepth 100000
open Go.Lib renaming hid→Za,decDigits→Zc,parseUint10→Zh
open Go.Proofs.Tryz renaming prog→Zb
open List renaming length_append→Zd,length_cons→Zi,getElem_append_left→Zj
open Below renaming refl→Ze
open Nat renaming le_refl→Zf
open Ae renaming new→Zg
def Jf(r:Int):Bool:=decide (r=32∨r=9∨r=10∨r=13)
def Ko(r:Int):Bool:=Fp r||Fh r
theorem Xy(r:Int)(w:World):Calls Zb 85 #[.int .i32 r] w fun e w'=>e= .returned (.bool (Jf r))∧w=w':=by
 go_enter Tryz.func85,Tryz.ntmps85
 go_wp2
 all_goals go_ret
 all_goals(refine⟨Ao ?_,rfl⟩;rw[Bool.eq_iff_iff];simp [Jf];try omega)
theorem aM(r:Int)(w:World):Calls Zb 143 #[.int .i32 r] w fun e w'=>e= .returned (.bool (Ko r))∧w=w':=by
 unfold Ko
 cases hl:Fp r
 ·go_enter Tryz.func143,Tryz.ntmps143
  go_wp2_with fail
  refine(Ft _ _).mono ?_;rw[hl];rintro e w1 ⟨rfl,rfl⟩;go_wp2_with fail
  refine(Iz _ _).mono ?_;rintro e w1 ⟨rfl,rfl⟩;go_wp2_with fail
  go_ret
  exact⟨rfl,rfl⟩
 ·go_enter Tryz.func143,Tryz.ntmps143
  go_wp2_with fail
  refine(Ft _ _).mono ?_;rw[hl];rintro e w1 ⟨rfl,rfl⟩;go_wp2_with fail
  go_ret
  exact⟨rfl,rfl⟩
def Hl(p:Int→Bool)(b:Bs):Prop:=b=[]∨∃c r,b=c::r∧c.toNat<128∧p (c.toNat:Nat)=false
theorem Yp(a b:Bs)(ha:∀c,c∈a→c.toNat<128∧Jf (c.toNat:Nat)=true)(hb:Hl Jf b)(w:World):
  Calls Zb 84 #[.string (Aa (a++b)),.func (.func 85) #[] #[]] w fun e w'=>e= .returned (.int .i64 a.length)∧Below w.heap.size w w':=by
 have HAA:=Za ha;have HBB:=Za hb;obtain⟨l,hl⟩:∃l,l=a++b:=⟨_,rfl⟩;rw[←hl];have HL:=Za hl;have hlen:l.length=a.length+b.length:=by rw[hl,Zd]
 have hle:a.length≤l.length:=by omega
 have HLEN:=Za hlen;clear ha hb hl hlen;go_enter Tryz.func84,Tryz.ntmps84
 go_wp2_with fail
 go_loopw [5,6] (fun _ _ wr=> ∃k:Nat,k≤a.length∧wr=w.iter (Aa l) k) (fun _ _ wr=>a.length+1 - wr.iterPos w.heap.size)
 case atStart=>exact⟨0,Nat.zero_le _,rfl⟩
 case round=>
  obtain⟨k,hk,rfl⟩:=hrel
  by_cases hlt:k<l.length
  ·have hnx:=fun ty=>run_next_any (P:=Zb) w (Aa l) k ty hlt
   have hs:k<(Aa l).size:=hlt
   by_cases hka:k<a.length
   ·have hc:l[k]=a[k]:=by have:=HL.out;subst this;exact Zj hka
    have hq:=HAA.out a[k] (List.getElem_mem hka);rw[decode_ascii (Aa l) k hs (by show l[k].toNat<128;rw[hc];exact hq.1)]at hnx;have he:(Aa l)[k]'hs=l[k]:=rfl;rw[he,hc]at hnx;have HQ:=Za hq.2;clear hc hq he;go_wp2_with fail
    refine(Xy _ _).mono ?_;rw[HQ.out];rintro e w1 ⟨rfl,rfl⟩;go_wp2_with fail
    go_roundw
    case rel=>exact⟨k+1,hka,rfl⟩
    case measure=>simp;omega
   ·have hke:k=a.length:=by omega
    subst hke;have hbn:b≠[]:=by intro e;have:=HLEN.out;rw[e]at this;simp at this;omega
    obtain⟨c,r,hb,hc1,hc2⟩:=HBB.out.resolve_left hbn;have hc:l[a.length]=c:=by have:=HL.out;subst this;subst hb;simp
    rw[decode_ascii (Aa l) _ hs (by show l[a.length].toNat<128;rw[hc];exact hc1)]at hnx;have he:(Aa l)[a.length]'hs=l[a.length]:=rfl;rw[he,hc]at hnx;have HQ:=Za hc2;clear hc hc1 hc2 hb he;go_wp2_with fail
    refine(Xy _ _).mono ?_;rw[HQ.out];rintro e w1 ⟨rfl,rfl⟩;go_wp2_with fail
    go_ret
    exact⟨rfl,bA⟩
  ·have hnx:=fun ty=>run_next_end (P:=Zb) w (Aa l) k ty hlt
   have hz:l.length=a.length:=by omega
   go_wp2_with fail
   go_ret
   exact⟨If (by omega),bA⟩
theorem fC(a b:Bs)(ha:∀c,c∈a→c.toNat<128∧Ko (c.toNat:Nat)=true)(hb:Hl Ko b)(w:World):
  Calls Zb 84 #[.string (Aa (a++b)),.func (.func 143) #[] #[]] w fun e w'=>e= .returned (.int .i64 a.length)∧Below w.heap.size w w':=by
 have HAA:=Za ha;have HBB:=Za hb;obtain⟨l,hl⟩:∃l,l=a++b:=⟨_,rfl⟩;rw[←hl];have HL:=Za hl;have hlen:l.length=a.length+b.length:=by rw[hl,Zd]
 have hle:a.length≤l.length:=by omega
 have HLEN:=Za hlen;clear ha hb hl hlen;go_enter Tryz.func84,Tryz.ntmps84
 go_wp2_with fail
 go_loopw [5,6] (fun _ _ wr=> ∃k:Nat,k≤a.length∧wr=w.iter (Aa l) k) (fun _ _ wr=>a.length+1 - wr.iterPos w.heap.size)
 case atStart=>exact⟨0,Nat.zero_le _,rfl⟩
 case round=>
  obtain⟨k,hk,rfl⟩:=hrel
  by_cases hlt:k<l.length
  ·have hnx:=fun ty=>run_next_any (P:=Zb) w (Aa l) k ty hlt
   have hs:k<(Aa l).size:=hlt
   by_cases hka:k<a.length
   ·have hc:l[k]=a[k]:=by have:=HL.out;subst this;exact Zj hka
    have hq:=HAA.out a[k] (List.getElem_mem hka);rw[decode_ascii (Aa l) k hs (by show l[k].toNat<128;rw[hc];exact hq.1)]at hnx;have he:(Aa l)[k]'hs=l[k]:=rfl;rw[he,hc]at hnx;have HQ:=Za hq.2;clear hc hq he;go_wp2_with fail
    refine(aM _ _).mono ?_;rw[HQ.out];rintro e w1 ⟨rfl,rfl⟩;go_wp2_with fail
    go_roundw
    case rel=>exact⟨k+1,hka,rfl⟩
    case measure=>simp;omega
   ·have hke:k=a.length:=by omega
    subst hke;have hbn:b≠[]:=by intro e;have:=HLEN.out;rw[e]at this;simp at this;omega
    obtain⟨c,r,hb,hc1,hc2⟩:=HBB.out.resolve_left hbn;have hc:l[a.length]=c:=by have:=HL.out;subst this;subst hb;simp
    rw[decode_ascii (Aa l) _ hs (by show l[a.length].toNat<128;rw[hc];exact hc1)]at hnx;have he:(Aa l)[a.length]'hs=l[a.length]:=rfl;rw[he,hc]at hnx;have HQ:=Za hc2;clear hc hc1 hc2 hb he;go_wp2_with fail
    refine(aM _ _).mono ?_;rw[HQ.out];rintro e w1 ⟨rfl,rfl⟩;go_wp2_with fail
    go_ret
    exact⟨rfl,bA⟩
  ·have hnx:=fun ty=>run_next_end (P:=Zb) w (Aa l) k ty hlt
   have hz:l.length=a.length:=by omega
   go_wp2_with fail
   go_ret
   exact⟨If (by omega),bA⟩
theorem mN(a b:Bs)(ha:∀c,c∈a→c.toNat<128∧Fh (c.toNat:Nat)=true)(hb:Hl Fh b)(w:World):
  Calls Zb 84 #[.string (Aa (a++b)),.func (.func 91) #[] #[]] w fun e w'=>e= .returned (.int .i64 a.length)∧Below w.heap.size w w':=by
 have HAA:=Za ha;have HBB:=Za hb;obtain⟨l,hl⟩:∃l,l=a++b:=⟨_,rfl⟩;rw[←hl];have HL:=Za hl;have hlen:l.length=a.length+b.length:=by rw[hl,Zd]
 have hle:a.length≤l.length:=by omega
 have HLEN:=Za hlen;clear ha hb hl hlen;go_enter Tryz.func84,Tryz.ntmps84
 go_wp2_with fail
 go_loopw [5,6] (fun _ _ wr=> ∃k:Nat,k≤a.length∧wr=w.iter (Aa l) k) (fun _ _ wr=>a.length+1 - wr.iterPos w.heap.size)
 case atStart=>exact⟨0,Nat.zero_le _,rfl⟩
 case round=>
  obtain⟨k,hk,rfl⟩:=hrel
  by_cases hlt:k<l.length
  ·have hnx:=fun ty=>run_next_any (P:=Zb) w (Aa l) k ty hlt
   have hs:k<(Aa l).size:=hlt
   by_cases hka:k<a.length
   ·have hc:l[k]=a[k]:=by have:=HL.out;subst this;exact Zj hka
    have hq:=HAA.out a[k] (List.getElem_mem hka);rw[decode_ascii (Aa l) k hs (by show l[k].toNat<128;rw[hc];exact hq.1)]at hnx;have he:(Aa l)[k]'hs=l[k]:=rfl;rw[he,hc]at hnx;have HQ:=Za hq.2;clear hc hq he;go_wp2_with fail
    refine(Iz _ _).mono ?_;rw[HQ.out];rintro e w1 ⟨rfl,rfl⟩;go_wp2_with fail
    go_roundw
    case rel=>exact⟨k+1,hka,rfl⟩
    case measure=>simp;omega
   ·have hke:k=a.length:=by omega
    subst hke;have hbn:b≠[]:=by intro e;have:=HLEN.out;rw[e]at this;simp at this;omega
    obtain⟨c,r,hb,hc1,hc2⟩:=HBB.out.resolve_left hbn;have hc:l[a.length]=c:=by have:=HL.out;subst this;subst hb;simp
    rw[decode_ascii (Aa l) _ hs (by show l[a.length].toNat<128;rw[hc];exact hc1)]at hnx;have he:(Aa l)[a.length]'hs=l[a.length]:=rfl;rw[he,hc]at hnx;have HQ:=Za hc2;clear hc hc1 hc2 hb he;go_wp2_with fail
    refine(Iz _ _).mono ?_;rw[HQ.out];rintro e w1 ⟨rfl,rfl⟩;go_wp2_with fail
    go_ret
    exact⟨rfl,bA⟩
  ·have hnx:=fun ty=>run_next_end (P:=Zb) w (Aa l) k ty hlt
   have hz:l.length=a.length:=by omega
   go_wp2_with fail
   go_ret
   exact⟨If (by omega),bA⟩
def Gu(kind:Int)(text:Bs)(n line:Int):Value:= .agg #[.int .i64 kind,.string (Aa text),.int .i64 n,.int .i64 line]
theorem Ij(a b:Bs):(Aa (a++b)).extract 0 a.length=Aa a:=by
 apply ByteArray.ext
 rw[ByteArray.data_extract];simp [Aa]
theorem fT(w0 w:World)(h:Below w0.heap.size w0 w)(v0 v1 v2 v3:Value):Below w0.heap.size w0 ((((w.setCell ⟨w0.heap.size,0,none⟩ v0).setCell ⟨w0.heap.size,1,none⟩ v1).setCell ⟨w0.heap.size,2,none⟩ v2).setCell ⟨w0.heap.size,3,none⟩ v3):=
 have st:∀(v:World) (i:Nat) (x:Value),Below w0.heap.size v (v.setCell ⟨w0.heap.size,i,none⟩ x):=fun v i x=>(Ze _ _).setCell (p:=⟨w0.heap.size,i,none⟩) (Zf _) x
 (((h.trans (st _ _ _)).trans (st _ _ _)).trans (st _ _ _)).trans (st _ _ _)
theorem aN(a b:Bs)(ha:∀c,c∈a→c.toNat<128∧Ko (c.toNat:Nat)=true)(hb:Hl Ko b)(hk:Ig a=false)(hn:Aq a=true)(w:World):
  Calls Zb 90 #[.string (Aa (a++b))] w fun e w'=>e= .returned (.tuple #[Gu 1 a 0 0,.bool true])∧Below w.heap.size w w':=by
 have HR:=Za (fun w1=>fC a b ha hb w1);have HW:=Za hk;have HN:=Za hn;have hl1:(a.length:Int)≤((a++b).length:Int):=by rw[Zd];omega
 have hl2:a.length≤(a++b).length:=by rw[Zd];omega
 have HO:=Za (Zg w [.int .i64 0,.string ⟨#[]⟩,.int .i64 0,.int .i64 0] 50);have HB0:=Za ((Ze w.heap.size w).alloc (Zf _) (.cells #[.int .i64 0,.string ⟨#[]⟩,.int .i64 0,.int .i64 0] 50));clear ha hb hk hn;go_enter Tryz.func90,Tryz.ntmps90
 go_wp2_with fail
 refine(HR.out _).mono ?_;rintro e w1 ⟨rfl,hb1⟩;have HO1:=Za (HO.out.old hb1);have HB1:=Za (HB0.out.trans (hb1.mono HB0.out.size));clear hb1;go_wp2_with fail
 rw[Ij];refine(Qw a _).mono ?_;rw[HW.out];rintro e w2 ⟨rfl,hw2⟩;obtain rfl:w1=w2:=hw2;go_wp2_with fail
 refine(Ln a _).mono ?_;rw[HN.out];rintro e w2 ⟨rfl,hb2⟩;have HO2:=Za (HO1.out.old hb2);have HB2:=Za (HB1.out.trans (hb2.mono HB1.out.size));clear hb2;have q0:=HO2.out.at 0 _ rfl;have q1:=HO2.out.at 1 _ rfl;have q2:=HO2.out.at 2 _ rfl;have q3:=HO2.out.at 3 _ rfl;have f0:=HO2.out.fz 0;have f1:=HO2.out.fz 1;have f2:=HO2.out.fz 2;have f3:=HO2.out.fz 3;have ql:=HO2.out.lt;go_wp2_with fail
 have HS:=Za ((((HO2.out.set 0 (.int .i64 1)).set 1 (.string (Aa a))).set 2 (.int .i64 0)).set 3 (.int .i64 0));have e0:=HS.out.at 0 _ rfl;have e1:=HS.out.at 1 _ rfl;have e2:=HS.out.at 2 _ rfl;have e3:=HS.out.at 3 _ rfl;exact bodyPost_ret (v:= .tuple #[Gu 1 a 0 0,.bool true]) (by simp [results,Tryz.results90,go_sem,Gu,e0,e1,e2,e3]) rfl ⟨rfl,fT w _ HB2.out _ _ _ _⟩
theorem Zz(a b:Bs)(ha:∀c,c∈a→c.toNat<128∧Ko (c.toNat:Nat)=true)(hb:Hl Ko b)(hk:Ig a=true)(w:World):
  Calls Zb 90 #[.string (Aa (a++b))] w fun e w'=>e= .returned (.tuple #[Gu 2 a 0 0,.bool true])∧Below w.heap.size w w':=by
 have HR:=Za (fun w1=>fC a b ha hb w1);have HW:=Za hk;have hl1:(a.length:Int)≤((a++b).length:Int):=by rw[Zd];omega
 have hl2:a.length≤(a++b).length:=by rw[Zd];omega
 have HO:=Za (Zg w [.int .i64 0,.string ⟨#[]⟩,.int .i64 0,.int .i64 0] 50);have HB0:=Za ((Ze w.heap.size w).alloc (Zf _) (.cells #[.int .i64 0,.string ⟨#[]⟩,.int .i64 0,.int .i64 0] 50));clear ha hb hk;go_enter Tryz.func90,Tryz.ntmps90
 go_wp2_with fail
 refine(HR.out _).mono ?_;rintro e w1 ⟨rfl,hb1⟩;have HO1:=Za (HO.out.old hb1);have HB1:=Za (HB0.out.trans (hb1.mono HB0.out.size));clear hb1;go_wp2_with fail
 rw[Ij];refine(Qw a _).mono ?_;rw[HW.out];rintro e w2 ⟨rfl,hw2⟩;obtain rfl:w1=w2:=hw2;have q0:=HO1.out.at 0 _ rfl;have q1:=HO1.out.at 1 _ rfl;have q2:=HO1.out.at 2 _ rfl;have q3:=HO1.out.at 3 _ rfl;have f0:=HO1.out.fz 0;have f1:=HO1.out.fz 1;have f2:=HO1.out.fz 2;have f3:=HO1.out.fz 3;have ql:=HO1.out.lt;go_wp2_with fail
 have HS:=Za ((((HO1.out.set 0 (.int .i64 2)).set 1 (.string (Aa a))).set 2 (.int .i64 0)).set 3 (.int .i64 0));have e0:=HS.out.at 0 _ rfl;have e1:=HS.out.at 1 _ rfl;have e2:=HS.out.at 2 _ rfl;have e3:=HS.out.at 3 _ rfl;exact bodyPost_ret (v:= .tuple #[Gu 2 a 0 0,.bool true]) (by simp [results,Tryz.results90,go_sem,Gu,e0,e1,e2,e3]) rfl ⟨rfl,fT w _ HB1.out _ _ _ _⟩
theorem Li(u:Nat):∀c,c∈Zc u→Cx c=true:=by
 induction u using Nat.strongRecOn with
 |_ u ih=>
  intro c hc;have dig:∀d,d<10→Cx (UInt8.ofNat (48+d))=true:=by decide
  rw[Zc]at hc
  by_cases h:u<10
  ·rw[dif_pos h]at hc
   rw[List.mem_singleton.1 hc];exact dig u h
  ·rw[dif_neg h]at hc
   rcases List.mem_append.1 hc with hc|hc
   ·exact ih (u / 10) (by omega) c hc
   ·rw[List.mem_singleton.1 hc];exact dig _ (by omega)
theorem So(u:Nat):Zc u≠[]:=by
 rw[Zc];split
 ·exact List.cons_ne_nil _ _
 ·simp
theorem Wd(b:UInt8)(d:Nat)(hb:b.toNat=48+d)(hd:d<10):∀(l:List UInt8) (acc n:Nat),Zh acc l= .ok n→n*10+d<18446744073709551616→Zh acc (l++[b])= .ok (n*10+d)
 |[],acc,n,h,hn=>by
  simp only[Zh]at h
  cases h
  show Zh acc [b]=_
  simp only[Zh];rw[if_pos (by omega),if_neg (by omega),if_neg (by omega)];congr 2;omega
 |c::l,acc,n,h,hn=>by
  simp only[Zh,List.cons_append]at h ⊢;split at h
  ·rename_i h1
   rw[if_pos h1];split at h
   ·cases h
   ·rename_i h2
    rw[if_neg h2];split at h
    ·cases h
    ·rename_i h3
     rw[if_neg h3];exact Wd b d hb hd l _ n h hn
  ·cases h
theorem gM(u:Nat)(hu:u<18446744073709551616):Zh 0 (Zc u)= .ok u:=by
 induction u using Nat.strongRecOn with
 |_ u ih=>
  have hb:∀d,d<10→(UInt8.ofNat (48+d)).toNat=48+d:=fun d hd=>by rw[UInt8.toNat_ofNat'];exact Nat.mod_eq_of_lt (by omega)
  rw[Zc]
  by_cases h:u<10
  ·rw[dif_pos h]
   have:=Wd (UInt8.ofNat (48+u)) u (hb u h) h [] 0 0 rfl (by omega);simpa using this
  ·rw[dif_neg h]
   have:=Wd (UInt8.ofNat (48+u % 10)) (u % 10) (hb _ (by omega)) (by omega) _ 0 _ (ih (u / 10) (by omega) (by omega)) (by omega);rw[this];congr 1;omega
theorem rK(u:Nat)(hn:Zc u≠[])(hm:∀c,c∈Zc u→48≤c.toNat∧c.toNat≤57)(hu:u≤9223372036854775807):Lib.atoiAll (Zc u)= .ok (u:Int):=by
 have hp:=gM u (by omega);generalize Zc u=l at*
 cases l with
 |nil=>exact absurd rfl hn
 |cons c r=>
  have hc:=hm c List.mem_cons_self;unfold Lib.atoiAll;dsimp only
  rw[if_neg (by omega)];unfold Lib.parseMag;rw[if_neg (by simp),hp];dsimp only;rw[if_neg (by omega),if_neg (by omega),if_neg (by omega)]
def dR(w:World):Prop:=Lib.TabIs Zb w "internal/strconv.uint64pow10" .u64 Lib.pow10Tab
theorem dR.keep {w w':World}(h:dR w)(hb:w'.heap[3]? =w.heap[3]?):dR w':=by
 have hg:Tryz.prog.globalNamed "internal/strconv.uint64pow10" =some 3:=by kernel_rfl
 unfold dR Lib.TabIs World.var? at*;simp only[hg,Option.bind_eq_bind,Option.bind_some]at*;rw[hb];exact h
theorem lM(n:Int)(h0: -9223372036854775808≤n)(h1:n≤9223372036854775807)(w:World)(ht:dR w):
  Calls Zb 35 #[.int .i64 n] w fun e w'=>e= .returned (.string (Aa (Lib.itoa n)))∧Below w.heap.size w w':=by
 refine(Tryz.strconv_Itoa n h0 h1 w ht).mono ?_;rintro e w' ⟨rfl,k,os,rfl⟩;exact⟨rfl,rfl,rfl,rfl,by simp,fun i hi=>by simp [Sort.grow,World.drewN,Array.getElem?_append_left hi]⟩
theorem Tu(u:Nat)(b:Bs)(hu:(Zc u).length≤19)(hi:u≤9223372036854775807)(hb:Hl Fh b)(w:World)(hg:3<w.heap.size)(ht:dR w):
  Calls Zb 92 #[.string (Aa (Zc u++b))] w fun e w'=>e= .returned (.tuple #[Gu 3 (Zc u) u 0,.bool true])∧Below w.heap.size w w':=by
 have hA:=rK u (So u) (fun c hc=>by have:=Li u c hc;simp [Cx,UInt8.le_iff_toNat_le]at this;omega) hi;have hI:Lib.itoa (u:Int)=Zc u:=by unfold Lib.itoa;rw[if_neg (by omega)];simp
 have ha:∀c,c∈Zc u→c.toNat<128∧Fh (c.toNat:Nat)=true:=fun c hc=>by
  have:=Li u c hc;refine⟨?_,by rw[Lh];exact this⟩;simp [Cx,UInt8.le_iff_toNat_le]at this;omega
 have HR:=Za (fun w1=>mN (Zc u) b ha hb w1);have HA:=Za hA;have HI:=Za hI;have HT:=Za ht;have HU:=Za hu;generalize Zc u=a at*;have hl1:(a.length:Int)≤((a++b).length:Int):=by rw[Zd];omega
 have hl2:a.length≤(a++b).length:=by rw[Zd];omega
 have HO:=Za (Zg w [.int .i64 0,.string ⟨#[]⟩,.int .i64 0,.int .i64 0] 50);have HB0:=Za ((Ze w.heap.size w).alloc (Zf _) (.cells #[.int .i64 0,.string ⟨#[]⟩,.int .i64 0,.int .i64 0] 50));clear ha hb hA hI ht hu;go_enter Tryz.func92,Tryz.ntmps92
 go_wp2_with fail
 refine(HR.out _).mono ?_;rintro e w1 ⟨rfl,hb1⟩;have HO1:=Za (HO.out.old hb1);have HB1:=Za (HB0.out.trans (hb1.mono HB0.out.size));clear hb1;go_wp2_with fail
 rw[Ij];refine(Tryz.strconv_Atoi_ok (Aa a) (by show a.length≤_;have:=HU.out;omega) (u:Int) HA.out w1).mono ?_;rintro e w2 ⟨rfl,hw2⟩;have hb2:Below w1.heap.size w1 w2:=by
  rcases hw2 with rfl|⟨t,rfl⟩
  ·exact Ze _ _
  ·exact Joins.below_bytesWorld _ w1 5 t (Zf _)
 have HO2:=Za (HO1.out.old hb2);have HB2:=Za (HB1.out.trans (hb2.mono HB1.out.size));clear hb2 hw2;go_wp2_with fail
 have ht2:dR w2:=HT.out.keep (HB2.out.block _ hg);refine(lM (u:Int) (by omega) (by omega) w2 ht2).mono ?_;rw[HI.out];rintro e w3 ⟨rfl,hb3⟩;have HO3:=Za (HO2.out.old hb3);have HB3:=Za (HB2.out.trans (hb3.mono HB2.out.size));clear hb3 ht2;have q0:=HO3.out.at 0 _ rfl;have f0:=HO3.out.fz 0;have q1:=HO3.out.at 1 _ rfl;have f1:=HO3.out.fz 1;have q2:=HO3.out.at 2 _ rfl;have f2:=HO3.out.fz 2;have q3:=HO3.out.at 3 _ rfl;have f3:=HO3.out.fz 3;have ql:=HO3.out.lt;go_wp2_with fail
 have HS:=Za ((((HO3.out.set 0 (.int .i64 3)).set 1 (.string (Aa a))).set 2 (.int .i64 u)).set 3 (.int .i64 0));have e0:=HS.out.at 0 _ rfl;have e1:=HS.out.at 1 _ rfl;have e2:=HS.out.at 2 _ rfl;have e3:=HS.out.at 3 _ rfl;exact bodyPost_ret (v:= .tuple #[Gu 3 a u 0,.bool true]) (by simp [results,Tryz.results92,go_sem,Gu,e0,e1,e2,e3]) rfl ⟨rfl,fT w _ HB3.out _ _ _ _⟩
def fO:List Bs:=[[61,61],[33,61],[60,61],[62,61],[60,60],[62,62],[40],[41],[123],[125],[91],[93],[44],[59],[61],[124],[94],[38],[43],[45],[42],[47],[37],[33],[126],[60],[62]]
def Lo(l:Bs):Bool:=fO.contains l
theorem Hf {t:Bs}(h:Lo t=true):t=[61,61]∨t=[33,61]∨t=[60,61]∨t=[62,61]∨t=[60,60]∨t=[62,62]∨t=[40]∨t=[41]∨t=[123]∨t=[125]∨t=[91]∨t=[93]∨t=[44]∨t=[59]∨t=[61]∨t=[124]∨t=[94]∨t=[38]∨t=[43]∨t=[45]∨t=[42]∨t=[47]∨t=[37]∨t=[33]∨t=[126]∨t=[60]∨t=[62]:=by
 simpa [Lo,fO]using h
theorem Sr(a b:Bs)(ha:Lo a=true)(h1:a.length=1→∃c r,b=c::r∧(c==61)=false∧(c==60)=false∧(c==62)=false)(w:World):
  Calls Zb 94 #[.string (Aa (a++b))] w fun e w'=>e= .returned (.tuple #[Gu 4 a 0 0,.bool true])∧Below w.heap.size w w':=by
 have hlen:a.length=1∨a.length=2:=by
  rcases Hf ha with rfl|rfl|rfl|rfl|rfl|rfl|rfl|rfl|rfl|rfl|rfl|rfl|rfl|rfl|rfl|rfl|rfl|rfl|rfl|rfl|rfl|rfl|rfl|rfl|rfl|rfl|rfl<;>simp
 rcases hlen with hl|hl
 ·obtain⟨c,r,rfl,c1,c2,c3⟩:=h1 hl
  have hx2:(Aa (a++c::r)).extract 0 2=Aa (a++[c]):=by
   have:=Ij (a++[c]) r;rw[Zd,hl]at this;simpa using this
  have hx1:(Aa (a++c::r)).extract 0 1=Aa a:=by
   have:=Ij a (c::r)
   rwa[hl]at this
  have hz:2≤(a++c::r).length:=by rw[Zd,hl,Zi];omega
  have hz1:1≤(a++c::r).length:=by omega
  have hzI:(2:Int)≤((a++c::r).length:Int):=by omega
  have hm:min (2:Int) ((a++c::r).length:Int)=2:=by omega
  generalize a++c::r=l at*;rcases Hf ha with rfl|rfl|rfl|rfl|rfl|rfl|rfl|rfl|rfl|rfl|rfl|rfl|rfl|rfl|rfl|rfl|rfl|rfl|rfl|rfl|rfl|rfl|rfl|rfl|rfl|rfl|rfl
  iterate 6 (simp at hl)
  all_goals
   clear h1 ha hl;go_enter Tryz.func94,Tryz.ntmps94
   go_wp2_with fail
   refine wp_loop_rounds 2 ?_;rw[rounds_succ];go_wp2_with fail
   rw[rounds_succ];go_wp2_with fail
   exact bodyPost_ret (v:= .tuple #[Gu 4 _ 0 0,.bool true]) (by simp [results,Tryz.results94,go_sem,Gu]) rfl ⟨rfl,bA⟩
 ·have hx2:(Aa (a++b)).extract 0 2=Aa a:=by
   have:=Ij a b
   rwa[hl]at this
  have hz:2≤(a++b).length:=by rw[Zd,hl];omega
  have hzI:(2:Int)≤((a++b).length:Int):=by omega
  have hm:min (2:Int) ((a++b).length:Int)=2:=by omega
  generalize a++b=l at*;rcases Hf ha with rfl|rfl|rfl|rfl|rfl|rfl|rfl|rfl|rfl|rfl|rfl|rfl|rfl|rfl|rfl|rfl|rfl|rfl|rfl|rfl|rfl|rfl|rfl|rfl|rfl|rfl|rfl
  iterate 6
   ·clear h1 ha hl
    go_enter Tryz.func94,Tryz.ntmps94
    go_wp2_with fail
    refine wp_loop_rounds 1 ?_;rw[rounds_succ];go_wp2_with fail
    exact bodyPost_ret (v:= .tuple #[Gu 4 _ 0 0,.bool true]) (by simp [results,Tryz.results94,go_sem,Gu]) rfl ⟨rfl,bA⟩
  all_goals simp at hl
theorem Nd(c:UInt8)(s:Bs)(hc:Cl c=true)(h7:c.toNat<128)(v1:Int)(v2:Bs)(v3:Int)(w:World)(hT:∀w1,Below w.heap.size w w1→Calls Zb 90 #[.string (Aa (c::s))] w1 fun e w'=>e= .returned (.tuple #[Gu v1 v2 v3 0,.bool true])∧Below w1.heap.size w1 w'):
  Calls Zb 41 #[.string (Aa (c::s))] w fun e w'=>e= .returned (.tuple #[Gu v1 v2 v3 0,.bool true])∧Below w.heap.size w w':=by
 have HT:=Za hT;have h0:0<(Aa (c::s)).size:=by show 0<(c::s).length;simp
 have hz:(0:Int)<((c::s).length:Int):=by rw[Zi];omega
 have hzN:0<(c::s).length:=by simp
 have hwr:wrap32 (((Aa (c::s))[0]'h0).toNat:Int)=(c.toNat:Int):=by
  show wrap32 (c.toNat:Int)=_
  unfold wrap32;omega
 have HWR:=Za hwr;have HO:=Za (Zg w [.int .i64 0,.string ⟨#[]⟩,.int .i64 0,.int .i64 0] 50);have HB0:=Za ((Ze w.heap.size w).alloc (Zf _) (.cells #[.int .i64 0,.string ⟨#[]⟩,.int .i64 0,.int .i64 0] 50));have HL:=Za (show Fp (c.toNat:Nat)=true by rw[Ka];exact hc);clear hc;clear hT hwr;go_enter Tryz.func41,Tryz.ntmps41
 go_wp2_with fail
 rw[HWR.out];refine(Ft _ _).mono ?_;rw[HL.out];rintro e w1 ⟨rfl,rfl⟩;go_wp2_with fail
 refine(HT.out _ HB0.out).mono ?_;rintro e w3 ⟨rfl,hb3⟩;unfold Gu;have HO3:=Za (HO.out.old hb3);have HB3:=Za (HB0.out.trans (hb3.mono HB0.out.size));clear hb3;have q0:=HO3.out.at 0 _ rfl;have f0:=HO3.out.fz 0;have q1:=HO3.out.at 1 _ rfl;have f1:=HO3.out.fz 1;have q2:=HO3.out.at 2 _ rfl;have f2:=HO3.out.fz 2;have q3:=HO3.out.at 3 _ rfl;have f3:=HO3.out.fz 3;have ql:=HO3.out.lt;go_wp2_with fail
 have HS:=Za ((((HO3.out.set 0 (.int .i64 v1)).set 1 (.string (Aa v2))).set 2 (.int .i64 v3)).set 3 (.int .i64 0));have e0:=HS.out.at 0 _ rfl;have e1:=HS.out.at 1 _ rfl;have e2:=HS.out.at 2 _ rfl;have e3:=HS.out.at 3 _ rfl;exact bodyPost_ret (v:= .tuple #[.agg #[.int .i64 v1,.string (Aa v2),.int .i64 v3,.int .i64 0],.bool true]) (by simp [results,Tryz.results41,go_sem,e0,e1,e2,e3]) rfl ⟨rfl,fT w _ HB3.out _ _ _ _⟩
theorem Sd(c:UInt8)(s:Bs)(hc:Cx c=true)(h7:c.toNat<128)(v1:Int)(v2:Bs)(v3:Int)(w:World)(hT:∀w1,Below w.heap.size w w1→Calls Zb 92 #[.string (Aa (c::s))] w1 fun e w'=>e= .returned (.tuple #[Gu v1 v2 v3 0,.bool true])∧Below w1.heap.size w1 w'):
  Calls Zb 41 #[.string (Aa (c::s))] w fun e w'=>e= .returned (.tuple #[Gu v1 v2 v3 0,.bool true])∧Below w.heap.size w w':=by
 have HT:=Za hT;have h0:0<(Aa (c::s)).size:=by show 0<(c::s).length;simp
 have hz:(0:Int)<((c::s).length:Int):=by rw[Zi];omega
 have hzN:0<(c::s).length:=by simp
 have hwr:wrap32 (((Aa (c::s))[0]'h0).toNat:Int)=(c.toNat:Int):=by
  show wrap32 (c.toNat:Int)=_
  unfold wrap32;omega
 have HWR:=Za hwr;have HO:=Za (Zg w [.int .i64 0,.string ⟨#[]⟩,.int .i64 0,.int .i64 0] 50);have HB0:=Za ((Ze w.heap.size w).alloc (Zf _) (.cells #[.int .i64 0,.string ⟨#[]⟩,.int .i64 0,.int .i64 0] 50));have HL:=Za (show Fp (c.toNat:Nat)=false by rw[Ka];simp [Cl,Cx,UInt8.le_iff_toNat_le,←UInt8.toNat_inj]at hc ⊢;omega);have HD:=Za (show Fh (c.toNat:Nat)=true by rw[Lh];exact hc);clear hc;clear hT hwr;go_enter Tryz.func41,Tryz.ntmps41
 go_wp2_with fail
 rw[HWR.out];refine(Ft _ _).mono ?_;rw[HL.out];rintro e w1 ⟨rfl,rfl⟩;go_wp2_with fail
 refine(Iz _ _).mono ?_;rw[HD.out];rintro e w1 ⟨rfl,rfl⟩;go_wp2_with fail
 refine(HT.out _ HB0.out).mono ?_;rintro e w3 ⟨rfl,hb3⟩;unfold Gu;have HO3:=Za (HO.out.old hb3);have HB3:=Za (HB0.out.trans (hb3.mono HB0.out.size));clear hb3;have q0:=HO3.out.at 0 _ rfl;have f0:=HO3.out.fz 0;have q1:=HO3.out.at 1 _ rfl;have f1:=HO3.out.fz 1;have q2:=HO3.out.at 2 _ rfl;have f2:=HO3.out.fz 2;have q3:=HO3.out.at 3 _ rfl;have f3:=HO3.out.fz 3;have ql:=HO3.out.lt;go_wp2_with fail
 have HS:=Za ((((HO3.out.set 0 (.int .i64 v1)).set 1 (.string (Aa v2))).set 2 (.int .i64 v3)).set 3 (.int .i64 0));have e0:=HS.out.at 0 _ rfl;have e1:=HS.out.at 1 _ rfl;have e2:=HS.out.at 2 _ rfl;have e3:=HS.out.at 3 _ rfl;exact bodyPost_ret (v:= .tuple #[.agg #[.int .i64 v1,.string (Aa v2),.int .i64 v3,.int .i64 0],.bool true]) (by simp [results,Tryz.results41,go_sem,e0,e1,e2,e3]) rfl ⟨rfl,fT w _ HB3.out _ _ _ _⟩
theorem cS(c:UInt8)(s:Bs)(hc:c=39)(h7:c.toNat<128)(v1:Int)(v2:Bs)(v3:Int)(w:World)(hT:∀w1,Below w.heap.size w w1→Calls Zb 93 #[.string (Aa (c::s))] w1 fun e w'=>e= .returned (.tuple #[Gu v1 v2 v3 0,.bool true])∧Below w1.heap.size w1 w'):
  Calls Zb 41 #[.string (Aa (c::s))] w fun e w'=>e= .returned (.tuple #[Gu v1 v2 v3 0,.bool true])∧Below w.heap.size w w':=by
 have HT:=Za hT;have h0:0<(Aa (c::s)).size:=by show 0<(c::s).length;simp
 have hz:(0:Int)<((c::s).length:Int):=by rw[Zi];omega
 have hzN:0<(c::s).length:=by simp
 have hwr:wrap32 (((Aa (c::s))[0]'h0).toNat:Int)=(c.toNat:Int):=by
  show wrap32 (c.toNat:Int)=_
  unfold wrap32;omega
 have HWR:=Za hwr;have HO:=Za (Zg w [.int .i64 0,.string ⟨#[]⟩,.int .i64 0,.int .i64 0] 50);have HB0:=Za ((Ze w.heap.size w).alloc (Zf _) (.cells #[.int .i64 0,.string ⟨#[]⟩,.int .i64 0,.int .i64 0] 50));have HL:=Za (show Fp (c.toNat:Nat)=false by rw[hc];rfl);have HD:=Za (show Fh (c.toNat:Nat)=false by rw[hc];rfl);have hq:((c.toNat:Int)==39)=true:=by rw[hc];rfl
 clear hc;clear hT hwr;go_enter Tryz.func41,Tryz.ntmps41
 go_wp2_with fail
 rw[HWR.out];refine(Ft _ _).mono ?_;rw[HL.out];rintro e w1 ⟨rfl,rfl⟩;go_wp2_with fail
 refine(Iz _ _).mono ?_;rw[HD.out];rintro e w1 ⟨rfl,rfl⟩;go_wp2_with fail
 refine(HT.out _ HB0.out).mono ?_;rintro e w3 ⟨rfl,hb3⟩;unfold Gu;have HO3:=Za (HO.out.old hb3);have HB3:=Za (HB0.out.trans (hb3.mono HB0.out.size));clear hb3;have q0:=HO3.out.at 0 _ rfl;have f0:=HO3.out.fz 0;have q1:=HO3.out.at 1 _ rfl;have f1:=HO3.out.fz 1;have q2:=HO3.out.at 2 _ rfl;have f2:=HO3.out.fz 2;have q3:=HO3.out.at 3 _ rfl;have f3:=HO3.out.fz 3;have ql:=HO3.out.lt;go_wp2_with fail
 have HS:=Za ((((HO3.out.set 0 (.int .i64 v1)).set 1 (.string (Aa v2))).set 2 (.int .i64 v3)).set 3 (.int .i64 0));have e0:=HS.out.at 0 _ rfl;have e1:=HS.out.at 1 _ rfl;have e2:=HS.out.at 2 _ rfl;have e3:=HS.out.at 3 _ rfl;exact bodyPost_ret (v:= .tuple #[.agg #[.int .i64 v1,.string (Aa v2),.int .i64 v3,.int .i64 0],.bool true]) (by simp [results,Tryz.results41,go_sem,e0,e1,e2,e3]) rfl ⟨rfl,fT w _ HB3.out _ _ _ _⟩
theorem Na(c:UInt8)(s:Bs)(hc:Cl c=false∧Cx c=false∧c≠39)(h7:c.toNat<128)(v1:Int)(v2:Bs)(v3:Int)(w:World)(hT:∀w1,Below w.heap.size w w1→Calls Zb 94 #[.string (Aa (c::s))] w1 fun e w'=>e= .returned (.tuple #[Gu v1 v2 v3 0,.bool true])∧Below w1.heap.size w1 w'):
  Calls Zb 41 #[.string (Aa (c::s))] w fun e w'=>e= .returned (.tuple #[Gu v1 v2 v3 0,.bool true])∧Below w.heap.size w w':=by
 have HT:=Za hT;have h0:0<(Aa (c::s)).size:=by show 0<(c::s).length;simp
 have hz:(0:Int)<((c::s).length:Int):=by rw[Zi];omega
 have hzN:0<(c::s).length:=by simp
 have hwr:wrap32 (((Aa (c::s))[0]'h0).toNat:Int)=(c.toNat:Int):=by
  show wrap32 (c.toNat:Int)=_
  unfold wrap32;omega
 have HWR:=Za hwr;have HO:=Za (Zg w [.int .i64 0,.string ⟨#[]⟩,.int .i64 0,.int .i64 0] 50);have HB0:=Za ((Ze w.heap.size w).alloc (Zf _) (.cells #[.int .i64 0,.string ⟨#[]⟩,.int .i64 0,.int .i64 0] 50));have HL:=Za (show Fp (c.toNat:Nat)=false by rw[Ka];exact hc.1);have HD:=Za (show Fh (c.toNat:Nat)=false by rw[Lh];exact hc.2.1);have hq:((c.toNat:Int)==39)=false:=by
  rw[beq_eq_false_iff_ne];intro e;exact hc.2.2 (by rw[←UInt8.toNat_inj];show c.toNat=39;omega)
 clear hc;clear hT hwr;go_enter Tryz.func41,Tryz.ntmps41
 go_wp2_with fail
 rw[HWR.out];refine(Ft _ _).mono ?_;rw[HL.out];rintro e w1 ⟨rfl,rfl⟩;go_wp2_with fail
 refine(Iz _ _).mono ?_;rw[HD.out];rintro e w1 ⟨rfl,rfl⟩;go_wp2_with fail
 refine(HT.out _ HB0.out).mono ?_;rintro e w3 ⟨rfl,hb3⟩;unfold Gu;have HO3:=Za (HO.out.old hb3);have HB3:=Za (HB0.out.trans (hb3.mono HB0.out.size));clear hb3;have q0:=HO3.out.at 0 _ rfl;have f0:=HO3.out.fz 0;have q1:=HO3.out.at 1 _ rfl;have f1:=HO3.out.fz 1;have q2:=HO3.out.at 2 _ rfl;have f2:=HO3.out.fz 2;have q3:=HO3.out.at 3 _ rfl;have f3:=HO3.out.fz 3;have ql:=HO3.out.lt;go_wp2_with fail
 have HS:=Za ((((HO3.out.set 0 (.int .i64 v1)).set 1 (.string (Aa v2))).set 2 (.int .i64 v3)).set 3 (.int .i64 0));have e0:=HS.out.at 0 _ rfl;have e1:=HS.out.at 1 _ rfl;have e2:=HS.out.at 2 _ rfl;have e3:=HS.out.at 3 _ rfl;exact bodyPost_ret (v:= .tuple #[.agg #[.int .i64 v1,.string (Aa v2),.int .i64 v3,.int .i64 0],.bool true]) (by simp [results,Tryz.results41,go_sem,e0,e1,e2,e3]) rfl ⟨rfl,fT w _ HB3.out _ _ _ _⟩
structure Io (w:World):Prop where
 pow:dR w
 max:∃m,w.cell? ⟨0,0,none⟩=some (.int .i64 m)
 utf:Lib.Utf8Tabs 1 2 w
theorem Io.lt {w:World}(h:Io w):3<w.heap.size:=by
 have gTab:Tryz.prog.globalNamed "internal/strconv.uint64pow10" =some 3:=by kernel_rfl
 exact World.block_lt_of_cell? _ _ (Lib.TabIs.cell h.pow gTab 0 (by decide))
theorem Io.old {w w':World}(h:Io w)(hb:Below w.heap.size w w'):Io w':=
 ⟨h.pow.keep (hb.block _ h.lt),by obtain⟨m,hm⟩:=h.max;exact⟨m,Ad hb hm⟩,Utf8Tabs_below h.utf hb⟩
theorem Tp {B:Nat}{a w:World}(h:Below B a w)(n:Nat):Below B a (w.drewN n):=⟨h.os,h.tape,h.output,h.size,h.block⟩
theorem eR(c s:Bs)(hcut:Lib.cut (c++s) [10]=(c,s.drop 1,true))(hval:Lib.validD c=true)(hcon:Lib.contains c [239,191,189]=false)(hz:(c++s).length≤1000000)(w:World)(hl:Io w):
  Calls Zb 88 #[.string (Aa (c++s))] w fun e w'=>e= .returned (.tuple #[.string (Aa c),.bool true])∧Below w.heap.size w w':=by
 have HL:=Za hl;have HV:=Za hval;have HC:=Za hcon;have HZ:=Za hz;obtain⟨m,hm⟩:=hl.max;have HM:=Za hm;have hcut':Lib.cut (Aa (c++s)).data.toList (Aa [10]).data.toList=(c,s.drop 1,true):=by simpa [Aa]using hcut
 have HK:=Za hcut';clear hcut hval hcon hl hm hz hcut';go_enter Tryz.func88,Tryz.ntmps88
 go_wp2_with fail
 refine(Tryz.strings_Cut (Aa (c++s)) (Aa [10]) m w (by have:=HZ.out;show(c++s).length<_;omega) HM.out).mono ?_;rw[HK.out];rintro e w1 ⟨rfl,n1,rfl⟩;have hl1:Io (w.drewN n1):=HL.out.old (Tp (Ze w.heap.size w) n1);have hcz:c.length≤1000000:=by have:=HZ.out;rw[Zd]at this;omega
 go_wp2_with fail
 refine(Tryz.utf8_ValidString (Aa c) (w.drewN n1) (by show c.length≤_;omega) hl1.utf).mono ?_;rintro e w2 ⟨he,hb2⟩;have he2:e= .returned (.bool true):=by rw[he];show Ending.returned (.bool (Lib.validD c))=_;rw[HV.out]
 subst he2;have hl2:=hl1.old (hb2:Below (w.drewN n1).heap.size (w.drewN n1) w2);obtain⟨m2,hm2⟩:=hl2.max;have HM2:=Za hm2;have HB2:=Za ((Tp (Ze w.heap.size w) n1).trans hb2);clear he hb2 hl1 hl2 hm2;go_wp2_with fail
 refine(Tryz.strings_Contains (Aa c) (Aa [239,191,189]) m2 w2 (by show c.length<_;omega) HM2.out).mono ?_;rintro e w3 ⟨he,hw3⟩;have he2:e= .returned (.bool false):=by rw[he];show Ending.returned (.bool (Lib.contains c [239,191,189]))=_;rw[HC.out]
 subst he2;obtain rfl:w2=w3:=hw3.symm;clear he;go_wp2_with fail
 go_ret2
 exact⟨rfl,HB2.out⟩
end Go.Proofs.YtcfpfnoldgnloaaGreatDoor
namespace Go.Proofs.YtcfpfnoldgnloaaGreatDoor
open Go.ChangeShapes Go.WideShapes Go.ChangeAt Go.RowKit
set_option maxHeartbeats 4000000
set_option maxRecDepth 100000
theorem zgTab:Tryz.prog.globalNamed "internal/strconv.uint64pow10" =some 3:=by kernel_rfl
theorem mE:(Tryz.prog.globals[3]?).map (·.type)=some 211:=by kernel_rfl
theorem mS:Tryz.prog.cellsOf 211=20:=by kernel_rfl
theorem zcellsU:Tryz.prog.cellsOf 194=1:=by kernel_rfl
theorem zU8:U8Extra Tryz.prog Tryz.lays196_ren:=⟨by kernel_rfl,by kernel_rfl,by kernel_rfl,by kernel_rfl,by kernel_rfl,by kernel_rfl,by kernel_rfl⟩
theorem zaccept:Rows.laid_unicode_utf8_acceptRanges=Lib.acceptData:=by kernel_rfl
theorem zlib_of {W:World}(h:laidMetH Tryz.prog Rows.parseDeepRow.laid W)(hsh:W.ShapedOpen Tryz.prog):Io W:=by
 have h':laidMet Tryz.prog Rows.parseDeepRow.laid W:=h;refine⟨?_,?_,?_⟩
 ·exact Lib.tabIs_of_head (rest:=_) zgTab mE Tryz.underlying211 Tryz.underlying194 zcellsU mS (Ry (Ry h'))
 ·exact cell_of_shapedOpen_int (zero:= #[.int .i64 0]) (t:=3) hsh (of_decide_eq_true (by kernel_rfl)) (by kernel_rfl) rfl (by kernel_rfl) (by kernel_rfl) Tryz.underlying3
 ·refine utf8Tabs_of_readsT (U8Types.of196 Tryz.lays196) zU8 ?_ ?_
  ·have:=Lib.laidMet.reads h' (n:= "unicode/utf8.first") (d:=Rows.laid_unicode_utf8_first) (.tail _ (.tail _ (.tail _ (.tail _ (.tail _ (.tail _ (.head _)))))))
   rw[←Pinned.utf8First_eq];exact this
  ·have:=Lib.laidMet.reads h' (n:= "unicode/utf8.acceptRanges") (d:=Rows.laid_unicode_utf8_acceptRanges) (.tail _ (.tail _ (.tail _ (.head _))))
   rw[←zaccept];exact this
end Go.Proofs.YtcfpfnoldgnloaaGreatDoor
namespace Go.Proofs.YtcfpfnoldgnloaaGreatDoor
open Go.RowKit
set_option maxHeartbeats 20000000
set_option maxRecDepth 100000
open Go.Lib renaming hid→Za,hasPrefix→Zb
open List renaming length_append→Zc,cons_append→Ze,isPrefixOf→Zf,mem_cons_self→Zg,cons_ne_nil→Zh,mem_cons_of_mem→Zi
open Go.Proofs.Tryz renaming prog→Zd
def Ai(b0:Bs)(l:List (Bs ×Bs)):Bs:=b0++l.flatMap (fun p=>p.1++p.2)
def Cf(l:Bs):Nat:=l.count 10
def Fe(c:UInt8):Bool:=c==32||c==9||c==10||c==13
structure qN (c:Bs):Prop where
 pre:∃r,c=47::47::r
 nofeed:(10:UInt8) ∉ c
 valid:Lib.validD c=true
 mark:Lib.contains c [239,191,189]=false
structure Nw (b0:Bs)(l:List (Bs ×Bs)):Prop where
 blank:∀c,c∈b0→Fe c=true
 comm:∀p,p∈l→qN p.1∧(∀c,c∈p.2→Fe c=true)∧∃r,p.2=10::r
theorem Pz {c:UInt8}(h:Fe c=true):c.toNat<128∧Jf (c.toNat:Nat)=true:=by
 simp only[Fe,Bool.or_eq_true,beq_iff_eq]at h;rcases h with((rfl|rfl)|rfl)|rfl<;>exact⟨by decide,by decide⟩
theorem pI(c:Bs)(s:Bs)(h:(10:UInt8) ∉ c):Lib.index (c++10::s) [10]=(c.length:Int):=by
 induction c with
 |nil=>simp [Lib.index]
 |cons x c ih=>
  have hx:x≠10:=fun e=>h (by rw[e];exact Zg)
  have i:=ih (fun hm=>h (Zi _ hm));rw[Ze,Lib.index];have hp:([10]:List UInt8).isPrefixOf (x::(c++10::s))=false:=by
   simp [Zf];exact fun e=>hx e.symm
  rw[hp,i];have:((c.length:Int)== -1)=false:=by rw[beq_eq_false_iff_ne];omega
  rw[this];simp
theorem cut_at(c s:Bs)(h:(10:UInt8) ∉ c):Lib.cut (c++10::s) [10]=(c,s,true):=by
 unfold Lib.cut;rw[pI c s h,if_pos (by omega)];simp
theorem gap_len(b0:Bs)(c b:Bs)(l:List (Bs ×Bs)):Ai b0 ((c,b)::l)=b0++(c++Ai b l):=by
 unfold Ai;simp
theorem Yf(a b:Bs):Cf (a++b)=Cf a+Cf b:=List.count_append
theorem pL(c:Bs)(h:(10:UInt8) ∉ c):Cf c=0:=List.count_eq_zero.2 h
theorem Ml(a b:Bs)(n:Nat)(hn:n=(a++b).length):(Aa (a++b)).extract a.length n=Aa b:=by
 subst hn;apply ByteArray.ext
 rw[ByteArray.data_extract];simp [Aa]
theorem pV(b0:Bs)(l:List (Bs ×Bs))(r:Bs)(hg:Nw b0 l)(hr:Hl Jf r)(hp:Zb r [47,47]=false)(hz:(Ai b0 l++r).length≤1000000)(w:World)(hl:Io w):
  Calls Zd 40 #[.string (Aa (Ai b0 l++r))] w fun e w'=>e= .returned (.tuple #[.string (Aa r),.int .i64 (Cf (Ai b0 l)),.bool true])∧Below w.heap.size w w':=by
 have HGP:=Za hg;have HR:=Za hr;have HP:=Za hp;have HL:=Za hl;have HZ:=Za hz;obtain⟨T,hT⟩:∃T,Cf (Ai b0 l)=T:=⟨_,rfl⟩;rw[hT];have hT2:T≤1000000:=by
  rw[←hT];unfold Cf;have:=List.count_le_length (a:=(10:UInt8)) (l:=Ai b0 l);rw[Zc]at hz;omega
 have HTT:=Za hT;clear hg hr hp hl hz hT;go_enter Tryz.func40,Tryz.ntmps40
 go_wp2_with fail
 go_loopw [0,3] (fun s0 s3 wr=> ∃(b1:Bs) (l1:List (Bs ×Bs)) (n:Nat),s0= .string (Aa (Ai b1 l1++r))∧s3= .int .i64 n∧Nw b1 l1∧n+Cf (Ai b1 l1)=T∧(Ai b1 l1++r).length≤1000000∧l1.length≤l.length∧Below w.heap.size w wr) (fun s0 _ _=>match s0 with| .string s=>s.size|_=>0)
 case atStart=>exact⟨b0,l,0,rfl,rfl,HGP.out,by rw[HTT.out];omega,HZ.out,Nat.le_refl _,Below.refl _ _⟩
 case round=>
  obtain⟨b1,l1,n,rfl,rfl,hg1,hn,hz1,hll,hb⟩:=hrel;have HL1:=Za (HL.out.old hb);have HB:=Za hb;have HG1:=Za hg1;have nI:(n:Int)≤1000000:=by omega
  have nJ:(0:Int)≤(n:Int):=by omega
  have HN:=Za hn
  cases l1 with
  |nil=>
   have e1:Ai b1 []=b1:=by simp [Ai]
   rw[e1]at hn hz1 ⊢;have HN:=Za hn;have HR1:=Za (fun w1=>Yp b1 r (fun c hc=>Pz (hg1.blank c hc)) HR.out w1);have HX1:=Za (Ij b1 r);have hl1:(b1.length:Int)≤((b1++r).length:Int):=by rw[Zc];omega
   have hl2:b1.length≤(b1++r).length:=by rw[Zc];omega
   have HZ1:=Za hz1;clear hg1 hb hn hz1 e1;go_wp2_with fail
   refine(HR1.out _).mono ?_;rintro e w1 ⟨rfl,hb1⟩;have HB1:=Za (HB.out.trans (hb1.mono HB.out.size));have HL2:=Za (HL1.out.old hb1);clear hb1;go_wp2_with fail
   rw[HX1.out];refine(Tryz.strings_Count_one (Aa b1) 10 w1).mono ?_;rintro e w2 ⟨he,hw2⟩;have he2:e= .returned (.int .i64 (Cf b1:Int)):=he;subst he2;obtain rfl:w1=w2:=hw2.symm;clear he;have fI:(n:Int)+(Cf b1:Int)≤1000000:=by have:=HN.out;omega
   have fJ:(0:Int)≤(Cf b1:Int):=by omega
   go_wp2_with fail
   have hxd:=Ml b1 r _ rfl
   first|rw[hxd]|(simp only[Zc]at hxd;rw[hxd])
   clear hxd;refine(Tryz.strings_HasPrefix (Aa (r)) (Aa [47,47]) w1).mono ?_;rintro e w2 ⟨he,hw2⟩;have he2:e= .returned (.bool false):=by rw[he];show Ending.returned (.bool (Zb r [47,47]))=_;rw[HP.out]
   subst he2;obtain rfl:w1=w2:=hw2.symm;clear he;go_wp2_with fail
   go_ret3
   exact⟨by rw[show(T:Int)=(n:Int)+(Cf b1:Int)from by have:=HN.out;omega];rfl,HB1.out⟩
  |cons p l1=>
   obtain⟨c,b2⟩:=p;obtain⟨hco,hb2,b3,hb3⟩:=hg1.comm _ Zg;have hb3:b2=10::b3:=hb3;have hco:qN c:=hco;obtain⟨c3,hc3⟩:=hco.pre;have e1:=gap_len b1 c b2 l1;have e2:Ai b1 ((c,b2)::l1)++r=b1++(c++(Ai b2 l1++r)):=by rw[e1];simp
   rw[e2]at hz1 ⊢;have hfe:Cf (Ai b1 ((c,b2)::l1))=Cf b1+Cf (Ai b2 l1):=by rw[e1,Yf,Yf,pL c hco.nofeed];omega
   rw[hfe]at hn;have hg2:Nw b2 l1:=⟨hb2,fun p hp=>hg1.comm p (Zi _ hp)⟩;have hes:Hl Jf (c++(Ai b2 l1++r)):= .inr ⟨47,47::(c3++(Ai b2 l1++r)),by rw[hc3];rfl,by decide,by decide⟩;have hcut:Lib.cut (c++(Ai b2 l1++r)) [10]=(c,(Ai b2 l1++r).drop 1,true):=by
    have:Ai b2 l1++r=10::(b3++(l1.flatMap (fun p=>p.1++p.2)++r)):=by unfold Ai;rw[hb3];simp
    rw[this,cut_at c _ hco.nofeed];rfl
   have hpre:Zb (c++(Ai b2 l1++r)) [47,47]=true:=by rw[hc3];simp [Zb]
   have HPR:=Za hpre;have hz2:(c++(Ai b2 l1++r)).length≤1000000:=by rw[Zc]at hz1;omega
   have HCM:=Za (fun w1 h=>eR c (Ai b2 l1++r) hcut hco.valid hco.mark hz2 w1 h);have HR1:=Za (fun w1=>Yp b1 (c++(Ai b2 l1++r)) (fun x hx=>Pz (hg1.blank x hx)) hes w1);have HX1:=Za (Ij b1 (c++(Ai b2 l1++r)));have hl1:(b1.length:Int)≤((b1++(c++(Ai b2 l1++r))).length:Int):=by rw[Zc];omega
   have hl2:b1.length≤(b1++(c++(Ai b2 l1++r))).length:=by rw[Zc];omega
   have hl3:(c.length:Int)≤((c++(Ai b2 l1++r)).length:Int):=by rw[Zc];omega
   have hl4:c.length≤(c++(Ai b2 l1++r)).length:=by rw[Zc];omega
   have HG2:=Za hg2;have HN2:=Za hn;have HZ2:Hid ((Ai b2 l1++r).length≤1000000):=by show _≤_;rw[Zc]at hz2;omega
   have HME:Hid ((Ai b2 l1++r).length<(b1++(c++(Ai b2 l1++r))).length):=by
    show _<_;rw[hc3];simp only[Zc,List.length_cons];omega
   have HLL:Hid (l1.length≤l.length):=by show _≤_;rw[List.length_cons]at hll;omega
   clear hg1 hb hn hz1 e1 e2 hfe hg2 hes hcut hpre hz2 hco hb2 hb3 hc3 hll HN;have HX2:=Za (Ml b1 (c++(Ai b2 l1++r)));have HX3:=Za (Ml c (Ai b2 l1++r));have HREL:=Za (show ∃q,Ai b2 l1++r=q from⟨_,rfl⟩);obtain⟨q,hq⟩:=HREL.out;have HQ:=Za hq;clear HREL;rw[hq]at HX2 HX3 HX1 HPR HCM HR1 hl1 hl2 hl3 hl4 HZ2 HME ⊢;clear hq;obtain⟨u,hu⟩:∃u,c++q=u:=⟨_,rfl⟩;rw[hu]at HX2 HX3 HX1 HPR HCM HR1 hl1 hl2 hl3 hl4 HME ⊢;clear hu;go_wp2_with fail
   refine(HR1.out _).mono ?_;rintro e w1 ⟨rfl,hb1⟩;have HB1:=Za (HB.out.trans (hb1.mono HB.out.size));have HL2:=Za (HL1.out.old hb1);clear hb1;go_wp2_with fail
   rw[HX1.out];refine(Tryz.strings_Count_one (Aa b1) 10 w1).mono ?_;rintro e w2 ⟨he,hw2⟩;have he2:e= .returned (.int .i64 (Cf b1:Int)):=he;subst he2;obtain rfl:w1=w2:=hw2.symm;clear he;have fI:(n:Int)+(Cf b1:Int)≤1000000:=by have:=HN2.out;omega
   have fJ:(0:Int)≤(Cf b1:Int):=by omega
   go_wp2_with fail
   have hxd:=HX2.out _ rfl
   first|rw[hxd]|(simp only[Zc]at hxd;rw[hxd])
   clear hxd;refine(Tryz.strings_HasPrefix (Aa u) (Aa [47,47]) w1).mono ?_;rintro e w2 ⟨he,hw2⟩;have he2:e= .returned (.bool true):=by rw[he];show Ending.returned (.bool (Zb u [47,47]))=_;rw[HPR.out]
   subst he2;obtain rfl:w1=w2:=hw2.symm;clear he;go_wp2_with fail
   refine(HCM.out _ HL2.out).mono ?_;rintro e w2 ⟨rfl,hb2⟩;have HB2:=Za (HB1.out.trans (hb2.mono HB1.out.size));clear hb2;go_wp2_with fail
   have hxd:=HX3.out _ rfl
   first|rw[hxd]|(simp only[Zc]at hxd;rw[hxd])
   clear hxd;go_roundw
   case rel=>exact⟨b2,l1,n+Cf b1,by rw[HQ.out],by go_num,HG2.out,by have:=HN2.out;omega,by rw[HQ.out];exact HZ2.out,HLL.out,HB2.out⟩
   case measure=>exact HME.out
theorem ext_one(a:UInt8)(b:Bs)(n:Nat)(hn:n=(a::b).length):(Aa (a::b)).extract 1 n=Aa b:=Ml [a] b n hn
theorem rQ(a:UInt8)(b c:Bs)(m n:Nat)(hm:m=1+b.length)(hn:n=(a::(b++c)).length):(Aa (a::(b++c))).extract m n=Aa c:=by
 have:m=(a::b).length:=by rw[hm,List.length_cons];omega
 rw[this];exact Ml (a::b) c n hn
theorem sT(a z:UInt8)(b c:Bs)(m:Nat)(hm:m=b.length+2):(Aa (a::(b++z::c))).extract 0 m=Aa (a::(b++[z])):=by
 subst hm;have h:=Ij (a::(b++[z])) c;simpa using h
theorem iI(r:Nat)(x rest:Bs)(hr1:32≤r)(hr2:r≠39)(hr3:r≠92)(hr4:r≠65533)(hr5:r≤1114111)(hx:x.length≤4)(hd:Lib.decodeGo (Aa (x++39::rest))=(r,x.length))(hz:(39::(x++39::rest)).length≤1000000)(w:World)(hl:Io w):
  Calls Zd 93 #[.string (Aa (39::(x++39::rest)))] w fun e w'=>e= .returned (.tuple #[Gu 3 (39::(x++[39])) r 0,.bool true])∧Below w.heap.size w w':=by
 have q1:((r:Int)==39)=false:=by rw[beq_eq_false_iff_ne];omega
 have q2:((r:Int)==92)=false:=by rw[beq_eq_false_iff_ne];omega
 have q3:((r:Int)==65533)=false:=by rw[beq_eq_false_iff_ne];omega
 have q4:(32:Int)≤(r:Int):=by omega
 have q6:¬((r:Int)<32):=by omega
 have q7:decide ((r:Int)<32)=false:=decide_eq_false q6;have q5:(r:Int)≤1114111:=by omega
 have xI:(x.length:Int)≤4:=by omega
 have xJ:(0:Int)≤(x.length:Int):=by omega
 have hL:(39::(x++39::rest)).length=x.length+2+rest.length:=by simp;omega
 have HX1:=Za (ext_one 39 (x++39::rest));have HX2:=Za (rQ 39 x (39::rest));have HX3:=Za (sT 39 39 x rest);have HP:=Za (show Zb (39::rest) [39]=true by simp [Zb]);have HD:=Za hd;have HL:=Za hl;have HZ:=Za hz;have HLE:=Za hL;have HO:=Za (Ae.new w [.int .i64 0,.string ⟨#[]⟩,.int .i64 0,.int .i64 0] 50);have HB0:=Za ((Below.refl w.heap.size w).alloc (Nat.le_refl _) (.cells #[.int .i64 0,.string ⟨#[]⟩,.int .i64 0,.int .i64 0] 50));have l1:x.length+2≤(39::(x++39::rest)).length:=by omega
 have l2:(x.length:Int)+2≤((39::(x++39::rest)).length:Int):=by omega
 have l3:1≤(39::(x++39::rest)).length:=by omega
 have l4:(1:Int)≤((39::(x++39::rest)).length:Int):=by omega
 clear hd hl hz hL hr2 hr3 hr4;obtain⟨s,hs⟩:∃s,39::(x++39::rest)=s:=⟨_,rfl⟩;obtain⟨u,hu⟩:∃u,x++39::rest=u:=⟨_,rfl⟩;obtain⟨v,hv⟩:∃v,(39::rest:Bs)=v:=⟨_,rfl⟩;obtain⟨k,hk⟩:∃k,(39::(x++[39]):Bs)=k:=⟨_,rfl⟩;rw[hs]at HX1 HX2 HX3 HZ HLE l1 l2 l3 l4 ⊢;rw[hu]at HX1 HD;rw[hv]at HX2 HP;rw[hk]at HX3 ⊢;clear hs hu hv hk;go_enter Tryz.func93,Tryz.ntmps93
 go_wp2_with fail
 rw[HX1.out _ rfl];refine(Tryz.utf8_DecodeRuneInString (Aa u) _ (HL.out.old HB0.out).utf).mono ?_;rw[HD.out];rintro e w1 ⟨rfl,hb1⟩;have HO1:=Za (HO.out.old hb1);have HB1:=Za (HB0.out.trans (hb1.mono HB0.out.size));clear hb1;go_wp2_with fail
 rw[HX2.out _ _ rfl rfl];refine(Tryz.strings_HasPrefix (Aa v) (Aa [39]) w1).mono ?_;rintro e w2 ⟨he,hw2⟩;have he2:e= .returned (.bool true):=by rw[he];show Ending.returned (.bool (Zb v [39]))=_;rw[HP.out]
 subst he2;obtain rfl:w1=w2:=hw2.symm;clear he;have g0:=HO1.out.at 0 _ rfl;have f0:=HO1.out.fz 0;have g1:=HO1.out.at 1 _ rfl;have f1:=HO1.out.fz 1;have g2:=HO1.out.at 2 _ rfl;have f2:=HO1.out.fz 2;have g3:=HO1.out.at 3 _ rfl;have f3:=HO1.out.fz 3;have gl:=HO1.out.lt;have hx3:=HX3.out _ rfl;go_wp2_with fail
 have HS:=Za ((((HO1.out.set 0 (.int .i64 3)).set 1 (.string (Aa k))).set 2 (.int .i64 r)).set 3 (.int .i64 0));have e0:=HS.out.at 0 _ rfl;have e1:=HS.out.at 1 _ rfl;have e2:=HS.out.at 2 _ rfl;have e3:=HS.out.at 3 _ rfl;exact bodyPost_ret (v:= .tuple #[Gu 3 k r 0,.bool true]) (by simp [results,Tryz.results93,go_sem,Gu,e0,e1,e2,e3]) rfl ⟨rfl,fT w _ HB1.out _ _ _ _⟩
inductive Ks:Bs→Int→Int→Prop
 |name (x:Bs) (hx:Aq x=true) (hk:Ig x=false) (c:UInt8) (t:Bs) (hc:x=c::t) (hl:Cl c=true) (ha:∀c,c∈x→c.toNat<128∧Ko (c.toNat:Nat)=true):Ks x 1 0
 |word (x:Bs) (hk:Ig x=true) (c:UInt8) (t:Bs) (hc:x=c::t) (hl:Cl c=true) (ha:∀c,c∈x→c.toNat<128∧Ko (c.toNat:Nat)=true):Ks x 2 0
 |num (u:Nat) (hu:(Lib.decDigits u).length≤19) (hi:u≤9223372036854775807) (c:UInt8) (t:Bs) (hc:Lib.decDigits u=c::t) (hd:Cx c=true):Ks (Lib.decDigits u) 3 u
 |quote (r:Nat) (x:Bs) (hr1:32≤r) (hr2:r≠39) (hr3:r≠92) (hr4:r≠65533) (hr5:r≤1114111) (hx:x.length≤4) (hd:∀rest,Lib.decodeGo (Aa (x++39::rest))=(r,x.length)):Ks (39::(x++[39])) 3 r
 |sign (x:Bs) (hs:Lo x=true) (c:UInt8) (t:Bs) (hc:x=c::t) (h7:c.toNat<128) (hn:Cl c=false∧Cx c=false∧c≠39):Ks x 4 0
theorem Iy {c:UInt8}(h:Cl c=true):c.toNat<128:=by
 simp [Cl,UInt8.le_iff_toNat_le]at h
 by_cases e:c=95
 ·rw[e];decide
 ·simp only[e,false_or,or_false]at h
  omega
theorem Ob {c:UInt8}(h:Cx c=true):c.toNat<128:=by
 simp [Cx,UInt8.le_iff_toNat_le]at h;omega
theorem nG {x:Bs}{k n:Int}(h:Ks x k n)(b:UInt8)(r:Bs)(hb:Fe b=true)(hz:(x++b::r).length≤1000000)(w:World)(hl:Io w):
  Calls Zd 41 #[.string (Aa (x++b::r))] w fun e w'=>e= .returned (.tuple #[Gu k x n 0,.bool true])∧Below w.heap.size w w':=by
 have hbl:=Pz hb;have hbc:b=32∨b=9∨b=10∨b=13:=by
  simp only[Fe,Bool.or_eq_true,beq_iff_eq]at hb;rcases hb with((h|h)|h)|h<;>simp [h]
 have hw:Hl Ko (b::r):= .inr ⟨b,r,rfl,hbl.1,by rcases hbc with rfl|rfl|rfl|rfl<;>decide⟩;have hd:Hl Fh (b::r):= .inr ⟨b,r,rfl,hbl.1,by rcases hbc with rfl|rfl|rfl|rfl<;>decide⟩
 cases h with
 |name x hx hk c t hc hll ha=>
  have hT:=fun w1 (_:Below w.heap.size w w1)=>aN x (b::r) ha hw hk hx w1
  rw[hc]at hT ⊢;exact Nd c (t++b::r) hll (Iy hll) 1 (c::t) 0 w hT
 |word x hk c t hc hll ha=>
  have hT:=fun w1 (_:Below w.heap.size w w1)=>Zz x (b::r) ha hw hk w1
  rw[hc]at hT ⊢;exact Nd c (t++b::r) hll (Iy hll) 2 (c::t) 0 w hT
 |num u hu hi c t hc hdd=>
  have hT:=fun w1 (hb1:Below w.heap.size w w1)=>Tu u (b::r) hu hi hd w1 (hl.old hb1).lt (hl.old hb1).pow
  rw[hc]at hT ⊢;exact Sd c (t++b::r) hdd (Ob hdd) 3 (c::t) u w hT
 |quote q y hr1 hr2 hr3 hr4 hr5 hx hdq=>
  have e:39::(y++[39])++b::r=39::(y++39::(b::r)):=by simp
  rw[e]at hz ⊢;exact cS 39 (y++39::(b::r)) rfl (by decide) 3 (39::(y++[39])) q w (fun w1 hb1=>iI q y (b::r) hr1 hr2 hr3 hr4 hr5 hx (hdq _) hz w1 (hl.old hb1))
 |sign x hs c t hc h7 hn=>
  have hT:=fun w1 (_:Below w.heap.size w w1)=>Sr x (b::r) hs (fun _=>⟨b,r,rfl,by rcases hbc with rfl|rfl|rfl|rfl<;>decide,by rcases hbc with rfl|rfl|rfl|rfl<;>decide,by rcases hbc with rfl|rfl|rfl|rfl<;>decide⟩) w1
  rw[hc]at hT ⊢;exact Na c (t++b::r) hn h7 4 (c::t) 0 w hT
structure It where
 x:Bs
 k:Int
 n:Int
 b:Bs
 l:List (Bs ×Bs)
def It.gap(i:It):Bs:=Ai i.b i.l
structure ItOk (i:It):Prop where
 tok:Ks i.x i.k i.n
 gap:Nw i.b i.l
 head:∃c t,i.b=c::t
def Cn(l:List It):Bs:=l.flatMap (fun i=>i.x++i.gap)
def Pl(line:Nat):List It→List Tk
 |[]=>[]
 |i::l=>⟨i.k,i.x,i.n,line⟩::Pl (line+Cf i.gap) l
theorem Oo(i:It)(l:List It):Cn (i::l)=i.x++(i.gap++Cn l):=by
 unfold Cn;simp
theorem fU(line:Nat)(l:List It):(Pl line l).length=l.length:=by
 induction l generalizing line with
 |nil=>rfl
 |cons i l ih=>simp [Pl,ih]
theorem ItOk.blank {i:It}(h:ItOk i)(r:Bs):∃c t,i.gap++r=c::t∧Fe c=true:=by
 obtain⟨c,t,e⟩:=h.head;refine⟨c,t++(i.l.flatMap (fun p=>p.1++p.2)++r),?_,h.gap.blank c (by rw[e];exact Zg)⟩;unfold It.gap Ai;rw[e];simp
theorem rJ(c:UInt8)(h:c.toNat≠32∧c.toNat≠9∧c.toNat≠10∧c.toNat≠13):Jf (c.toNat:Nat)=false:=by
 obtain⟨h1,h2,h3,h4⟩:=h;unfold Jf;have g1:((c.toNat:Int)==32)=false:=by rw[beq_eq_false_iff_ne];omega
 have g2:((c.toNat:Int)==9)=false:=by rw[beq_eq_false_iff_ne];omega
 have g3:((c.toNat:Int)==10)=false:=by rw[beq_eq_false_iff_ne];omega
 have g4:((c.toNat:Int)==13)=false:=by rw[beq_eq_false_iff_ne];omega
 simp [g1,g2,g3,g4]
 try omega
theorem Sp {c:UInt8}(h:Cl c=true):65≤c.toNat:=by
 simp [Cl,UInt8.le_iff_toNat_le]at h
 by_cases e:c=95
 ·rw[e];decide
 ·simp only[e,false_or,or_false]at h
  omega
theorem fR {c:UInt8}(h:Cx c=true):48≤c.toNat:=by
 simp [Cx,UInt8.le_iff_toNat_le]at h;omega
theorem Qm {c:UInt8}{t:Bs}(h7:c.toNat<128)(h:c.toNat≠32∧c.toNat≠9∧c.toNat≠10∧c.toNat≠13):Hl Jf (c::t):= .inr ⟨c,t,rfl,h7,rJ c h⟩
theorem Ks.ends {x:Bs}{k n:Int}(h:Ks x k n)(r:Bs):Hl Jf (x++r):=by
 cases h with
 |name x hx hk c t hc hl ha=>rw[hc];have:=Sp hl;exact Qm (Iy hl) (by omega)
 |word x hk c t hc hl ha=>rw[hc];have:=Sp hl;exact Qm (Iy hl) (by omega)
 |num u hu hi c t hc hd=>rw[hc];have:=fR hd;exact Qm (Ob hd) (by omega)
 |quote q y=>exact Qm (c:=39) (t:=y++[39]++r) (by decide) (by decide)
 |sign x hs c t hc h7 hn=>
  rcases Hf hs with rfl|rfl|rfl|rfl|rfl|rfl|rfl|rfl|rfl|rfl|rfl|rfl|rfl|rfl|rfl|rfl|rfl|rfl|rfl|rfl|rfl|rfl|rfl|rfl|rfl|rfl|rfl<;>(rw[Ze];exact Qm (by decide) (by decide))
theorem Ks.noComment {x:Bs}{k n:Int}(h:Ks x k n)(b:UInt8)(hb:Fe b=true)(r:Bs):Zb (x++b::r) [47,47]=false:=by
 have hne:b≠47:=by rintro rfl;simp [Fe]at hb
 have key:∀(c:UInt8) (t:Bs),c≠47→Zb (c::t) [47,47]=false:=fun c t hc=>by
  have h1:((47:UInt8)==c)=false:=by rw[beq_eq_false_iff_ne];exact fun e=>hc e.symm
  show([47,47]:List UInt8).isPrefixOf (c::t)=false
  rw[Zf,h1];rfl
 have key2:∀(t:Bs),Zb (47::b::t) [47,47]=false:=fun t=>by
  have h1:((47:UInt8)==b)=false:=by rw[beq_eq_false_iff_ne];exact fun e=>hne e.symm
  show([47,47]:List UInt8).isPrefixOf (47::b::t)=false
  rw[Zf,Zf,h1];rfl
 cases h with
 |name x hx hk c t hc hl ha=>rw[hc,Ze];exact key _ _ (by rintro rfl;simp [Cl]at hl)
 |word x hk c t hc hl ha=>rw[hc,Ze];exact key _ _ (by rintro rfl;simp [Cl]at hl)
 |num u hu hi c t hc hd=>rw[hc,Ze];exact key _ _ (by rintro rfl;simp [Cx]at hd)
 |quote q y=>exact key 39 (y++[39]++b::r) (by decide)
 |sign x hs c t hc h7 hn=>
  rcases Hf hs with rfl|rfl|rfl|rfl|rfl|rfl|rfl|rfl|rfl|rfl|rfl|rfl|rfl|rfl|rfl|rfl|rfl|rfl|rfl|rfl|rfl|rfl|rfl|rfl|rfl|rfl|rfl<;>first|(rw[Ze];exact key _ _ (by decide))|exact key2 r
theorem Mn {w w':World}{base size n:Nat}{e:TypeId}{v:Value}{xs:List Value}(h:w.ownsRow base e size v n xs)(hb:Below w.heap.size w w'):w'.ownsRow base e size v n xs:=by
 refine⟨h.1,?_⟩;rcases h.2 with hn|⟨g,cap,cur,rfl,hg,hh,r⟩
 ·exact .inl hn
 ·refine .inr ⟨g,cap,cur,rfl,hg,?_,r⟩
  rw[hb.block g (by
   rcases Nat.lt_or_ge g w.heap.size with h'|h'
   ·exact h'
   ·simp [Array.getElem?_eq_none h']at hh)]
  exact hh
theorem Oj {w:World}{base size n:Nat}{e:TypeId}{v:Value}{xs:List Value}(h:w.ownsRow base e size v n xs){k:Nat}(hk:v.ownBlock≠some k)(i:Nat)(x:Value):(w.setCell ⟨k,i,none⟩ x).ownsRow base e size v n xs:=by
 refine⟨h.1,?_⟩;rcases h.2 with hn|⟨g,cap,cur,rfl,hg,hh,r⟩
 ·exact .inl hn
 ·refine .inr ⟨g,cap,cur,rfl,hg,?_,r⟩
  rw[Below.heap_setCell _ _ _ _ (by rintro rfl;exact hk rfl)];exact hh
theorem gG {w:World}{base size n:Nat}{e:TypeId}{v:Value}{xs:List Value}(h:w.ownsRow base e size v n xs):(v= .slice none 0 0∧n=0)∨∃g cap,v= .slice (some ⟨g,0,none⟩) n cap:=by
 rcases h.2 with h'|⟨g,cap,cur,rfl,_⟩
 ·exact .inl h'
 ·exact .inr ⟨g,cap,rfl⟩
theorem iK {w:World}{base size n:Nat}{e:TypeId}{v:Value}{xs:List Value}(h:w.ownsRow base e size v n xs):∃a cap,v= .slice a n cap:=by
 rcases gG h with⟨rfl,rfl⟩|⟨g,cap,rfl⟩
 ·exact⟨none,0,rfl⟩
 ·exact⟨_,_,rfl⟩
theorem Ug {B:Nat}{a w w':World}(h:Below B a w){row:Option Nat}(hg:w.grownBy w' row)(hr:∀k,row=some k→B≤k)(hB:B≤w.heap.size):Below B a w':=
 ⟨hg.os.trans h.os,hg.tape.trans h.tape,hg.output.trans h.output,Nat.le_trans h.size hg.size,fun k hk=>(hg.block k (Nat.lt_of_lt_of_le hk hB) (fun e=>by have:=hr k e.symm;omega)).trans (h.block k hk)⟩
theorem Gr {B:Nat}{a w:World}(h:Below B a w){k:Nat}(hk:B≤k)(i:Nat)(v:Value):Below B a (w.setCell ⟨k,i,none⟩ v):=h.setCell (p:=⟨k,i,none⟩) hk v
theorem Ae.grow {w w':World}{b:Nat}{cs:List Value}{T:TypeId}(h:Ae w b cs T){row:Option Nat}(hg:w.grownBy w' row)(hr:row≠some b):Ae w' b cs T:=(hg.block b h.lt (fun e=>hr e.symm)).trans h
theorem Ae.news {w:World}{b:Nat}{cs:List Value}{T:TypeId}(h:Ae w b cs T):∀j u,cs[j]? =some u→w.cell? ((⟨b,0,none⟩:Addr).add j)=some u:=by
 intro j u hu;have h2:(⟨b,0,none⟩:Addr).add j=⟨b,j,none⟩:=by unfold Addr.add;split<;>simp_all
 rw[h2];exact h.at j u hu
def gV(w:World)(l:List Int)(v:Value):Prop:=
 ∃a cap b off,v= .slice a l.length cap∧(l.length=0∨a=some ⟨b,off,none⟩)∧l.length≤9223372036854775807∧
  ∀i,i<l.length→w.cell? ⟨b,off+i,none⟩=some (.int .i64 (l.getD i 0))∧I64 (l.getD i 0)
theorem gV.old {w w':World}{l:List Int}{v:Value}(h:gV w l v)(hb:Below w.heap.size w w'):gV w' l v:=by
 obtain⟨a,cap,b,off,h1,h2,h3,h4⟩:=h;exact⟨a,cap,b,off,h1,h2,h3,fun i hi=>⟨Ad hb (h4 i hi).1,(h4 i hi).2⟩⟩
theorem gV.slice {w:World}{l:List Int}{v:Value}(h:gV w l v):∃a cap,v= .slice a l.length cap:=by
 obtain⟨a,cap,b,off,h1,_⟩:=h;exact⟨a,cap,h1⟩
theorem gV.at {w:World}{l:List Int}{a:Option Addr}{n cap:Nat}(h:gV w l (.slice a n cap))(i:Nat)(hi:i<l.length):∃b off,a=some ⟨b,off,none⟩∧b<w.heap.size∧w.cell? ⟨b,off+i,none⟩=some (.int .i64 (l.getD i 0))∧I64 (l.getD i 0):=by
 obtain⟨a',cap',b,off,h1,h2,h3,h4⟩:=h
 cases h1
 rcases h2 with h2|h2
 ·omega
 ·exact⟨b,off,h2,World.block_lt_of_cell? _ _ (h4 i hi).1,(h4 i hi).1,(h4 i hi).2⟩
def Xe(w:World)(l:List (Int ×Int))(v:Value):Prop:=
 ∃a cap b off,v= .slice a l.length cap∧(l.length=0∨a=some ⟨b,off,none⟩)∧l.length≤9223372036854775807∧
  ∀i,i<l.length→w.cell? ⟨b,off+i*2,none⟩=some (.int .i64 (l.getD i (0,0)).1)∧w.cell? ⟨b,off+i*2+1,none⟩=some (.int .i64 (l.getD i (0,0)).2)∧I64 (l.getD i (0,0)).1∧I64 (l.getD i (0,0)).2
theorem Xe.old {w w':World}{l:List (Int ×Int)}{v:Value}(h:Xe w l v)(hb:Below w.heap.size w w'):Xe w' l v:=by
 obtain⟨a,cap,b,off,h1,h2,h3,h4⟩:=h;exact⟨a,cap,b,off,h1,h2,h3,fun i hi=>⟨Ad hb (h4 i hi).1,Ad hb (h4 i hi).2.1,(h4 i hi).2.2⟩⟩
theorem Xe.slice {w:World}{l:List (Int ×Int)}{v:Value}(h:Xe w l v):∃a cap,v= .slice a l.length cap:=by
 obtain⟨a,cap,b,off,h1,_⟩:=h;exact⟨a,cap,h1⟩
theorem Xe.at {w:World}{l:List (Int ×Int)}{a:Option Addr}{n cap:Nat}(h:Xe w l (.slice a n cap))(i:Nat)(hi:i<l.length):∃b off,a=some ⟨b,off,none⟩∧b<w.heap.size∧w.cell? ⟨b,off+i*2,none⟩=some (.int .i64 (l.getD i (0,0)).1)∧w.cell? ⟨b,off+i*2+1,none⟩=some (.int .i64 (l.getD i (0,0)).2)∧I64 (l.getD i (0,0)).1∧I64 (l.getD i (0,0)).2:=by
 obtain⟨a',cap',b,off,h1,h2,h3,h4⟩:=h
 cases h1
 rcases h2 with h2|h2
 ·omega
 ·exact⟨b,off,h2,World.block_lt_of_cell? _ _ (h4 i hi).1,h4 i hi⟩
structure sA (x:Bs)(k n:Int)(rest:Bs):Prop where
 ends:Hl Jf (x++rest)
 nocomm:Zb (x++rest) [47,47]=false
 ne:x≠[]
 call:∀w,(x++rest).length≤1000000→Io w→Calls Zd 41 #[.string (Aa (x++rest))] w fun e w'=>e= .returned (.tuple #[Gu k x n 0,.bool true])∧Below w.heap.size w w'
theorem Ks.ne {x:Bs}{k n:Int}(h:Ks x k n):x≠[]:=by
 cases h with
 |name x hx hk c t hc hl ha=>rw[hc];exact Zh _ _
 |word x hk c t hc hl ha=>rw[hc];exact Zh _ _
 |num u hu hi c t hc hd=>rw[hc];exact Zh _ _
 |quote q y=>exact Zh _ _
 |sign x hs c t hc h7 hn=>rw[hc];exact Zh _ _
theorem Ks.at {x:Bs}{k n:Int}(h:Ks x k n)(b:UInt8)(r:Bs)(hb:Fe b=true):sA x k n (b::r):=
 ⟨h.ends _,h.noComment b hb r,h.ne,fun w hz hl=>nG h b r hb hz w hl⟩
def Mo(z:Bs):List It→Prop
 |[]=>True
 |i::l=>sA i.x i.k i.n (i.gap++(Cn l++z))∧Nw i.b i.l∧Mo z l
theorem Mo.of(z:Bs):∀(l:List It),(∀i,i∈l→ItOk i)→Mo z l
 |[],_=>trivial
 |i::l,h=>by
  have hi:=h i Zg;obtain⟨c,t,e,hc⟩:=hi.blank (Cn l++z);refine⟨?_,hi.gap,Mo.of z l (fun j hj=>h j (Zi _ hj))⟩;rw[e];exact hi.tok.at c t hc
def dE(line:Nat):List It→Nat
 |[]=>line
 |i::l=>dE (line+Cf i.gap) l
structure gR (ok:Bool)(z:Bs):Prop where
 ends:Hl Jf z
 nocomm:Zb z [47,47]=false
 nil:ok=true→z=[]
 bad:ok=false→z≠[]∧∀w,Io w→Calls Zd 41 #[.string (Aa z)] w fun e w'=>e= .returned (.tuple #[Gu 0 [] 0 0,.bool false])∧Below w.heap.size w w'
theorem Mo.front {ok:Bool}{z:Bs}(hz:gR ok z){l:List It}(h:Mo z l):Hl Jf (Cn l++z)∧Zb (Cn l++z) [47,47]=false:=by
 cases l with
 |nil=>exact⟨hz.ends,hz.nocomm⟩
 |cons i l=>
  have e:Cn (i::l)++z=i.x++(i.gap++(Cn l++z)):=by rw[Oo];simp
  rw[e];exact⟨h.1.ends,h.1.nocomm⟩
def oZ(ok:Bool)(w:World)(L:List Tk)(line:Nat)(e:Ending)(w':World):Prop:=
 Below w.heap.size w w'∧(if ok=true then ∃v,e= .returned (.tuple #[v,.int .i64 0,.int .i64 0])∧Hr w' w.heap.size (L++[⟨5,[],0,line⟩]) v else e= .returned (.tuple #[.slice none 0 0,.int .i64 20,.int .i64 line]))
theorem pR(l:Bs):Cf l≤l.length:=List.count_le_length
theorem rC(ok:Bool)(z:Bs)(hz:gR ok z)(b0:Bs)(l0:List (Bs ×Bs))(hg:Nw b0 l0)(li0:List It)(hi:Mo z li0)(hlen:(Ai b0 l0++(Cn li0++z)).length≤20000)(w:World)(hl:Io w):
  Calls Zd 20 #[.string (Aa (Ai b0 l0++(Cn li0++z)))] w (oZ ok w (Pl (1+Cf (Ai b0 l0)) li0) (dE (1+Cf (Ai b0 l0)) li0)):=by
 obtain⟨ALL,hall⟩:∃A,Pl (1+Cf (Ai b0 l0)) li0=A:=⟨_,rfl⟩;obtain⟨END,hend⟩:∃A,dE (1+Cf (Ai b0 l0)) li0=A:=⟨_,rfl⟩;rw[hall,hend];obtain⟨q,hq⟩:∃q,Ai b0 l0++(Cn li0++z)=q:=⟨_,rfl⟩;rw[hq]at hlen ⊢;have HQ:=Za hq;have HZ:=Za hz;have HG:=Za hg;have HI:=Za hi;have HL:=Za hl;have HALL:=Za hall;have HEND:=Za hend;have hlenI:(q.length:Int)≤20000:=by omega
 obtain⟨i0,hi0,hz0,hz1,hz2⟩:=info_parts infoTk;have HI0:=Za hi0;have HZ0:=Za hz0;have HZ1:=Za hz1;have HZ2:=Za hz2;clear hi0 hz0 hz1 hz2 hq hz hg hi hl hall hend;go_enter Tryz.func20,Tryz.ntmps20
 go_wp2_with fail
 go_loopw [0,2,5] (fun s0 s2 s5 wr=> ∃(b1:Bs) (l1:List (Bs ×Bs)) (n:Nat) (li:List It) (done:List Tk) (q1:Bs),s0= .string (Aa q1)∧s5= .int .i64 n∧q1=Ai b1 l1++(Cn li++z)∧Hr wr w.heap.size done s2∧Nw b1 l1∧Mo z li∧done++Pl (n+Cf (Ai b1 l1)) li=ALL∧dE (n+Cf (Ai b1 l1)) li=END∧done.length+q1.length≤20000∧n+q1.length≤20001∧Below w.heap.size w wr) (fun s0 _ _ _=>match s0 with| .string s=>s.size|_=>0)
 case atStart=>exact⟨b0,l0,1,li0,[],q,rfl,rfl,HQ.out.symm,Hr.zero _ _,HG.out,HI.out,HALL.out,HEND.out,by simpa using hlen,by omega,Below.refl _ _⟩
 case round=>
  obtain⟨b1,l1,n,li,done,q1,rfl,rfl,hq1,hown,hg1,hi1,hall,hend,hdl,hnl,hb⟩:=hrel;obtain⟨oa,oc,rfl⟩:=iK hown;have HL1:=Za (HL.out.old hb);have HB:=Za hb;obtain⟨f1,f2⟩:=hi1.front HZ.out;have HSK:Hid (∀w1,Io w1→Calls Zd 40 #[.string (Aa q1)] w1 fun e w'=>e= .returned (.tuple #[.string (Aa (Cn li++z)),.int .i64 (Cf (Ai b1 l1)),.bool true])∧Below w1.heap.size w1 w'):=by
   intro w1 h1;rw[hq1];exact pV b1 l1 (Cn li++z) hg1 f1 f2 (by rw[←hq1];omega) w1 h1
  have hfe:Cf (Ai b1 l1)+(Cn li++z).length≤q1.length:=by
   have:=pR (Ai b1 l1);have e:=congrArg List.length hq1;rw[Zc]at e;omega
  have HOWN:=Za hown;have HOB:Hid (∀k,(Value.slice oa done.length oc).ownBlock=some k→w.heap.size≤k∧k<wr.heap.size):=fun k e=>hown.ge e
  clear f1 f2 hq1 hown hg1 hb;obtain⟨F,hF⟩:∃F,Cf (Ai b1 l1)=F:=⟨_,rfl⟩;rw[hF]at HSK hfe hall hend;clear hF;have nI:(n:Int)+(F:Int)≤1000000:=by omega
  have nJ:(0:Int)≤(n:Int)+(F:Int):=by omega
  have hN:(n:Int)+(F:Int)=((n+F:Nat):Int):=by omega
  have HN:=Za hN;clear hN
  cases li with
  |nil=>
   have er:Cn []++z=z:=by simp [Cn]
   rw[er]at HSK hfe;clear er;have hall':done=ALL:=by rw[←hall];simp [Pl]
   have hend':n+F=END:=hend;have HA:=Za hall';have HE:=Za hend';have hbad:=HZ.out.bad;have hnil:=HZ.out.nil;clear hall hend hall' hend' hi1
   cases ok with
   |true=>
    have hz0:=hnil rfl;subst hz0;clear hbad hnil;go_wp2_with fail
    refine(HSK.out _ HL1.out).mono ?_;rintro e w1 ⟨rfl,hb1⟩;have HB1:=Za (HB.out.trans (hb1.mono HB.out.size));have HOWN1:=Za (Mn HOWN.out hb1);have hsz1:=hb1.size;have hbA:Below w1.heap.size w1 (w1.alloc (.cells #[.int .i64 5,.string ⟨#[]⟩,.int .i64 0,.int .i64 ((n:Int)+(F:Int))] 50)):=bA;have HOWN2:=Za (Mn HOWN1.out hbA);have HB2:=Za (HB1.out.trans (hbA.mono HB1.out.size));have HNEW:=Za (Ae.new w1 [.int .i64 5,.string ⟨#[]⟩,.int .i64 0,.int .i64 ((n:Int)+(F:Int))] 50);clear hb1 hbA;go_wp2_with (at_builtin;(refine wpList_append_lies (P:=Zd) _ rfl _ _ 46 rfl w.heap.size 50 i0 _ 4 40 Tryz.underlying46 HI0.out HZ0.out HZ1.out HZ2.out rfl (by decide) (.slice oa done.length oc) done.length (done.flatMap Jm) rfl HOWN2.out ⟨w1.heap.size,0,none⟩ 1 1 (Jm ⟨5,[],0,(n:Int)+(F:Int)⟩) rfl rfl HNEW.out.news (Uk _) (by decide) (by unfold maxLen;omega) (by omega) (by have:=HB2.out.size;exact this) _ rfl ?_;intro g cap w11 hown hgrow hat hlt11;have HB11:=Za (Ug HB2.out hgrow (fun k e=>(HOB.out k e).1) HB2.out.size);have HS:=Za (Hr.snoc ⟨5,[],0,(n:Int)+(F:Int)⟩ hown);clear hown hgrow hat))
    go_ret3
    refine⟨HB11.out,?_⟩;rw[if_pos rfl];refine⟨_,rfl,?_⟩;have hs:=HS.out;rw[HN.out,HE.out]at hs;rw[HA.out]at hs;rw[←HA.out]at hs ⊢;exact hs
   |false=>
    obtain⟨hz0,hbc⟩:=hbad rfl;have hze:z.isEmpty=false:=by simpa using hz0
    have HBC:=Za hbc;clear hbad hnil hz0 hbc;go_wp2_with fail
    refine(HSK.out _ HL1.out).mono ?_;rintro e w1 ⟨rfl,hb1⟩;have HB1:=Za (HB.out.trans (hb1.mono HB.out.size));have HL2:=Za (HL1.out.old hb1);have HO:=Za (Ae.new w1 [.int .i64 0,.string ⟨#[]⟩,.int .i64 0,.int .i64 0] 50);have hbA:Below w1.heap.size w1 (w1.alloc (.cells #[.int .i64 0,.string ⟨#[]⟩,.int .i64 0,.int .i64 0] 50)):=bA;have HL3:=Za (HL2.out.old hbA);have HB2:=Za (HB1.out.trans (hbA.mono HB1.out.size));have hge:w.heap.size≤w1.heap.size:=HB1.out.size;clear hb1 hbA;go_wp2_with fail
    refine(HBC.out _ HL3.out).mono ?_;rintro e w3 ⟨rfl,hb3⟩;unfold Gu;have HO3:=Za (HO.out.old hb3);have HB3:=Za (HB2.out.trans (hb3.mono HB2.out.size));clear hb3;have q0:=HO3.out.at 0 _ rfl;have f0:=HO3.out.fz 0;have q1:=HO3.out.at 1 _ rfl;have f1:=HO3.out.fz 1;have q2:=HO3.out.at 2 _ rfl;have f2:=HO3.out.fz 2;have q3:=HO3.out.at 3 _ rfl;have f3:=HO3.out.fz 3;have ql:=HO3.out.lt;go_wp2_with fail
    go_ret3
    refine⟨Gr (Gr (Gr (Gr HB3.out hge _ _) hge _ _) hge _ _) hge _ _,?_⟩;rw[if_neg (by decide),HN.out,HE.out];rfl
  |cons i l=>
   obtain⟨htk,hgi,hil⟩:=hi1;have hr:Cn (i::l)++z=i.x++(i.gap++(Cn l++z)):=by rw[Oo];simp
   rw[hr]at HSK hfe;clear hr;have hall':(done++[⟨i.k,i.x,i.n,((n+F:Nat):Int)⟩])++Pl (n+F+Cf (Ai i.b i.l)) l=ALL:=by rw[←hall];simp [Pl,It.gap]
   have hend':dE (n+F+Cf (Ai i.b i.l)) l=END:=hend;have HA:=Za hall';have HE:=Za hend';have HGI:=Za hgi;have HIL:=Za hil;have hxne:=htk.ne;have hzl:(i.x++(i.gap++(Cn l++z))).length≤1000000:=by omega
   have HTK:Hid (∀w1,Io w1→Calls Zd 41 #[.string (Aa (i.x++(i.gap++(Cn l++z))))] w1 fun e w'=>e= .returned (.tuple #[Gu i.k i.x i.n 0,.bool true])∧Below w1.heap.size w1 w'):=fun w1 h1=>htk.call w1 hzl h1
   clear hall hend hall' hend' hgi hil htk hzl;have hxp:0<i.x.length:=List.length_pos_iff.2 hxne;obtain⟨q',hq'⟩:∃q',i.gap++(Cn l++z)=q':=⟨_,rfl⟩;have HQ':=Za hq';rw[hq']at HSK hfe HTK;clear hq' hxne;have HXD:=Za (Ml i.x q');have hrl:(i.x++q').length=i.x.length+q'.length:=Zc;have hre:(i.x++q').isEmpty=false:=by
    cases hx:i.x with
    |nil=>rw[hx]at hxp;simp at hxp
    |cons c t=>rfl
   obtain⟨r,hr⟩:∃r,i.x++q'=r:=⟨_,rfl⟩;rw[hr]at HSK hfe HTK HXD hrl hre;clear hr;obtain⟨xx,hxx⟩:∃xx,i.x=xx:=⟨_,rfl⟩;rw[hxx]at HXD hrl hxp HTK HA;obtain⟨kk,hkk⟩:∃kk,i.k=kk:=⟨_,rfl⟩;obtain⟨nn,hnn⟩:∃nn,i.n=nn:=⟨_,rfl⟩;rw[hkk,hnn]at HTK HA;clear hxx hkk hnn;have hx1:(xx.length:Int)≤(r.length:Int):=by omega
   have hx2:xx.length≤r.length:=by omega
   go_wp2_with fail
   refine(HSK.out _ HL1.out).mono ?_;rintro e w1 ⟨rfl,hb1⟩;have HB1:=Za (HB.out.trans (hb1.mono HB.out.size));have HL2:=Za (HL1.out.old hb1);have HOWN1:=Za (Mn HOWN.out hb1);have hsz1:=hb1.size;have HO:=Za (Ae.new w1 [.int .i64 0,.string ⟨#[]⟩,.int .i64 0,.int .i64 0] 50);have hbA:Below w1.heap.size w1 (w1.alloc (.cells #[.int .i64 0,.string ⟨#[]⟩,.int .i64 0,.int .i64 0] 50)):=bA;have HL3:=Za (HL2.out.old hbA);have HB2:=Za (HB1.out.trans (hbA.mono HB1.out.size));have HOWN2:=Za (Mn HOWN1.out hbA);have hge:w.heap.size≤w1.heap.size:=HB1.out.size;clear hb1 hbA;go_wp2_with fail
   refine(HTK.out _ HL3.out).mono ?_;rintro e w3 ⟨rfl,hb3⟩;unfold Gu;have HO3:=Za (HO.out.old hb3);have HB3:=Za (HB2.out.trans (hb3.mono HB2.out.size));have HOWN3:=Za (Mn HOWN2.out hb3);clear hb3;have q0:=HO3.out.at 0 _ rfl;have f0:=HO3.out.fz 0;have q1:=HO3.out.at 1 _ rfl;have f1:=HO3.out.fz 1;have q2:=HO3.out.at 2 _ rfl;have f2:=HO3.out.fz 2;have q3:=HO3.out.at 3 _ rfl;have f3:=HO3.out.fz 3;have ql:=HO3.out.lt;go_upto_region 14 with(fail)
   have HS:=Za (((((HO3.out.set 0 (.int .i64 kk)).set 1 (.string (Aa xx))).set 2 (.int .i64 nn)).set 3 (.int .i64 0)).set 3 (.int .i64 ((n:Int)+(F:Int))));have HBS:=Za (Gr (Gr (Gr (Gr (Gr HB3.out hge 0 (.int .i64 kk)) hge 1 (.string (Aa xx))) hge 2 (.int .i64 nn)) hge 3 (.int .i64 0)) hge 3 (.int .i64 ((n:Int)+(F:Int))));have hbo:(Value.slice oa done.length oc).ownBlock≠some w1.heap.size:=fun e=>by have:=(HOB.out _ e).2;omega
   have HBO:=Za hbo;have HOS:=Za (Oj (Oj (Oj (Oj (Oj HOWN3.out hbo 0 (.int .i64 kk)) hbo 1 (.string (Aa xx))) hbo 2 (.int .i64 nn)) hbo 3 (.int .i64 0)) hbo 3 (.int .i64 ((n:Int)+(F:Int))));obtain⟨W,hW⟩:∃W,(((((w3.setCell ⟨w1.heap.size,0,none⟩ (.int .i64 kk)).setCell ⟨w1.heap.size,1,none⟩ (.string (Aa xx))).setCell ⟨w1.heap.size,2,none⟩ (.int .i64 nn)).setCell ⟨w1.heap.size,3,none⟩ (.int .i64 0)).setCell ⟨w1.heap.size,3,none⟩ (.int .i64 ((n:Int)+(F:Int))))=W:=⟨_,rfl⟩;rw[hW]at HS HBS HOS ⊢;clear hW q0 f0 q1 f1 q2 f2 q3 f3 ql hbo;have hbA:Below W.heap.size W (W.alloc (.cells #[.int .i64 kk,.string (Aa xx),.int .i64 nn,.int .i64 ((n:Int)+(F:Int))] 50)):=bA;have HS2:=Za (HS.out.old hbA);have HB5:=Za (HBS.out.trans (hbA.mono HBS.out.size));have HOWN5:=Za (Mn HOS.out hbA);have HNEW:=Za (Ae.new W [.int .i64 kk,.string (Aa xx),.int .i64 nn,.int .i64 ((n:Int)+(F:Int))] 50);have c0:=HS.out.at 0 _ rfl;have c1:=HS.out.at 1 _ rfl;have c2:=HS.out.at 2 _ rfl;have c3:=HS.out.at 3 _ rfl;have cl:=HS.out.lt;clear hbA;go_wp2_with (at_builtin;(refine wpList_append_lies (P:=Zd) _ rfl _ _ 46 rfl w.heap.size 50 i0 _ 4 40 Tryz.underlying46 HI0.out HZ0.out HZ1.out HZ2.out rfl (by decide) (.slice oa done.length oc) done.length (done.flatMap Jm) rfl HOWN5.out ⟨W.heap.size,0,none⟩ 1 1 (Jm ⟨kk,xx,nn,(n:Int)+(F:Int)⟩) rfl rfl HNEW.out.news (Uk _) (by decide) (by unfold maxLen;omega) (by omega) (by have:=HB5.out.size;exact this) _ rfl ?_;intro g cap w11 hown hgrow hat hlt11;have HB11:=Za (Ug HB5.out hgrow (fun k e=>(HOB.out k e).1) HB5.out.size);have HS11:=Za (Hr.snoc ⟨kk,xx,nn,(n:Int)+(F:Int)⟩ hown);have y1:=(HS2.out.grow hgrow HBO.out).at 1 _ rfl;have yl:=(HS2.out.grow hgrow HBO.out).lt;clear hown hgrow hat))
   have hxd:=HXD.out _ hrl.symm;rw[hxd];go_roundw
   case rel=>
    refine⟨i.b,i.l,n+F,l,done++[⟨kk,xx,nn,((n+F:Nat):Int)⟩],q',rfl,by rw[←HN.out],HQ'.out.symm,?_,HGI.out,HIL.out,HA.out,HE.out,by rw[Zc,List.length_singleton];omega,by omega,HB11.out⟩;have hs:=HS11.out;rw[HN.out]at hs;exact hs
   case measure=>show q'.length<q1.length;omega
theorem mL(a:Bs)(ha:Lo a=true)(hl:a.length=1)(w:World):
  Calls Zd 94 #[.string (Aa a)] w fun e w'=>e= .returned (.tuple #[Gu 4 a 0 0,.bool true])∧Below w.heap.size w w':=by
 have hx1:(Aa a).extract 0 1=Aa a:=by
  have:=Ij a [];rw[hl,List.append_nil]at this;exact this
 have hz1:a.length=1:=hl;have hm:min (2:Int) (a.length:Int)=1:=by omega
 have hzI:(a.length:Int)=1:=by omega
 rcases Hf ha with rfl|rfl|rfl|rfl|rfl|rfl|rfl|rfl|rfl|rfl|rfl|rfl|rfl|rfl|rfl|rfl|rfl|rfl|rfl|rfl|rfl|rfl|rfl|rfl|rfl|rfl|rfl
 iterate 6 (simp at hl)
 all_goals
  clear ha hl hz1 hzI hm;have hm:min (2:Int) 1=1:=by decide
  go_enter Tryz.func94,Tryz.ntmps94
  go_wp2_with fail
  refine wp_loop_rounds 1 ?_;rw[rounds_succ];go_wp2_with fail
  exact bodyPost_ret (v:= .tuple #[Gu 4 _ 0 0,.bool true]) (by simp [results,Tryz.results94,go_sem,Gu]) rfl ⟨rfl,bA⟩
def My(k:Int):Bs→Bool
 |[]=>true
 |c::_=>decide (c.toNat<128) && (if k=4 then !(c==61) && !(c==60) && !(c==62) && !(c==47)else if k=3 then !(Fh (c.toNat:Nat))else !(Ko (c.toNat:Nat)))
theorem Ks.noComm {x:Bs}{k n:Int}(h:Ks x k n){r:Bs}(hs:My k r=true):Zb (x++r) [47,47]=false:=by
 have key:∀(c:UInt8) (t:Bs),c≠47→Zb (c::t) [47,47]=false:=fun c t hc=>by
  have h1:((47:UInt8)==c)=false:=by rw[beq_eq_false_iff_ne];exact fun e=>hc e.symm
  show([47,47]:List UInt8).isPrefixOf (c::t)=false
  rw[Zf,h1];rfl
 cases h with
 |name x hx hk c t hc hl ha=>rw[hc,Ze];exact key _ _ (by rintro rfl;simp [Cl]at hl)
 |word x hk c t hc hl ha=>rw[hc,Ze];exact key _ _ (by rintro rfl;simp [Cl]at hl)
 |num u hu hi c t hc hd=>rw[hc,Ze];exact key _ _ (by rintro rfl;simp [Cx]at hd)
 |quote q y=>exact key 39 (y++[39]++r) (by decide)
 |sign x hs' c t hc h7 hn=>
  have key2:Zb ([47]++r) [47,47]=false:=by
   cases r with
   |nil=>rfl
   |cons b r=>
    have hne:b≠47:=by rintro rfl;simp [My]at hs
    have h1:((47:UInt8)==b)=false:=by rw[beq_eq_false_iff_ne];exact fun e=>hne e.symm
    show([47,47]:List UInt8).isPrefixOf (47::b::r)=false
    rw[Zf,Zf,h1];rfl
  rcases Hf hs' with rfl|rfl|rfl|rfl|rfl|rfl|rfl|rfl|rfl|rfl|rfl|rfl|rfl|rfl|rfl|rfl|rfl|rfl|rfl|rfl|rfl|rfl|rfl|rfl|rfl|rfl|rfl<;>first|exact key2|(rw[Ze];exact key _ _ (by decide))
theorem cR {x:Bs}{k n:Int}(h:Ks x k n)(hq:k=3→∀r,x≠39::r){r:Bs}(hs:My k r=true):sA x k n r:=by
 refine⟨h.ends _,h.noComm hs,h.ne,fun w hz hl=> ?_⟩;have hw:k=1∨k=2→Hl Ko r:=by
  intro hk
  cases r with
  |nil=>exact .inl rfl
  |cons c r=>
   rcases hk with rfl|rfl<;>simp [My]at hs<;>exact .inr ⟨c,r,rfl,hs.1,hs.2⟩
 have hd:k=3→Hl Fh r:=by
  rintro rfl
  cases r with
  |nil=>exact .inl rfl
  |cons c r=>simp [My]at hs;exact .inr ⟨c,r,rfl,hs.1,hs.2⟩
 cases h with
 |name x hx hk c t hc hll ha=>
  have hT:=fun w1 (_:Below w.heap.size w w1)=>aN x r ha (hw (.inl rfl)) hk hx w1
  rw[hc]at hT ⊢;exact Nd c (t++r) hll (Iy hll) 1 (c::t) 0 w hT
 |word x hk c t hc hll ha=>
  have hT:=fun w1 (_:Below w.heap.size w w1)=>Zz x r ha (hw (.inr rfl)) hk w1
  rw[hc]at hT ⊢;exact Nd c (t++r) hll (Iy hll) 2 (c::t) 0 w hT
 |num u hu hi c t hc hdd=>
  have hT:=fun w1 (hb1:Below w.heap.size w w1)=>Tu u r hu hi (hd rfl) w1 (hl.old hb1).lt (hl.old hb1).pow
  rw[hc]at hT ⊢;exact Sd c (t++r) hdd (Ob hdd) 3 (c::t) u w hT
 |quote q y hr1 hr2 hr3 hr4 hr5 hx hdq=>exact absurd rfl (hq rfl (y++[39]))
 |sign x hs' c t hc h7 hn=>
  cases r with
  |nil=>
   rw[List.append_nil]at hz ⊢
   by_cases h1:x.length=1
   ·have hT:=fun w1 (_:Below w.heap.size w w1)=>mL x hs' h1 w1
    rw[hc]at hT ⊢;exact Na c t hn h7 4 (c::t) 0 w hT
   ·have hT:=fun w1 (_:Below w.heap.size w w1)=>Sr x [] hs' (fun e=>absurd e h1) w1
    rw[List.append_nil]at hT;rw[hc]at hT ⊢;exact Na c t hn h7 4 (c::t) 0 w hT
  |cons b r=>
   have hT:=fun w1 (_:Below w.heap.size w w1)=>Sr x (b::r) hs' (fun _=>⟨b,r,rfl,by simp [My]at hs;simp [hs],by simp [My]at hs;simp [hs],by simp [My]at hs;simp [hs]⟩) w1
   rw[hc]at hT ⊢;exact Na c (t++b::r) hn h7 4 (c::t) 0 w hT
theorem Od:Nw [] []:=⟨fun c hc=>(by cases hc),fun p hp=>(by cases hp)⟩
theorem mJ:gR true []:=⟨.inl rfl,rfl,fun _=>rfl,fun h=>(by cases h)⟩
theorem Sh(t:Tk)(h:t.kind=5):∀l:List Tk,Ke (l++[t])
 |[]=>h
 |[a]=>h
 |a::b::l=>Sh t h (b::l)
def Dt(line:Nat)(li:List It):List Tk:=Pl line li++[⟨5,[],0,dE line li⟩]
theorem Vu {P:Int→Prop}:∀(l:List It) (line:Nat),(∀i,i∈l→P i.n)→∀t,t∈Pl line l→P t.num
 |[],line,h,t,ht=>by cases ht
 |i::l,line,h,t,ht=>by
  rw[Pl]at ht;rcases List.mem_cons.1 ht with rfl|ht
  ·exact h i Zg
  ·exact Vu l _ (fun j hj=>h j (Zi _ hj)) t ht
theorem eG(b0:Bs)(l0:List (Bs ×Bs))(hg:Nw b0 l0)(li:List It)(hi:Mo [] li)(hlen:(Ai b0 l0++Cn li).length≤20000)(w:World)(hl:Io w):
  Calls Zd 20 #[.string (Aa (Ai b0 l0++Cn li))] w fun e w'=>Below w.heap.size w w'∧∃v,e= .returned (.tuple #[v,.int .i64 0,.int .i64 0])∧Hr w' w.heap.size (Dt (1+Cf (Ai b0 l0)) li) v:=by
 have h:=rC true [] mJ b0 l0 hg li hi (by simpa using hlen) w hl;rw[List.append_nil]at h;refine Calls.mono h ?_;intro e w' hp;obtain⟨h1,h2⟩:=hp;rw[if_pos rfl]at h2;exact⟨h1,h2⟩
theorem Sg(b0:Bs)(l0:List (Bs ×Bs))(hg:Nw b0 l0)(li:List It)(hi:Mo [] li)(hn:∀i,i∈li→I64 i.n)(hlen:(Ai b0 l0++Cn li).length≤20000)(hc:li.length≤900000)(f:Nat)(hf:4*(li.length+1)+4≤f)(w:World)(hl:Io w):
  Calls Zd 14 #[.string (Aa (Ai b0 l0++Cn li))] w (WhP w (Pk (Sf (Fo f ⟨[],[]⟩ (Dt (1+Cf (Ai b0 l0)) li))))):=by
 have hT:(Dt (1+Cf (Ai b0 l0)) li).length=li.length+1:=by simp [Dt,fU]
 refine topP_of _ w _ (Za fun w1 hb1=> ?_);refine mW _ (Dt (1+Cf (Ai b0 l0)) li) (Sh _ rfl _) ?_ (by omega) f (by omega) w1 (Za fun w2 hb2=>eG b0 l0 hg li hi hlen w2 ((hl.old hb1).old hb2));intro t ht;rcases List.mem_append.1 ht with h|h
 ·exact Vu (P:=I64) li _ hn t h
 ·rw[List.mem_singleton]at h;subst h;exact Gg
theorem eW(b0:Bs)(l0:List (Bs ×Bs))(hg:Nw b0 l0)(li:List It)(hi:Mo [] li)(hn:∀i,i∈li→I64 i.n)(hlen:(Ai b0 l0++Cn li).length≤20000)(hc:li.length≤900000)(f:Nat)(hf:4*(li.length+1)+4≤f)(w:World)(hl:Io w):
  Calls Zd 13 #[.string (Aa (Ai b0 l0++Cn li))] w (WhE w (Rr (Wz (Bf f 1 (Dt (1+Cf (Ai b0 l0)) li))))):=by
 have hT:(Dt (1+Cf (Ai b0 l0)) li).length=li.length+1:=by simp [Dt,fU]
 refine topE_of _ w _ (Za fun w1 hb1=> ?_);refine lU _ (Dt (1+Cf (Ai b0 l0)) li) (Sh _ rfl _) ?_ (by omega) f (by omega) w1 (Za fun w2 hb2=>eG b0 l0 hg li hi hlen w2 ((hl.old hb1).old hb2));intro t ht;rcases List.mem_append.1 ht with h|h
 ·exact Vu (P:=I64) li _ hn t h
 ·rw[List.mem_singleton]at h;subst h;exact Gg
def Nn(x:Bs):Bool:=(match x with|c::_=>Cl c|[]=>false) && x.all (fun c=>decide (c.toNat<128) && Ko (c.toNat:Nat))
theorem aL {x:Bs}(h:Nn x=true):∃c t,x=c::t∧Cl c=true∧∀c,c∈x→c.toNat<128∧Ko (c.toNat:Nat)=true:=by
 cases x with
 |nil=>cases h
 |cons c t=>
  unfold Nn at h;obtain⟨h1,h2⟩:=(Bool.and_eq_true _ _).mp h;refine⟨c,t,rfl,h1,fun d hd=> ?_⟩;have:=List.all_eq_true.1 h2 d hd;simpa using this
theorem pc_name {x:Bs}(hx:Aq x=true)(hk:Ig x=false)(h:Nn x=true):Ks x 1 0:=by
 obtain⟨c,t,hc,hl,ha⟩:=aL h;exact .name x hx hk c t hc hl ha
theorem bM {x:Bs}(hk:Ig x=true)(h:Nn x=true):Ks x 2 0:=by
 obtain⟨c,t,hc,hl,ha⟩:=aL h;exact .word x hk c t hc hl ha
theorem kV {x:Bs}(h:Lo x=true):Ks x 4 0:=by
 rcases Hf h with rfl|rfl|rfl|rfl|rfl|rfl|rfl|rfl|rfl|rfl|rfl|rfl|rfl|rfl|rfl|rfl|rfl|rfl|rfl|rfl|rfl|rfl|rfl|rfl|rfl|rfl|rfl<;>exact .sign _ h _ _ rfl (by decide) (by decide)
def pcB(i:It):Bool:=if i.k=1 then Aq i.x && !Ig i.x && Nn i.x && decide (i.n=0)else if i.k=2 then Ig i.x && Nn i.x && decide (i.n=0)else if i.k=3 then decide (0≤i.n∧i.n≤9223372036854775807) && decide (i.x=Lib.decDigits i.n.toNat) && decide (i.x.length≤18) && (match i.x with|c::_=>Cx c|[]=>false)else decide (i.k=4) && Lo i.x && decide (i.n=0)
theorem pcB_of {i:It}(h:pcB i=true):Ks i.x i.k i.n∧(i.k=3→∀r,i.x≠39::r)∧I64 i.n:=by
 obtain⟨x,k,n,b,l⟩:=i;simp only[pcB]at h
 by_cases h1:k=1
 ·rw[if_pos h1]at h
  simp at h;obtain⟨⟨⟨g1,g2⟩,g3⟩,rfl⟩:=h;subst h1;exact⟨pc_name g1 g2 g3,fun e=>absurd (show _=_ from e) (by simp),Gg⟩
 rw[if_neg h1]at h
 by_cases h2:k=2
 ·rw[if_pos h2]at h
  simp at h;obtain⟨⟨g1,g3⟩,rfl⟩:=h;subst h2;exact⟨bM g1 g3,fun e=>absurd (show _=_ from e) (by simp),Gg⟩
 rw[if_neg h2]at h
 by_cases h3:k=3
 ·rw[if_pos h3]at h
  subst h3;simp only[Bool.and_eq_true,decide_eq_true_eq]at h;obtain⟨⟨⟨⟨g1,g2⟩,g3⟩,g4⟩,g5⟩:=h
  cases x with
  |nil=>cases g5
  |cons c t=>
   have hu:(n.toNat:Int)=n:=by omega
   refine⟨?_,fun _ r e=> ?_,(show I64 n from⟨by omega,by omega⟩)⟩
   ·have:=Ks.num n.toNat (by rw[←g3];exact Nat.le_trans g4 (by decide)) (by omega) c t g3.symm g5
    rw[←g3,hu]at this;exact this
   ·cases e;simp [Cx]at g5
 rw[if_neg h3]at h;simp at h;obtain⟨⟨rfl,g1⟩,rfl⟩:=h;exact⟨kV g1,fun e=>absurd (show _=_ from e) (by simp),Gg⟩
def nA(z:Bs):List It→Bool
 |[]=>true
 |i::l=>pcB i && i.b.all Fe && i.l.isEmpty && My i.k (i.gap++(Cn l++z)) && nA z l
theorem Uw(z:Bs):∀(l:List It),nA z l=true→Mo z l∧∀i,i∈l→I64 i.n
 |[],_=>⟨trivial,fun i hi=>by cases hi⟩
 |i::l,h=>by
  rw[nA]at h;simp only[Bool.and_eq_true]at h;obtain⟨⟨⟨⟨h1,h2⟩,h3⟩,h4⟩,h5⟩:=h;obtain⟨q1,q2⟩:=Uw z l h5;obtain⟨p1,p2,p3⟩:=pcB_of h1;refine⟨⟨cR p1 p2 h4,⟨fun c hc=>List.all_eq_true.1 h2 c hc,fun p hp=> ?_⟩,q1⟩,fun j hj=> ?_⟩
  ·rw[List.isEmpty_iff.1 h3]at hp;cases hp
  ·rcases List.mem_cons.1 hj with rfl|hj
   ·exact p3
   ·exact q2 j hj
structure T3 where
 kind:Int
 text:Bs
 num:Int
def t3(t:Tk):T3:=⟨t.kind,t.text,t.num⟩
inductive Pc where
 |t (x:T3)
 |g (b:Bs)
def Pc.text:Pc→Bs|t x=>x.text|g b=>b
def Az(l:List Pc):Bs:=l.flatMap Pc.text
def La:List Pc→List T3
 |[]=>[]
 | .t x::l=>x::La l
 | .g _::l=>La l
theorem Ap(a b:List Pc):Az (a++b)=Az a++Az b:=List.flatMap_append
theorem Jc:∀a b:List Pc,La (a++b)=La a++La b
 |[],b=>rfl
 | .t x::a,b=>by simp [La,Jc a b]
 | .g x::a,b=>by simp [La,Jc a b]
abbrev sg(s:Bs):Pc:= .t ⟨4,s,0⟩
abbrev wd(s:Bs):Pc:= .t ⟨2,s,0⟩
abbrev nmp(s:Bs):Pc:= .t ⟨1,s,0⟩
abbrev nu(n:Int):Pc:= .t ⟨3,Lib.itoa n,n⟩
def Jq:List (List Pc)→List Pc
 |[]=>[]
 |x::l=>x++l.flatMap (fun y=>[sg [44],.g [32]]++y)
def Gy(e:Ex)(level:Int)(l:List Pc):List Pc:=if e.kind=4∧Am e.op<level then [sg [40]]++l++[sg [41]]else l
def Gj(k o n:Int)(nm:Bs)(args:List Ex)(ts:List (List Pc)):List Pc:=
 if k=1 then [nu n]
 else if k=2 then [nmp nm]
 else if k=3 then [sg (As o)]++Gy (Bw args 0) 9 (ts.getD 0 [])
 else if k=4 then Gy (Bw args 0) (Am o) (ts.getD 0 [])++([.g [32],sg (As o),.g [32]])++Gy (Bw args 1) (Am o+1) (ts.getD 1 [])
 else if k=5 then [nmp nm,sg [40]]++Jq ts++[sg [41]]
 else if k=6 then [nmp nm,sg [91]]++ts.getD 0 []++[sg [93]]
 else if k=7 then [wd [114,101,97,100],sg [40],sg [41]]else []
mutual
def Ck:Ex→List Pc
 | .mk k o n nm args=>Gj k o n nm args (kN args)
def kN:List Ex→List (List Pc)
 |[]=>[]
 |x::l=>Ck x::kN l
end
theorem eY:∀l,kN l=l.map Ck
 |[]=>rfl
 |x::l=>by simp [kN,eY l]
theorem Lt(k o n:Int)(nm:Bs)(args:List Ex):Ck (.mk k o n nm args)=Gj k o n nm args (args.map Ck):=by
 rw[Ck,eY]
theorem Ss(o n:Int)(nm:Bs)(args:List Ex):Ck (.mk 1 o n nm args)=[nu n]:=by
 rw[Lt];unfold Gj;rw[if_pos rfl]
theorem Si(o n:Int)(nm:Bs)(args:List Ex):Ck (.mk 2 o n nm args)=[nmp nm]:=by
 rw[Lt];unfold Gj;rw[if_neg (by decide),if_pos rfl]
def Da(e:Ex)(level:Int):List Pc:=Gy e level (Ck e)
theorem Sz(o n:Int)(nm:Bs)(x:Ex):Ck (.mk 3 o n nm [x])=sg (As o)::Da x 9:=by
 rw[Lt];unfold Gj;rw[if_neg (by decide),if_neg (by decide),if_pos rfl];rfl
theorem Tn(o n:Int)(nm:Bs)(x y:Ex):Ck (.mk 4 o n nm [x,y])=Da x (Am o)++([.g [32],sg (As o),.g [32]]++Da y (Am o+1)):=by
 rw[Lt];unfold Gj;rw[if_neg (by decide),if_neg (by decide),if_neg (by decide),if_pos rfl,List.append_assoc];rfl
theorem Me(o n:Int)(nm:Bs)(args:List Ex):Ck (.mk 5 o n nm args)=nmp nm::sg [40]::(Jq (args.map Ck)++[sg [41]]):=by
 rw[Lt];unfold Gj;rw[if_neg (by decide),if_neg (by decide),if_neg (by decide),if_neg (by decide),if_pos rfl];simp
theorem Sm(o n:Int)(nm:Bs)(x:Ex):Ck (.mk 6 o n nm [x])=nmp nm::sg [91]::(Ck x++[sg [93]]):=by
 rw[Lt];unfold Gj;rw[if_neg (by decide),if_neg (by decide),if_neg (by decide),if_neg (by decide),if_neg (by decide),if_pos rfl];rfl
theorem Th(o n:Int)(nm:Bs)(args:List Ex):Ck (.mk 7 o n nm args)=[wd [114,101,97,100],sg [40],sg [41]]:=by
 rw[Lt];unfold Gj;rw[if_neg (by decide),if_neg (by decide),if_neg (by decide),if_neg (by decide),if_neg (by decide),if_neg (by decide),if_pos rfl]
theorem dP:∀l:List (List Pc),Az (Jq l)=Bg (l.map Az)
 |[]=>rfl
 |x::l=>by
  unfold Jq Bg;rw[List.map_cons];dsimp only;rw[Ap];congr 1
  unfold Az;rw[List.flatMap_assoc,List.flatMap_map];rfl
theorem Te(e:Ex)(lv:Int)(l:List Pc):Az (Gy e lv l)=Ea e lv (Az l):=by
 unfold Gy Ea;split
 ·rw[Ap,Ap];rfl
 ·rfl
theorem Tj(e:Ex):Az (Ck e)=Ah e:=by
 obtain⟨k,o,n,nm,args⟩:=e;rw[Lt,Gk];have ih:(args.map Ck).map Az=args.map Ah:=by
  rw[List.map_map];exact List.map_congr_left (fun x hx=>Tj x)
 have hg:∀i,Az ((args.map Ck).getD i [])=(args.map Ah).getD i []:=by
  intro i;rw[←ih];simp only[List.getD_eq_getElem?_getD,List.getElem?_map]
  cases args[i]? <;>rfl
 show Az (Gj k o n nm args (args.map Ck))=Fb k o n nm args (args.map Ah)
 unfold Gj Fb;split
 ·simp [Az,Pc.text]
 split
 ·simp [Az,Pc.text]
 split
 ·rw[Ap,Te,hg];simp [Az,Pc.text]
 split
 ·rw[Ap,Ap,Te,Te,hg,hg];simp [Az,Pc.text]
 split
 ·rw[Ap,Ap,dP,ih];simp [Az,Pc.text]
 split
 ·rw[Ap,Ap,hg];simp [Az,Pc.text]
 split
 ·rfl
 ·rfl
termination_by SizeOf.sizeOf e
decreasing_by
 have:=List.sizeOf_lt_of_mem hx;simp only[Ex.mk.sizeOf_spec];omega
end Go.Proofs.YtcfpfnoldgnloaaGreatDoor
