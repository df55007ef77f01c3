/-
  The parser takes statements' tokens and gives them back. Plain functions alone.
-/
import Derived.Test.YtcfpfnoldgnloaaGreatDoorRows
import Derived.ProofKit
import Derived.OpenShut
import Derived.Deep.DeepHandedRow
import Derived.Lib.LaidTab
import Derived.ChangeSame
import Derived.Lib.ItoaLen
import Derived.Lib.AtoiTie
import Derived.Test.YtcfpfnoldgnloaaGreatDoorPw10
import Derived.WideLaws
import Derived.Lib.SmallJoins
import Derived.ChangeSlices
import Derived.WideKeyArgs
import Derived.Lib.LaidU8T
import Derived.PinnedBridge
import Derived.Shelf.Vars
import Derived.Test.YtcfpfnoldgnloaaGreatDoorPw12
set_option linter.unusedVariables false
set_option linter.unusedSimpArgs false
namespace Go.Proofs.YtcfpfnoldgnloaaGreatDoor
open Go.ChangeShapes Go.WideShapes Go.ChangeAt Go.RowKit
theorem Qh {P:Program}{x:String ×DataW Unit}{l:List (String ×DataW Unit)}{W:World}(h:laidMet P (x::l) W):laidMet P l W:=by
 obtain⟨n,d⟩:=x;obtain⟨ps,⟨g,t,cs,fuel,p,q,hg,ht,hv,hd,hr,rfl⟩,hn,hc⟩:=h;refine⟨q,hr,(List.nodup_append.1 hn).2.1,fun b off hm=>hc b off (List.mem_append_right _ hm)⟩
theorem gT {H:Type}{enc:TypeId ×Value→H}{P:Program}{f:Func}{s:ChangeSpec}{apart fresh handsOn again:Bool}{W W':World}{args:Array Value}{v:Value}{ds gs:List (DataW H)}{before pa pv:List MemPlace}
  (hW:DataW.Whole enc P f.params.toList s.vars apart W args.toList ds gs before)
  (hres:∀(b:Nat) (sp:Nat→Bool) (hd:Bool),DataW.TrodAll enc P W' b sp hd f.resultTypes.toList (v.resultList f.resultTypes.size) (s.fn H (ds++gs)).results [])
  (hargs:∀sp:Nat→Bool,(∀p∈before,sp p.block=true)→DataW.TrodAll enc P W' 0 sp true f.params.toList args.toList (s.fn H (ds++gs)).args pa)
  (hvars:∀sp:Nat→Bool,(∀p∈before,sp p.block=true)→DataW.TrodVars enc P W' sp s.vars (s.fn H (ds++gs)).vars pv)
  (hps:before=pa++pv) (hb:Below W.heap.size W W')
  (hok:∀(j:Nat) (t:TypeId) (r:Value),f.resultTypes[j]? =some t→(v.resultList f.resultTypes.size)[j]? =some r→Value.okWide P W' .any 0 t r):
  s.post enc P f apart fresh handsOn again W args v W':=by
 have lt:∀p∈before,p.block<W.heap.size:=hW.lt;have old:∀p∈before,(fun k=>decide (k<W.heap.size)) p.block=true:=fun p hp=>decide_eq_true (lt p hp)
 refine⟨ds,gs,before,[],pa,pv,hW,hres _ _ _,hargs _ old,hvars _ old,World.keptBut_mono (fun p hp=>⟨hp,.inr (by rw[hps]at hp;exact List.mem_append.1 hp)⟩) (hb.frame (· ∈before)),fun _=> ?_⟩;obtain⟨_,_,_,_,_,fz,nd⟩:=hW;refine⟨hok,_,_,([]++pa)++pv,⟨[]++pa,pv,trodAll_append (hargs _ (fun _ _=>rfl)) (hres _ _ _),hvars _ (fun _ _=>rfl),rfl,fun b off hp=> ?_,fun ha=> ?_⟩,fun p hp _=> ?_⟩
 ·have hin:MemPlace.cell b off∈before:=by rw[hps];exact hp
  have e:=fz b off hin;rw[←hb.frozen (lt _ hin)]at e;exact e
 ·have e:=nd ha
  rw[hps]at e;exact e
 ·rw[hps];exact hp
end Go.Proofs.YtcfpfnoldgnloaaGreatDoor
namespace Go.Proofs.YtcfpfnoldgnloaaGreatDoor
open Go.RowKit
set_option maxHeartbeats 20000000
set_option maxRecDepth 100000
open Go.Lib renaming hid→Za,decDigits→Zc,parseUint10→Zh
open Go.Proofs.Tryz renaming prog→Zb
open List renaming length_append→Zd,length_cons→Zi,getElem_append_left→Zj
open Below renaming refl→Ze
open Nat renaming le_refl→Zf
open Ae renaming new→Zg
def Iz(r:Int):Bool:=decide (r=32∨r=9∨r=10∨r=13)
def Ki(r:Int):Bool:=Fp r||Fh r
theorem Ye(r:Int)(w:World):Calls Zb 85 #[.int .i32 r] w fun e w'=>e= .returned (.bool (Iz r))∧w=w':=by
 go_enter Tryz.func85,Tryz.ntmps85
 go_wp2
 all_goals go_ret
 all_goals(refine⟨Bu ?_,rfl⟩;rw[Bool.eq_iff_iff];simp [Iz];try omega)
theorem Xt(r:Int)(w:World):Calls Zb 143 #[.int .i32 r] w fun e w'=>e= .returned (.bool (Ki r))∧w=w':=by
 unfold Ki
 cases hl:Fp r
 ·go_enter Tryz.func143,Tryz.ntmps143
  go_wp2_with fail
  refine(Fs _ _).mono ?_;rw[hl];rintro e w1 ⟨rfl,rfl⟩;go_wp2_with fail
  refine(Iv _ _).mono ?_;rintro e w1 ⟨rfl,rfl⟩;go_wp2_with fail
  go_ret
  exact⟨rfl,rfl⟩
 ·go_enter Tryz.func143,Tryz.ntmps143
  go_wp2_with fail
  refine(Fs _ _).mono ?_;rw[hl];rintro e w1 ⟨rfl,rfl⟩;go_wp2_with fail
  go_ret
  exact⟨rfl,rfl⟩
def Hr(p:Int→Bool)(b:Bs):Prop:=b=[]∨∃c r,b=c::r∧c.toNat<128∧p (c.toNat:Nat)=false
theorem Xp(a b:Bs)(ha:∀c,c∈a→c.toNat<128∧Iz (c.toNat:Nat)=true)(hb:Hr Iz b)(w:World):
  Calls Zb 84 #[.string (Aa (a++b)),.func (.func 85) #[] #[]] w fun e w'=>e= .returned (.int .i64 a.length)∧Below w.heap.size w w':=by
 have HAA:=Za ha;have HBB:=Za hb;obtain⟨l,hl⟩:∃l,l=a++b:=⟨_,rfl⟩;rw[←hl];have HL:=Za hl;have hlen:l.length=a.length+b.length:=by rw[hl,Zd]
 have hle:a.length≤l.length:=by omega
 have HLEN:=Za hlen;clear ha hb hl hlen;go_enter Tryz.func84,Tryz.ntmps84
 go_wp2_with fail
 go_loopw [5,6] (fun _ _ wr=> ∃k:Nat,k≤a.length∧wr=w.iter (Aa l) k) (fun _ _ wr=>a.length+1 - wr.iterPos w.heap.size)
 case atStart=>exact⟨0,Nat.zero_le _,rfl⟩
 case round=>
  obtain⟨k,hk,rfl⟩:=hrel
  by_cases hlt:k<l.length
  ·have hnx:=fun ty=>run_next_any (P:=Zb) w (Aa l) k ty hlt
   have hs:k<(Aa l).size:=hlt
   by_cases hka:k<a.length
   ·have hc:l[k]=a[k]:=by have:=HL.out;subst this;exact Zj hka
    have hq:=HAA.out a[k] (List.getElem_mem hka);rw[decode_ascii (Aa l) k hs (by show l[k].toNat<128;rw[hc];exact hq.1)]at hnx;have he:(Aa l)[k]'hs=l[k]:=rfl;rw[he,hc]at hnx;have HQ:=Za hq.2;clear hc hq he;go_wp2_with fail
    refine(Ye _ _).mono ?_;rw[HQ.out];rintro e w1 ⟨rfl,rfl⟩;go_wp2_with fail
    go_roundw
    case rel=>exact⟨k+1,hka,rfl⟩
    case measure=>simp;omega
   ·have hke:k=a.length:=by omega
    subst hke;have hbn:b≠[]:=by intro e;have:=HLEN.out;rw[e]at this;simp at this;omega
    obtain⟨c,r,hb,hc1,hc2⟩:=HBB.out.resolve_left hbn;have hc:l[a.length]=c:=by have:=HL.out;subst this;subst hb;simp
    rw[decode_ascii (Aa l) _ hs (by show l[a.length].toNat<128;rw[hc];exact hc1)]at hnx;have he:(Aa l)[a.length]'hs=l[a.length]:=rfl;rw[he,hc]at hnx;have HQ:=Za hc2;clear hc hc1 hc2 hb he;go_wp2_with fail
    refine(Ye _ _).mono ?_;rw[HQ.out];rintro e w1 ⟨rfl,rfl⟩;go_wp2_with fail
    go_ret
    exact⟨rfl,bA⟩
  ·have hnx:=fun ty=>run_next_end (P:=Zb) w (Aa l) k ty hlt
   have hz:l.length=a.length:=by omega
   go_wp2_with fail
   go_ret
   exact⟨Hb (by omega),bA⟩
theorem eR(a b:Bs)(ha:∀c,c∈a→c.toNat<128∧Ki (c.toNat:Nat)=true)(hb:Hr Ki b)(w:World):
  Calls Zb 84 #[.string (Aa (a++b)),.func (.func 143) #[] #[]] w fun e w'=>e= .returned (.int .i64 a.length)∧Below w.heap.size w w':=by
 have HAA:=Za ha;have HBB:=Za hb;obtain⟨l,hl⟩:∃l,l=a++b:=⟨_,rfl⟩;rw[←hl];have HL:=Za hl;have hlen:l.length=a.length+b.length:=by rw[hl,Zd]
 have hle:a.length≤l.length:=by omega
 have HLEN:=Za hlen;clear ha hb hl hlen;go_enter Tryz.func84,Tryz.ntmps84
 go_wp2_with fail
 go_loopw [5,6] (fun _ _ wr=> ∃k:Nat,k≤a.length∧wr=w.iter (Aa l) k) (fun _ _ wr=>a.length+1 - wr.iterPos w.heap.size)
 case atStart=>exact⟨0,Nat.zero_le _,rfl⟩
 case round=>
  obtain⟨k,hk,rfl⟩:=hrel
  by_cases hlt:k<l.length
  ·have hnx:=fun ty=>run_next_any (P:=Zb) w (Aa l) k ty hlt
   have hs:k<(Aa l).size:=hlt
   by_cases hka:k<a.length
   ·have hc:l[k]=a[k]:=by have:=HL.out;subst this;exact Zj hka
    have hq:=HAA.out a[k] (List.getElem_mem hka);rw[decode_ascii (Aa l) k hs (by show l[k].toNat<128;rw[hc];exact hq.1)]at hnx;have he:(Aa l)[k]'hs=l[k]:=rfl;rw[he,hc]at hnx;have HQ:=Za hq.2;clear hc hq he;go_wp2_with fail
    refine(Xt _ _).mono ?_;rw[HQ.out];rintro e w1 ⟨rfl,rfl⟩;go_wp2_with fail
    go_roundw
    case rel=>exact⟨k+1,hka,rfl⟩
    case measure=>simp;omega
   ·have hke:k=a.length:=by omega
    subst hke;have hbn:b≠[]:=by intro e;have:=HLEN.out;rw[e]at this;simp at this;omega
    obtain⟨c,r,hb,hc1,hc2⟩:=HBB.out.resolve_left hbn;have hc:l[a.length]=c:=by have:=HL.out;subst this;subst hb;simp
    rw[decode_ascii (Aa l) _ hs (by show l[a.length].toNat<128;rw[hc];exact hc1)]at hnx;have he:(Aa l)[a.length]'hs=l[a.length]:=rfl;rw[he,hc]at hnx;have HQ:=Za hc2;clear hc hc1 hc2 hb he;go_wp2_with fail
    refine(Xt _ _).mono ?_;rw[HQ.out];rintro e w1 ⟨rfl,rfl⟩;go_wp2_with fail
    go_ret
    exact⟨rfl,bA⟩
  ·have hnx:=fun ty=>run_next_end (P:=Zb) w (Aa l) k ty hlt
   have hz:l.length=a.length:=by omega
   go_wp2_with fail
   go_ret
   exact⟨Hb (by omega),bA⟩
theorem mE(a b:Bs)(ha:∀c,c∈a→c.toNat<128∧Fh (c.toNat:Nat)=true)(hb:Hr Fh b)(w:World):
  Calls Zb 84 #[.string (Aa (a++b)),.func (.func 91) #[] #[]] w fun e w'=>e= .returned (.int .i64 a.length)∧Below w.heap.size w w':=by
 have HAA:=Za ha;have HBB:=Za hb;obtain⟨l,hl⟩:∃l,l=a++b:=⟨_,rfl⟩;rw[←hl];have HL:=Za hl;have hlen:l.length=a.length+b.length:=by rw[hl,Zd]
 have hle:a.length≤l.length:=by omega
 have HLEN:=Za hlen;clear ha hb hl hlen;go_enter Tryz.func84,Tryz.ntmps84
 go_wp2_with fail
 go_loopw [5,6] (fun _ _ wr=> ∃k:Nat,k≤a.length∧wr=w.iter (Aa l) k) (fun _ _ wr=>a.length+1 - wr.iterPos w.heap.size)
 case atStart=>exact⟨0,Nat.zero_le _,rfl⟩
 case round=>
  obtain⟨k,hk,rfl⟩:=hrel
  by_cases hlt:k<l.length
  ·have hnx:=fun ty=>run_next_any (P:=Zb) w (Aa l) k ty hlt
   have hs:k<(Aa l).size:=hlt
   by_cases hka:k<a.length
   ·have hc:l[k]=a[k]:=by have:=HL.out;subst this;exact Zj hka
    have hq:=HAA.out a[k] (List.getElem_mem hka);rw[decode_ascii (Aa l) k hs (by show l[k].toNat<128;rw[hc];exact hq.1)]at hnx;have he:(Aa l)[k]'hs=l[k]:=rfl;rw[he,hc]at hnx;have HQ:=Za hq.2;clear hc hq he;go_wp2_with fail
    refine(Iv _ _).mono ?_;rw[HQ.out];rintro e w1 ⟨rfl,rfl⟩;go_wp2_with fail
    go_roundw
    case rel=>exact⟨k+1,hka,rfl⟩
    case measure=>simp;omega
   ·have hke:k=a.length:=by omega
    subst hke;have hbn:b≠[]:=by intro e;have:=HLEN.out;rw[e]at this;simp at this;omega
    obtain⟨c,r,hb,hc1,hc2⟩:=HBB.out.resolve_left hbn;have hc:l[a.length]=c:=by have:=HL.out;subst this;subst hb;simp
    rw[decode_ascii (Aa l) _ hs (by show l[a.length].toNat<128;rw[hc];exact hc1)]at hnx;have he:(Aa l)[a.length]'hs=l[a.length]:=rfl;rw[he,hc]at hnx;have HQ:=Za hc2;clear hc hc1 hc2 hb he;go_wp2_with fail
    refine(Iv _ _).mono ?_;rw[HQ.out];rintro e w1 ⟨rfl,rfl⟩;go_wp2_with fail
    go_ret
    exact⟨rfl,bA⟩
  ·have hnx:=fun ty=>run_next_end (P:=Zb) w (Aa l) k ty hlt
   have hz:l.length=a.length:=by omega
   go_wp2_with fail
   go_ret
   exact⟨Hb (by omega),bA⟩
def Gu(kind:Int)(text:Bs)(n line:Int):Value:= .agg #[.int .i64 kind,.string (Aa text),.int .i64 n,.int .i64 line]
theorem Ie(a b:Bs):(Aa (a++b)).extract 0 a.length=Aa a:=by
 apply ByteArray.ext
 rw[ByteArray.data_extract];simp [Aa]
theorem bQ(w0 w:World)(h:Below w0.heap.size w0 w)(v0 v1 v2 v3:Value):Below w0.heap.size w0 ((((w.setCell ⟨w0.heap.size,0,none⟩ v0).setCell ⟨w0.heap.size,1,none⟩ v1).setCell ⟨w0.heap.size,2,none⟩ v2).setCell ⟨w0.heap.size,3,none⟩ v3):=
 have st:∀(v:World) (i:Nat) (x:Value),Below w0.heap.size v (v.setCell ⟨w0.heap.size,i,none⟩ x):=fun v i x=>(Ze _ _).setCell (p:=⟨w0.heap.size,i,none⟩) (Zf _) x
 (((h.trans (st _ _ _)).trans (st _ _ _)).trans (st _ _ _)).trans (st _ _ _)
theorem Xk(a b:Bs)(ha:∀c,c∈a→c.toNat<128∧Ki (c.toNat:Nat)=true)(hb:Hr Ki b)(hk:Ia a=false)(hn:Au a=true)(w:World):
  Calls Zb 90 #[.string (Aa (a++b))] w fun e w'=>e= .returned (.tuple #[Gu 1 a 0 0,.bool true])∧Below w.heap.size w w':=by
 have HR:=Za (fun w1=>eR a b ha hb w1);have HW:=Za hk;have HN:=Za hn;have hl1:(a.length:Int)≤((a++b).length:Int):=by rw[Zd];omega
 have hl2:a.length≤(a++b).length:=by rw[Zd];omega
 have HO:=Za (Zg w [.int .i64 0,.string ⟨#[]⟩,.int .i64 0,.int .i64 0] 50);have HB0:=Za ((Ze w.heap.size w).alloc (Zf _) (.cells #[.int .i64 0,.string ⟨#[]⟩,.int .i64 0,.int .i64 0] 50));clear ha hb hk hn;go_enter Tryz.func90,Tryz.ntmps90
 go_wp2_with fail
 refine(HR.out _).mono ?_;rintro e w1 ⟨rfl,hb1⟩;have HO1:=Za (HO.out.old hb1);have HB1:=Za (HB0.out.trans (hb1.mono HB0.out.size));clear hb1;go_wp2_with fail
 rw[Ie];refine(Qd a _).mono ?_;rw[HW.out];rintro e w2 ⟨rfl,hw2⟩;obtain rfl:w1=w2:=hw2;go_wp2_with fail
 refine(Lb a _).mono ?_;rw[HN.out];rintro e w2 ⟨rfl,hb2⟩;have HO2:=Za (HO1.out.old hb2);have HB2:=Za (HB1.out.trans (hb2.mono HB1.out.size));clear hb2;have q0:=HO2.out.at 0 _ rfl;have q1:=HO2.out.at 1 _ rfl;have q2:=HO2.out.at 2 _ rfl;have q3:=HO2.out.at 3 _ rfl;have f0:=HO2.out.fz 0;have f1:=HO2.out.fz 1;have f2:=HO2.out.fz 2;have f3:=HO2.out.fz 3;have ql:=HO2.out.lt;go_wp2_with fail
 have HS:=Za ((((HO2.out.set 0 (.int .i64 1)).set 1 (.string (Aa a))).set 2 (.int .i64 0)).set 3 (.int .i64 0));have e0:=HS.out.at 0 _ rfl;have e1:=HS.out.at 1 _ rfl;have e2:=HS.out.at 2 _ rfl;have e3:=HS.out.at 3 _ rfl;exact bodyPost_ret (v:= .tuple #[Gu 1 a 0 0,.bool true]) (by simp [results,Tryz.results90,go_sem,Gu,e0,e1,e2,e3]) rfl ⟨rfl,bQ w _ HB2.out _ _ _ _⟩
theorem Yd(a b:Bs)(ha:∀c,c∈a→c.toNat<128∧Ki (c.toNat:Nat)=true)(hb:Hr Ki b)(hk:Ia a=true)(w:World):
  Calls Zb 90 #[.string (Aa (a++b))] w fun e w'=>e= .returned (.tuple #[Gu 2 a 0 0,.bool true])∧Below w.heap.size w w':=by
 have HR:=Za (fun w1=>eR a b ha hb w1);have HW:=Za hk;have hl1:(a.length:Int)≤((a++b).length:Int):=by rw[Zd];omega
 have hl2:a.length≤(a++b).length:=by rw[Zd];omega
 have HO:=Za (Zg w [.int .i64 0,.string ⟨#[]⟩,.int .i64 0,.int .i64 0] 50);have HB0:=Za ((Ze w.heap.size w).alloc (Zf _) (.cells #[.int .i64 0,.string ⟨#[]⟩,.int .i64 0,.int .i64 0] 50));clear ha hb hk;go_enter Tryz.func90,Tryz.ntmps90
 go_wp2_with fail
 refine(HR.out _).mono ?_;rintro e w1 ⟨rfl,hb1⟩;have HO1:=Za (HO.out.old hb1);have HB1:=Za (HB0.out.trans (hb1.mono HB0.out.size));clear hb1;go_wp2_with fail
 rw[Ie];refine(Qd a _).mono ?_;rw[HW.out];rintro e w2 ⟨rfl,hw2⟩;obtain rfl:w1=w2:=hw2;have q0:=HO1.out.at 0 _ rfl;have q1:=HO1.out.at 1 _ rfl;have q2:=HO1.out.at 2 _ rfl;have q3:=HO1.out.at 3 _ rfl;have f0:=HO1.out.fz 0;have f1:=HO1.out.fz 1;have f2:=HO1.out.fz 2;have f3:=HO1.out.fz 3;have ql:=HO1.out.lt;go_wp2_with fail
 have HS:=Za ((((HO1.out.set 0 (.int .i64 2)).set 1 (.string (Aa a))).set 2 (.int .i64 0)).set 3 (.int .i64 0));have e0:=HS.out.at 0 _ rfl;have e1:=HS.out.at 1 _ rfl;have e2:=HS.out.at 2 _ rfl;have e3:=HS.out.at 3 _ rfl;exact bodyPost_ret (v:= .tuple #[Gu 2 a 0 0,.bool true]) (by simp [results,Tryz.results90,go_sem,Gu,e0,e1,e2,e3]) rfl ⟨rfl,bQ w _ HB1.out _ _ _ _⟩
theorem Ku(u:Nat):∀c,c∈Zc u→Db c=true:=by
 induction u using Nat.strongRecOn with
 |_ u ih=>
  intro c hc;have dig:∀d,d<10→Db (UInt8.ofNat (48+d))=true:=by decide
  rw[Zc]at hc
  by_cases h:u<10
  ·rw[dif_pos h]at hc
   rw[List.mem_singleton.1 hc];exact dig u h
  ·rw[dif_neg h]at hc
   rcases List.mem_append.1 hc with hc|hc
   ·exact ih (u / 10) (by omega) c hc
   ·rw[List.mem_singleton.1 hc];exact dig _ (by omega)
theorem Sk(u:Nat):Zc u≠[]:=by
 rw[Zc];split
 ·exact List.cons_ne_nil _ _
 ·simp
theorem Vd(b:UInt8)(d:Nat)(hb:b.toNat=48+d)(hd:d<10):∀(l:List UInt8) (acc n:Nat),Zh acc l= .ok n→n*10+d<18446744073709551616→Zh acc (l++[b])= .ok (n*10+d)
 |[],acc,n,h,hn=>by
  simp only[Zh]at h
  cases h
  show Zh acc [b]=_
  simp only[Zh];rw[if_pos (by omega),if_neg (by omega),if_neg (by omega)];congr 2;omega
 |c::l,acc,n,h,hn=>by
  simp only[Zh,List.cons_append]at h ⊢;split at h
  ·rename_i h1
   rw[if_pos h1];split at h
   ·cases h
   ·rename_i h2
    rw[if_neg h2];split at h
    ·cases h
    ·rename_i h3
     rw[if_neg h3];exact Vd b d hb hd l _ n h hn
  ·cases h
theorem fO(u:Nat)(hu:u<18446744073709551616):Zh 0 (Zc u)= .ok u:=by
 induction u using Nat.strongRecOn with
 |_ u ih=>
  have hb:∀d,d<10→(UInt8.ofNat (48+d)).toNat=48+d:=fun d hd=>by rw[UInt8.toNat_ofNat'];exact Nat.mod_eq_of_lt (by omega)
  rw[Zc]
  by_cases h:u<10
  ·rw[dif_pos h]
   have:=Vd (UInt8.ofNat (48+u)) u (hb u h) h [] 0 0 rfl (by omega);simpa using this
  ·rw[dif_neg h]
   have:=Vd (UInt8.ofNat (48+u % 10)) (u % 10) (hb _ (by omega)) (by omega) _ 0 _ (ih (u / 10) (by omega) (by omega)) (by omega);rw[this];congr 1;omega
theorem pH(u:Nat)(hn:Zc u≠[])(hm:∀c,c∈Zc u→48≤c.toNat∧c.toNat≤57)(hu:u≤9223372036854775807):Lib.atoiAll (Zc u)= .ok (u:Int):=by
 have hp:=fO u (by omega);generalize Zc u=l at*
 cases l with
 |nil=>exact absurd rfl hn
 |cons c r=>
  have hc:=hm c List.mem_cons_self;unfold Lib.atoiAll;dsimp only;rw[if_neg (by omega)];unfold Lib.parseMag;rw[if_neg (by simp),hp];dsimp only;rw[if_neg (by omega),if_neg (by omega),if_neg (by omega)]
def bN(w:World):Prop:=Lib.TabIs Zb w "internal/strconv.uint64pow10" .u64 Lib.pow10Tab
theorem bN.keep {w w':World}(h:bN w)(hb:w'.heap[3]? =w.heap[3]?):bN w':=by
 have hg:Tryz.prog.globalNamed "internal/strconv.uint64pow10" =some 3:=by kernel_rfl
 unfold bN Lib.TabIs World.var? at*;simp only[hg,Option.bind_eq_bind,Option.bind_some]at*;rw[hb];exact h
theorem nR(n:Int)(h0: -9223372036854775808≤n)(h1:n≤9223372036854775807)(w:World)(ht:bN w):
  Calls Zb 35 #[.int .i64 n] w fun e w'=>e= .returned (.string (Aa (Lib.itoa n)))∧Below w.heap.size w w':=by
 refine(Tryz.strconv_Itoa n h0 h1 w ht).mono ?_;rintro e w' ⟨rfl,k,os,rfl⟩;exact⟨rfl,rfl,rfl,rfl,by simp,fun i hi=>by simp [Sort.grow,World.drewN,Array.getElem?_append_left hi]⟩
theorem Sv(u:Nat)(b:Bs)(hu:(Zc u).length≤19)(hi:u≤9223372036854775807)(hb:Hr Fh b)(w:World)(hg:3<w.heap.size)(ht:bN w):
  Calls Zb 92 #[.string (Aa (Zc u++b))] w fun e w'=>e= .returned (.tuple #[Gu 3 (Zc u) u 0,.bool true])∧Below w.heap.size w w':=by
 have hA:=pH u (Sk u) (fun c hc=>by have:=Ku u c hc;simp [Db,UInt8.le_iff_toNat_le]at this;omega) hi;have hI:Lib.itoa (u:Int)=Zc u:=by unfold Lib.itoa;rw[if_neg (by omega)];simp
 have ha:∀c,c∈Zc u→c.toNat<128∧Fh (c.toNat:Nat)=true:=fun c hc=>by
  have:=Ku u c hc;refine⟨?_,by rw[Kz];exact this⟩;simp [Db,UInt8.le_iff_toNat_le]at this;omega
 have HR:=Za (fun w1=>mE (Zc u) b ha hb w1);have HA:=Za hA;have HI:=Za hI;have HT:=Za ht;have HU:=Za hu;generalize Zc u=a at*;have hl1:(a.length:Int)≤((a++b).length:Int):=by rw[Zd];omega
 have hl2:a.length≤(a++b).length:=by rw[Zd];omega
 have HO:=Za (Zg w [.int .i64 0,.string ⟨#[]⟩,.int .i64 0,.int .i64 0] 50);have HB0:=Za ((Ze w.heap.size w).alloc (Zf _) (.cells #[.int .i64 0,.string ⟨#[]⟩,.int .i64 0,.int .i64 0] 50));clear ha hb hA hI ht hu;go_enter Tryz.func92,Tryz.ntmps92
 go_wp2_with fail
 refine(HR.out _).mono ?_;rintro e w1 ⟨rfl,hb1⟩;have HO1:=Za (HO.out.old hb1);have HB1:=Za (HB0.out.trans (hb1.mono HB0.out.size));clear hb1;go_wp2_with fail
 rw[Ie];refine(Tryz.strconv_Atoi_ok (Aa a) (by show a.length≤_;have:=HU.out;omega) (u:Int) HA.out w1).mono ?_;rintro e w2 ⟨rfl,hw2⟩;have hb2:Below w1.heap.size w1 w2:=by
  rcases hw2 with rfl|⟨t,rfl⟩
  ·exact Ze _ _
  ·exact Joins.below_bytesWorld _ w1 5 t (Zf _)
 have HO2:=Za (HO1.out.old hb2);have HB2:=Za (HB1.out.trans (hb2.mono HB1.out.size));clear hb2 hw2;go_wp2_with fail
 have ht2:bN w2:=HT.out.keep (HB2.out.block _ hg);refine(nR (u:Int) (by omega) (by omega) w2 ht2).mono ?_;rw[HI.out];rintro e w3 ⟨rfl,hb3⟩;have HO3:=Za (HO2.out.old hb3);have HB3:=Za (HB2.out.trans (hb3.mono HB2.out.size));clear hb3 ht2;have q0:=HO3.out.at 0 _ rfl;have f0:=HO3.out.fz 0;have q1:=HO3.out.at 1 _ rfl;have f1:=HO3.out.fz 1;have q2:=HO3.out.at 2 _ rfl;have f2:=HO3.out.fz 2;have q3:=HO3.out.at 3 _ rfl;have f3:=HO3.out.fz 3;have ql:=HO3.out.lt;go_wp2_with fail
 have HS:=Za ((((HO3.out.set 0 (.int .i64 3)).set 1 (.string (Aa a))).set 2 (.int .i64 u)).set 3 (.int .i64 0));have e0:=HS.out.at 0 _ rfl;have e1:=HS.out.at 1 _ rfl;have e2:=HS.out.at 2 _ rfl;have e3:=HS.out.at 3 _ rfl;exact bodyPost_ret (v:= .tuple #[Gu 3 a u 0,.bool true]) (by simp [results,Tryz.results92,go_sem,Gu,e0,e1,e2,e3]) rfl ⟨rfl,bQ w _ HB3.out _ _ _ _⟩
def dS:List Bs:=[[61,61],[33,61],[60,61],[62,61],[60,60],[62,62],[40],[41],[123],[125],[91],[93],[44],[59],[61],[124],[94],[38],[43],[45],[42],[47],[37],[33],[126],[60],[62]]
def Ld(l:Bs):Bool:=dS.contains l
theorem Hg {t:Bs}(h:Ld t=true):t=[61,61]∨t=[33,61]∨t=[60,61]∨t=[62,61]∨t=[60,60]∨t=[62,62]∨t=[40]∨t=[41]∨t=[123]∨t=[125]∨t=[91]∨t=[93]∨t=[44]∨t=[59]∨t=[61]∨t=[124]∨t=[94]∨t=[38]∨t=[43]∨t=[45]∨t=[42]∨t=[47]∨t=[37]∨t=[33]∨t=[126]∨t=[60]∨t=[62]:=by
 simpa [Ld,dS]using h
theorem Sg(a b:Bs)(ha:Ld a=true)(h1:a.length=1→∃c r,b=c::r∧(c==61)=false∧(c==60)=false∧(c==62)=false)(w:World):
  Calls Zb 94 #[.string (Aa (a++b))] w fun e w'=>e= .returned (.tuple #[Gu 4 a 0 0,.bool true])∧Below w.heap.size w w':=by
 have hlen:a.length=1∨a.length=2:=by
  rcases Hg ha with rfl|rfl|rfl|rfl|rfl|rfl|rfl|rfl|rfl|rfl|rfl|rfl|rfl|rfl|rfl|rfl|rfl|rfl|rfl|rfl|rfl|rfl|rfl|rfl|rfl|rfl|rfl<;>simp
 rcases hlen with hl|hl
 ·obtain⟨c,r,rfl,c1,c2,c3⟩:=h1 hl
  have hx2:(Aa (a++c::r)).extract 0 2=Aa (a++[c]):=by
   have:=Ie (a++[c]) r;rw[Zd,hl]at this;simpa using this
  have hx1:(Aa (a++c::r)).extract 0 1=Aa a:=by
   have:=Ie a (c::r)
   rwa[hl]at this
  have hz:2≤(a++c::r).length:=by rw[Zd,hl,Zi];omega
  have hz1:1≤(a++c::r).length:=by omega
  have hzI:(2:Int)≤((a++c::r).length:Int):=by omega
  have hm:min (2:Int) ((a++c::r).length:Int)=2:=by omega
  generalize a++c::r=l at*;rcases Hg ha with rfl|rfl|rfl|rfl|rfl|rfl|rfl|rfl|rfl|rfl|rfl|rfl|rfl|rfl|rfl|rfl|rfl|rfl|rfl|rfl|rfl|rfl|rfl|rfl|rfl|rfl|rfl
  iterate 6 (simp at hl)
  all_goals
   clear h1 ha hl;go_enter Tryz.func94,Tryz.ntmps94
   go_wp2_with fail
   refine wp_loop_rounds 2 ?_;rw[rounds_succ];go_wp2_with fail
   rw[rounds_succ];go_wp2_with fail
   exact bodyPost_ret (v:= .tuple #[Gu 4 _ 0 0,.bool true]) (by simp [results,Tryz.results94,go_sem,Gu]) rfl ⟨rfl,bA⟩
 ·have hx2:(Aa (a++b)).extract 0 2=Aa a:=by
   have:=Ie a b
   rwa[hl]at this
  have hz:2≤(a++b).length:=by rw[Zd,hl];omega
  have hzI:(2:Int)≤((a++b).length:Int):=by omega
  have hm:min (2:Int) ((a++b).length:Int)=2:=by omega
  generalize a++b=l at*;rcases Hg ha with rfl|rfl|rfl|rfl|rfl|rfl|rfl|rfl|rfl|rfl|rfl|rfl|rfl|rfl|rfl|rfl|rfl|rfl|rfl|rfl|rfl|rfl|rfl|rfl|rfl|rfl|rfl
  iterate 6
   ·clear h1 ha hl
    go_enter Tryz.func94,Tryz.ntmps94
    go_wp2_with fail
    refine wp_loop_rounds 1 ?_;rw[rounds_succ];go_wp2_with fail
    exact bodyPost_ret (v:= .tuple #[Gu 4 _ 0 0,.bool true]) (by simp [results,Tryz.results94,go_sem,Gu]) rfl ⟨rfl,bA⟩
  all_goals simp at hl
theorem Mi(c:UInt8)(s:Bs)(hc:Ck c=true)(h7:c.toNat<128)(v1:Int)(v2:Bs)(v3:Int)(w:World)(hT:∀w1,Below w.heap.size w w1→Calls Zb 90 #[.string (Aa (c::s))] w1 fun e w'=>e= .returned (.tuple #[Gu v1 v2 v3 0,.bool true])∧Below w1.heap.size w1 w'):
  Calls Zb 41 #[.string (Aa (c::s))] w fun e w'=>e= .returned (.tuple #[Gu v1 v2 v3 0,.bool true])∧Below w.heap.size w w':=by
 have HT:=Za hT;have h0:0<(Aa (c::s)).size:=by show 0<(c::s).length;simp
 have hz:(0:Int)<((c::s).length:Int):=by rw[Zi];omega
 have hzN:0<(c::s).length:=by simp
 have hwr:wrap32 (((Aa (c::s))[0]'h0).toNat:Int)=(c.toNat:Int):=by
  show wrap32 (c.toNat:Int)=_
  unfold wrap32;omega
 have HWR:=Za hwr;have HO:=Za (Zg w [.int .i64 0,.string ⟨#[]⟩,.int .i64 0,.int .i64 0] 50);have HB0:=Za ((Ze w.heap.size w).alloc (Zf _) (.cells #[.int .i64 0,.string ⟨#[]⟩,.int .i64 0,.int .i64 0] 50));have HL:=Za (show Fp (c.toNat:Nat)=true by rw[Jp];exact hc);clear hc;clear hT hwr;go_enter Tryz.func41,Tryz.ntmps41
 go_wp2_with fail
 rw[HWR.out];refine(Fs _ _).mono ?_;rw[HL.out];rintro e w1 ⟨rfl,rfl⟩;go_wp2_with fail
 refine(HT.out _ HB0.out).mono ?_;rintro e w3 ⟨rfl,hb3⟩;unfold Gu;have HO3:=Za (HO.out.old hb3);have HB3:=Za (HB0.out.trans (hb3.mono HB0.out.size));clear hb3;have q0:=HO3.out.at 0 _ rfl;have f0:=HO3.out.fz 0;have q1:=HO3.out.at 1 _ rfl;have f1:=HO3.out.fz 1;have q2:=HO3.out.at 2 _ rfl;have f2:=HO3.out.fz 2;have q3:=HO3.out.at 3 _ rfl;have f3:=HO3.out.fz 3;have ql:=HO3.out.lt;go_wp2_with fail
 have HS:=Za ((((HO3.out.set 0 (.int .i64 v1)).set 1 (.string (Aa v2))).set 2 (.int .i64 v3)).set 3 (.int .i64 0));have e0:=HS.out.at 0 _ rfl;have e1:=HS.out.at 1 _ rfl;have e2:=HS.out.at 2 _ rfl;have e3:=HS.out.at 3 _ rfl;exact bodyPost_ret (v:= .tuple #[.agg #[.int .i64 v1,.string (Aa v2),.int .i64 v3,.int .i64 0],.bool true]) (by simp [results,Tryz.results41,go_sem,e0,e1,e2,e3]) rfl ⟨rfl,bQ w _ HB3.out _ _ _ _⟩
theorem Qj(c:UInt8)(s:Bs)(hc:Db c=true)(h7:c.toNat<128)(v1:Int)(v2:Bs)(v3:Int)(w:World)(hT:∀w1,Below w.heap.size w w1→Calls Zb 92 #[.string (Aa (c::s))] w1 fun e w'=>e= .returned (.tuple #[Gu v1 v2 v3 0,.bool true])∧Below w1.heap.size w1 w'):
  Calls Zb 41 #[.string (Aa (c::s))] w fun e w'=>e= .returned (.tuple #[Gu v1 v2 v3 0,.bool true])∧Below w.heap.size w w':=by
 have HT:=Za hT;have h0:0<(Aa (c::s)).size:=by show 0<(c::s).length;simp
 have hz:(0:Int)<((c::s).length:Int):=by rw[Zi];omega
 have hzN:0<(c::s).length:=by simp
 have hwr:wrap32 (((Aa (c::s))[0]'h0).toNat:Int)=(c.toNat:Int):=by
  show wrap32 (c.toNat:Int)=_
  unfold wrap32;omega
 have HWR:=Za hwr;have HO:=Za (Zg w [.int .i64 0,.string ⟨#[]⟩,.int .i64 0,.int .i64 0] 50);have HB0:=Za ((Ze w.heap.size w).alloc (Zf _) (.cells #[.int .i64 0,.string ⟨#[]⟩,.int .i64 0,.int .i64 0] 50));have HL:=Za (show Fp (c.toNat:Nat)=false by rw[Jp];simp [Ck,Db,UInt8.le_iff_toNat_le,←UInt8.toNat_inj]at hc ⊢;omega);have HD:=Za (show Fh (c.toNat:Nat)=true by rw[Kz];exact hc);clear hc;clear hT hwr;go_enter Tryz.func41,Tryz.ntmps41
 go_wp2_with fail
 rw[HWR.out];refine(Fs _ _).mono ?_;rw[HL.out];rintro e w1 ⟨rfl,rfl⟩;go_wp2_with fail
 refine(Iv _ _).mono ?_;rw[HD.out];rintro e w1 ⟨rfl,rfl⟩;go_wp2_with fail
 refine(HT.out _ HB0.out).mono ?_;rintro e w3 ⟨rfl,hb3⟩;unfold Gu;have HO3:=Za (HO.out.old hb3);have HB3:=Za (HB0.out.trans (hb3.mono HB0.out.size));clear hb3;have q0:=HO3.out.at 0 _ rfl;have f0:=HO3.out.fz 0;have q1:=HO3.out.at 1 _ rfl;have f1:=HO3.out.fz 1;have q2:=HO3.out.at 2 _ rfl;have f2:=HO3.out.fz 2;have q3:=HO3.out.at 3 _ rfl;have f3:=HO3.out.fz 3;have ql:=HO3.out.lt;go_wp2_with fail
 have HS:=Za ((((HO3.out.set 0 (.int .i64 v1)).set 1 (.string (Aa v2))).set 2 (.int .i64 v3)).set 3 (.int .i64 0));have e0:=HS.out.at 0 _ rfl;have e1:=HS.out.at 1 _ rfl;have e2:=HS.out.at 2 _ rfl;have e3:=HS.out.at 3 _ rfl;exact bodyPost_ret (v:= .tuple #[.agg #[.int .i64 v1,.string (Aa v2),.int .i64 v3,.int .i64 0],.bool true]) (by simp [results,Tryz.results41,go_sem,e0,e1,e2,e3]) rfl ⟨rfl,bQ w _ HB3.out _ _ _ _⟩
theorem dQ(c:UInt8)(s:Bs)(hc:c=39)(h7:c.toNat<128)(v1:Int)(v2:Bs)(v3:Int)(w:World)(hT:∀w1,Below w.heap.size w w1→Calls Zb 93 #[.string (Aa (c::s))] w1 fun e w'=>e= .returned (.tuple #[Gu v1 v2 v3 0,.bool true])∧Below w1.heap.size w1 w'):
  Calls Zb 41 #[.string (Aa (c::s))] w fun e w'=>e= .returned (.tuple #[Gu v1 v2 v3 0,.bool true])∧Below w.heap.size w w':=by
 have HT:=Za hT;have h0:0<(Aa (c::s)).size:=by show 0<(c::s).length;simp
 have hz:(0:Int)<((c::s).length:Int):=by rw[Zi];omega
 have hzN:0<(c::s).length:=by simp
 have hwr:wrap32 (((Aa (c::s))[0]'h0).toNat:Int)=(c.toNat:Int):=by
  show wrap32 (c.toNat:Int)=_
  unfold wrap32;omega
 have HWR:=Za hwr;have HO:=Za (Zg w [.int .i64 0,.string ⟨#[]⟩,.int .i64 0,.int .i64 0] 50);have HB0:=Za ((Ze w.heap.size w).alloc (Zf _) (.cells #[.int .i64 0,.string ⟨#[]⟩,.int .i64 0,.int .i64 0] 50));have HL:=Za (show Fp (c.toNat:Nat)=false by rw[hc];rfl);have HD:=Za (show Fh (c.toNat:Nat)=false by rw[hc];rfl);have hq:((c.toNat:Int)==39)=true:=by rw[hc];rfl
 clear hc;clear hT hwr;go_enter Tryz.func41,Tryz.ntmps41
 go_wp2_with fail
 rw[HWR.out];refine(Fs _ _).mono ?_;rw[HL.out];rintro e w1 ⟨rfl,rfl⟩;go_wp2_with fail
 refine(Iv _ _).mono ?_;rw[HD.out];rintro e w1 ⟨rfl,rfl⟩;go_wp2_with fail
 refine(HT.out _ HB0.out).mono ?_;rintro e w3 ⟨rfl,hb3⟩;unfold Gu;have HO3:=Za (HO.out.old hb3);have HB3:=Za (HB0.out.trans (hb3.mono HB0.out.size));clear hb3;have q0:=HO3.out.at 0 _ rfl;have f0:=HO3.out.fz 0;have q1:=HO3.out.at 1 _ rfl;have f1:=HO3.out.fz 1;have q2:=HO3.out.at 2 _ rfl;have f2:=HO3.out.fz 2;have q3:=HO3.out.at 3 _ rfl;have f3:=HO3.out.fz 3;have ql:=HO3.out.lt;go_wp2_with fail
 have HS:=Za ((((HO3.out.set 0 (.int .i64 v1)).set 1 (.string (Aa v2))).set 2 (.int .i64 v3)).set 3 (.int .i64 0));have e0:=HS.out.at 0 _ rfl;have e1:=HS.out.at 1 _ rfl;have e2:=HS.out.at 2 _ rfl;have e3:=HS.out.at 3 _ rfl;exact bodyPost_ret (v:= .tuple #[.agg #[.int .i64 v1,.string (Aa v2),.int .i64 v3,.int .i64 0],.bool true]) (by simp [results,Tryz.results41,go_sem,e0,e1,e2,e3]) rfl ⟨rfl,bQ w _ HB3.out _ _ _ _⟩
theorem Mr(c:UInt8)(s:Bs)(hc:Ck c=false∧Db c=false∧c≠39)(h7:c.toNat<128)(v1:Int)(v2:Bs)(v3:Int)(w:World)(hT:∀w1,Below w.heap.size w w1→Calls Zb 94 #[.string (Aa (c::s))] w1 fun e w'=>e= .returned (.tuple #[Gu v1 v2 v3 0,.bool true])∧Below w1.heap.size w1 w'):
  Calls Zb 41 #[.string (Aa (c::s))] w fun e w'=>e= .returned (.tuple #[Gu v1 v2 v3 0,.bool true])∧Below w.heap.size w w':=by
 have HT:=Za hT;have h0:0<(Aa (c::s)).size:=by show 0<(c::s).length;simp
 have hz:(0:Int)<((c::s).length:Int):=by rw[Zi];omega
 have hzN:0<(c::s).length:=by simp
 have hwr:wrap32 (((Aa (c::s))[0]'h0).toNat:Int)=(c.toNat:Int):=by
  show wrap32 (c.toNat:Int)=_
  unfold wrap32;omega
 have HWR:=Za hwr;have HO:=Za (Zg w [.int .i64 0,.string ⟨#[]⟩,.int .i64 0,.int .i64 0] 50);have HB0:=Za ((Ze w.heap.size w).alloc (Zf _) (.cells #[.int .i64 0,.string ⟨#[]⟩,.int .i64 0,.int .i64 0] 50));have HL:=Za (show Fp (c.toNat:Nat)=false by rw[Jp];exact hc.1);have HD:=Za (show Fh (c.toNat:Nat)=false by rw[Kz];exact hc.2.1);have hq:((c.toNat:Int)==39)=false:=by
  rw[beq_eq_false_iff_ne];intro e;exact hc.2.2 (by rw[←UInt8.toNat_inj];show c.toNat=39;omega)
 clear hc;clear hT hwr;go_enter Tryz.func41,Tryz.ntmps41
 go_wp2_with fail
 rw[HWR.out];refine(Fs _ _).mono ?_;rw[HL.out];rintro e w1 ⟨rfl,rfl⟩;go_wp2_with fail
 refine(Iv _ _).mono ?_;rw[HD.out];rintro e w1 ⟨rfl,rfl⟩;go_wp2_with fail
 refine(HT.out _ HB0.out).mono ?_;rintro e w3 ⟨rfl,hb3⟩;unfold Gu;have HO3:=Za (HO.out.old hb3);have HB3:=Za (HB0.out.trans (hb3.mono HB0.out.size));clear hb3;have q0:=HO3.out.at 0 _ rfl;have f0:=HO3.out.fz 0;have q1:=HO3.out.at 1 _ rfl;have f1:=HO3.out.fz 1;have q2:=HO3.out.at 2 _ rfl;have f2:=HO3.out.fz 2;have q3:=HO3.out.at 3 _ rfl;have f3:=HO3.out.fz 3;have ql:=HO3.out.lt;go_wp2_with fail
 have HS:=Za ((((HO3.out.set 0 (.int .i64 v1)).set 1 (.string (Aa v2))).set 2 (.int .i64 v3)).set 3 (.int .i64 0));have e0:=HS.out.at 0 _ rfl;have e1:=HS.out.at 1 _ rfl;have e2:=HS.out.at 2 _ rfl;have e3:=HS.out.at 3 _ rfl;exact bodyPost_ret (v:= .tuple #[.agg #[.int .i64 v1,.string (Aa v2),.int .i64 v3,.int .i64 0],.bool true]) (by simp [results,Tryz.results41,go_sem,e0,e1,e2,e3]) rfl ⟨rfl,bQ w _ HB3.out _ _ _ _⟩
structure Iy (w:World):Prop where
 pow:bN w
 max:∃m,w.cell? ⟨0,0,none⟩=some (.int .i64 m)
 utf:Lib.Utf8Tabs 1 2 w
theorem Iy.lt {w:World}(h:Iy w):3<w.heap.size:=by
 have gTab:Tryz.prog.globalNamed "internal/strconv.uint64pow10" =some 3:=by kernel_rfl
 exact World.block_lt_of_cell? _ _ (Lib.TabIs.cell h.pow gTab 0 (by decide))
theorem Iy.old {w w':World}(h:Iy w)(hb:Below w.heap.size w w'):Iy w':=
 ⟨h.pow.keep (hb.block _ h.lt),by obtain⟨m,hm⟩:=h.max;exact⟨m,Ad hb hm⟩,Utf8Tabs_below h.utf hb⟩
theorem Sm {B:Nat}{a w:World}(h:Below B a w)(n:Nat):Below B a (w.drewN n):=⟨h.os,h.tape,h.output,h.size,h.block⟩
theorem cI(c s:Bs)(hcut:Lib.cut (c++s) [10]=(c,s.drop 1,true))(hval:Lib.validD c=true)(hcon:Lib.contains c [239,191,189]=false)(hz:(c++s).length≤1000000)(w:World)(hl:Iy w):
  Calls Zb 88 #[.string (Aa (c++s))] w fun e w'=>e= .returned (.tuple #[.string (Aa c),.bool true])∧Below w.heap.size w w':=by
 have HL:=Za hl;have HV:=Za hval;have HC:=Za hcon;have HZ:=Za hz;obtain⟨m,hm⟩:=hl.max;have HM:=Za hm;have hcut':Lib.cut (Aa (c++s)).data.toList (Aa [10]).data.toList=(c,s.drop 1,true):=by simpa [Aa]using hcut
 have HK:=Za hcut';clear hcut hval hcon hl hm hz hcut';go_enter Tryz.func88,Tryz.ntmps88
 go_wp2_with fail
 refine(Tryz.strings_Cut (Aa (c++s)) (Aa [10]) m w (by have:=HZ.out;show(c++s).length<_;omega) HM.out).mono ?_;rw[HK.out];rintro e w1 ⟨rfl,n1,rfl⟩;have hl1:Iy (w.drewN n1):=HL.out.old (Sm (Ze w.heap.size w) n1);have hcz:c.length≤1000000:=by have:=HZ.out;rw[Zd]at this;omega
 go_wp2_with fail
 refine(Tryz.utf8_ValidString (Aa c) (w.drewN n1) (by show c.length≤_;omega) hl1.utf).mono ?_;rintro e w2 ⟨he,hb2⟩;have he2:e= .returned (.bool true):=by rw[he];show Ending.returned (.bool (Lib.validD c))=_;rw[HV.out]
 subst he2;have hl2:=hl1.old (hb2:Below (w.drewN n1).heap.size (w.drewN n1) w2);obtain⟨m2,hm2⟩:=hl2.max;have HM2:=Za hm2;have HB2:=Za ((Sm (Ze w.heap.size w) n1).trans hb2);clear he hb2 hl1 hl2 hm2;go_wp2_with fail
 refine(Tryz.strings_Contains (Aa c) (Aa [239,191,189]) m2 w2 (by show c.length<_;omega) HM2.out).mono ?_;rintro e w3 ⟨he,hw3⟩;have he2:e= .returned (.bool false):=by rw[he];show Ending.returned (.bool (Lib.contains c [239,191,189]))=_;rw[HC.out]
 subst he2;obtain rfl:w2=w3:=hw3.symm;clear he;go_wp2_with fail
 go_ret2
 exact⟨rfl,HB2.out⟩
end Go.Proofs.YtcfpfnoldgnloaaGreatDoor
namespace Go.Proofs.YtcfpfnoldgnloaaGreatDoor
open Go.ChangeShapes Go.WideShapes Go.ChangeAt Go.RowKit
set_option maxHeartbeats 4000000
set_option maxRecDepth 100000
theorem zi64 {n:Int}(h:(Lit.int .i64 n).wf=true):I64 n:=by
 simp only[Lit.wf,Bool.and_eq_true,decide_eq_true_eq]at h;exact h
theorem aT {H:Type}{enc:TypeId ×Value→H}{W:World}{base:Nat}{x:Value}{d:DataW H}{p:List MemPlace}(hv:Value.okWide Tryz.prog W .any base 3 x)(h:DataW.Trod enc Tryz.prog W 0 (fun _=>true) true 3 x d p):∃n,x= .int .i64 n∧I64 n:=by
 obtain⟨n,rfl⟩:=okWide_int Tryz.underlying3 hv;obtain⟨fuel,hf⟩:=h;obtain⟨m,e,_,hw⟩:=DataW.trod_int Tryz.underlying3 hf;simp [Value.cells]at e;subst e;exact⟨_,rfl,zi64 hw⟩
theorem zgTab:Tryz.prog.globalNamed "internal/strconv.uint64pow10" =some 3:=by kernel_rfl
theorem mQ:(Tryz.prog.globals[3]?).map (·.type)=some 211:=by kernel_rfl
theorem kY:Tryz.prog.cellsOf 211=20:=by kernel_rfl
theorem zcellsU:Tryz.prog.cellsOf 194=1:=by kernel_rfl
theorem zU8:U8Extra Tryz.prog Tryz.lays196_ren:=⟨by kernel_rfl,by kernel_rfl,by kernel_rfl,by kernel_rfl,by kernel_rfl,by kernel_rfl,by kernel_rfl⟩
theorem zaccept:Rows.laid_unicode_utf8_acceptRanges=Lib.acceptData:=by kernel_rfl
theorem zlib_of {W:World}(h:laidMetH Tryz.prog Rows.parseDeepRow.laid W)(hsh:W.ShapedOpen Tryz.prog):Iy W:=by
 have h':laidMet Tryz.prog Rows.parseDeepRow.laid W:=h;refine⟨?_,?_,?_⟩
 ·exact Lib.tabIs_of_head (rest:=_) zgTab mQ Tryz.underlying211 Tryz.underlying194 zcellsU kY (Qh (Qh h'))
 ·exact cell_of_shapedOpen_int (zero:= #[.int .i64 0]) (t:=3) hsh (of_decide_eq_true (by kernel_rfl)) (by kernel_rfl) rfl (by kernel_rfl) (by kernel_rfl) Tryz.underlying3
 ·refine utf8Tabs_of_readsT (U8Types.of196 Tryz.lays196) zU8 ?_ ?_
  ·have:=Lib.laidMet.reads h' (n:= "unicode/utf8.first") (d:=Rows.laid_unicode_utf8_first) (.tail _ (.tail _ (.tail _ (.tail _ (.tail _ (.tail _ (.head _)))))))
   rw[←Pinned.utf8First_eq];exact this
  ·have:=Lib.laidMet.reads h' (n:= "unicode/utf8.acceptRanges") (d:=Rows.laid_unicode_utf8_acceptRanges) (.tail _ (.tail _ (.tail _ (.head _))))
   rw[←zaccept];exact this
theorem oD:laidOutB Tryz.prog=true:=by kernel_rfl
theorem zagain {H:Type}{enc:TypeId ×Value→H}{t:TypeId}(hr:Tryz.prog.readableRec t=true)(hrow:t<Tryz.prog.types.size){W W':World}{x:Value}{d:DataW H}{p:List MemPlace}(h:DataW.Trod enc Tryz.prog W 0 (fun _=>true) true t x d p)(hb:Below W.heap.size W W')(sp:Nat→Bool)(hsp:∀q,q∈p→sp q.block=true):DataW.Trod enc Tryz.prog W' 0 sp true t x d p:=by
 obtain⟨fuel,hf⟩:=h;have hlt:=DataW.trod_lt _ _ _ _ hf;exact WideElems.Trod_stays oD hr hrow ⟨fuel,hf⟩ (fun q hq=>hb.same (hlt q hq)) hsp
end Go.Proofs.YtcfpfnoldgnloaaGreatDoor
namespace Go.Proofs.YtcfpfnoldgnloaaGreatDoor
open Go.RowKit
set_option maxHeartbeats 20000000
set_option maxRecDepth 100000
open List renaming mem_cons_self→Za,append_assoc→Zb,append_nil→Zc,mem_of_find?_eq_some→Zd
structure T3 where
 kind:Int
 text:Bs
 num:Int
def t3(t:Tk):T3:=⟨t.kind,t.text,t.num⟩
inductive Pc where
 |t (x:T3)
 |g (b:Bs)
def Pc.text:Pc→Bs|t x=>x.text|g b=>b
def Ay(l:List Pc):Bs:=l.flatMap Pc.text
def Gw:List Pc→List T3
 |[]=>[]
 | .t x::l=>x::Gw l
 | .g _::l=>Gw l
theorem As(a b:List Pc):Ay (a++b)=Ay a++Ay b:=List.flatMap_append
theorem Jh:∀a b:List Pc,Gw (a++b)=Gw a++Gw b
 |[],b=>rfl
 | .t x::a,b=>by simp [Gw,Jh a b]
 | .g x::a,b=>by simp [Gw,Jh a b]
abbrev sg(s:Bs):Pc:= .t ⟨4,s,0⟩
abbrev wd(s:Bs):Pc:= .t ⟨2,s,0⟩
abbrev nmp(s:Bs):Pc:= .t ⟨1,s,0⟩
abbrev nu(n:Int):Pc:= .t ⟨3,Lib.itoa n,n⟩
def Jf:List (List Pc)→List Pc
 |[]=>[]
 |x::l=>x++l.flatMap (fun y=>[sg [44],.g [32]]++y)
def Hn(e:Ex)(level:Int)(l:List Pc):List Pc:=if e.kind=4∧Am e.op<level then [sg [40]]++l++[sg [41]]else l
def Gj(k o n:Int)(nm:Bs)(args:List Ex)(ts:List (List Pc)):List Pc:=
 if k=1 then [nu n]
 else if k=2 then [nmp nm]
 else if k=3 then [sg (Aq o)]++Hn (Bx args 0) 9 (ts.getD 0 [])
 else if k=4 then Hn (Bx args 0) (Am o) (ts.getD 0 [])++([.g [32],sg (Aq o),.g [32]])++Hn (Bx args 1) (Am o+1) (ts.getD 1 [])
 else if k=5 then [nmp nm,sg [40]]++Jf ts++[sg [41]]
 else if k=6 then [nmp nm,sg [91]]++ts.getD 0 []++[sg [93]]
 else if k=7 then [wd [114,101,97,100],sg [40],sg [41]]else []
mutual
def Cn:Ex→List Pc
 | .mk k o n nm args=>Gj k o n nm args (jV args)
def jV:List Ex→List (List Pc)
 |[]=>[]
 |x::l=>Cn x::jV l
end
theorem fC:∀l,jV l=l.map Cn
 |[]=>rfl
 |x::l=>by simp [jV,fC l]
theorem Ln(k o n:Int)(nm:Bs)(args:List Ex):Cn (.mk k o n nm args)=Gj k o n nm args (args.map Cn):=by
 rw[Cn,fC]
theorem Uq(o n:Int)(nm:Bs)(args:List Ex):Cn (.mk 1 o n nm args)=[nu n]:=by
 rw[Ln];unfold Gj;rw[if_pos rfl]
theorem Uo(o n:Int)(nm:Bs)(args:List Ex):Cn (.mk 2 o n nm args)=[nmp nm]:=by
 rw[Ln];unfold Gj;rw[if_neg (by decide),if_pos rfl]
def Dl(e:Ex)(level:Int):List Pc:=Hn e level (Cn e)
theorem Vp(o n:Int)(nm:Bs)(x:Ex):Cn (.mk 3 o n nm [x])=sg (Aq o)::Dl x 9:=by
 rw[Ln];unfold Gj;rw[if_neg (by decide),if_neg (by decide),if_pos rfl];rfl
theorem Vb(o n:Int)(nm:Bs)(x y:Ex):Cn (.mk 4 o n nm [x,y])=Dl x (Am o)++([.g [32],sg (Aq o),.g [32]]++Dl y (Am o+1)):=by
 rw[Ln];unfold Gj;rw[if_neg (by decide),if_neg (by decide),if_neg (by decide),if_pos rfl,Zb];rfl
theorem Ml(o n:Int)(nm:Bs)(args:List Ex):Cn (.mk 5 o n nm args)=nmp nm::sg [40]::(Jf (args.map Cn)++[sg [41]]):=by
 rw[Ln];unfold Gj;rw[if_neg (by decide),if_neg (by decide),if_neg (by decide),if_neg (by decide),if_pos rfl];simp
theorem Vk(o n:Int)(nm:Bs)(x:Ex):Cn (.mk 6 o n nm [x])=nmp nm::sg [91]::(Cn x++[sg [93]]):=by
 rw[Ln];unfold Gj;rw[if_neg (by decide),if_neg (by decide),if_neg (by decide),if_neg (by decide),if_neg (by decide),if_pos rfl];rfl
theorem Uw(o n:Int)(nm:Bs)(args:List Ex):Cn (.mk 7 o n nm args)=[wd [114,101,97,100],sg [40],sg [41]]:=by
 rw[Ln];unfold Gj;rw[if_neg (by decide),if_neg (by decide),if_neg (by decide),if_neg (by decide),if_neg (by decide),if_neg (by decide),if_pos rfl]
theorem eD:∀l:List (List Pc),Ay (Jf l)=Bo (l.map Ay)
 |[]=>rfl
 |x::l=>by
  unfold Jf Bo;rw[List.map_cons];dsimp only;rw[As];congr 1
  unfold Ay;rw[List.flatMap_assoc,List.flatMap_map];rfl
theorem Rw(e:Ex)(lv:Int)(l:List Pc):Ay (Hn e lv l)=Fo e lv (Ay l):=by
 unfold Hn Fo;split
 ·rw[As,As];rfl
 ·rfl
theorem Yb(e:Ex):Ay (Cn e)=Al e:=by
 obtain⟨k,o,n,nm,args⟩:=e;rw[Ln,Gx];have ih:(args.map Cn).map Ay=args.map Al:=by
  rw[List.map_map];exact List.map_congr_left (fun x hx=>Yb x)
 have hg:∀i,Ay ((args.map Cn).getD i [])=(args.map Al).getD i []:=by
  intro i;rw[←ih];simp only[List.getD_eq_getElem?_getD,List.getElem?_map]
  cases args[i]? <;>rfl
 show Ay (Gj k o n nm args (args.map Cn))=Fa k o n nm args (args.map Al)
 unfold Gj Fa;split
 ·simp [Ay,Pc.text]
 split
 ·simp [Ay,Pc.text]
 split
 ·rw[As,Rw,hg];simp [Ay,Pc.text]
 split
 ·rw[As,As,Rw,Rw,hg,hg];simp [Ay,Pc.text]
 split
 ·rw[As,As,eD,ih];simp [Ay,Pc.text]
 split
 ·rw[As,As,hg];simp [Ay,Pc.text]
 split
 ·rfl
 ·rfl
termination_by SizeOf.sizeOf e
decreasing_by
 have:=List.sizeOf_lt_of_mem hx;simp only[Ex.mk.sizeOf_spec];omega
def Ev {α:Type}(g:Nat→PR α)(z:PR α):Prop:= ∃f0,∀f,f0≤f→g f=z
theorem Ev.two {α β:Type}{g:Nat→PR α}{h:Nat→PR β}{y:PR α}{z:PR β}(hg:Ev g y)(hh:Ev h z):∃f0,∀f,f0≤f→g f=y∧h f=z:=by
 obtain⟨a,ha⟩:=hg;obtain⟨b,hb⟩:=hh;exact⟨max a b,fun f hf=>⟨ha f (by omega),hb f (by omega)⟩⟩
theorem Ev.succ {α:Type}{g:Nat→PR α}{z:PR α}(h:∃f0,∀f,f0≤f→g (f+1)=z):Ev g z:=by
 obtain⟨a,ha⟩:=h;refine⟨a+1,fun f hf=> ?_⟩;obtain⟨k,rfl⟩:∃k,f=k+1:=⟨f - 1,by omega⟩;exact ha k (by omega)
theorem Ev.const {α:Type}{g:Nat→PR α}{z:PR α}(h:∀f,g (f+1)=z):Ev g z:=Ev.succ ⟨0,fun f _=>h f⟩
theorem Ev.one {α β:Type}{g:Nat→PR α}{h:Nat→PR β}{y:PR α}{z:PR β}(hg:Ev g y)(k:∀f,g f=y→h (f+1)=z):Ev h z:=by
 obtain⟨a,ha⟩:=hg;exact Ev.succ ⟨a,fun f hf=>k f (ha f hf)⟩
theorem Ev.both {α β γ:Type}{g:Nat→PR α}{h:Nat→PR β}{q:Nat→PR γ}{x:PR α}{y:PR β}{z:PR γ}(hg:Ev g x)(hh:Ev h y)(k:∀f,g f=x→h f=y→q (f+1)=z):Ev q z:=by
 obtain⟨a,ha⟩:=Ev.two hg hh;exact Ev.succ ⟨a,fun f hf=>k f (ha f hf).1 (ha f hf).2⟩
def For(ts:List Tk)(l:List Pc):Prop:=ts.map t3=Gw l
theorem For.app {ts:List Tk}{a b:List Pc}(h:For ts (a++b)):∃t1 t2,ts=t1++t2∧For t1 a∧For t2 b:=by
 unfold For at h;rw[Jh]at h;obtain⟨t1,t2,e,h1,h2⟩:=List.map_eq_append_iff.1 h;exact⟨t1,t2,e,h1,h2⟩
theorem For.cons {ts:List Tk}{x:T3}{l:List Pc}(h:For ts (.t x::l)):∃t r,ts=t::r∧t3 t=x∧For r l:=by
 unfold For at h;obtain⟨t,r,e,h1,h2⟩:=List.map_eq_cons_iff.1 (show ts.map t3=x::Gw l from h);exact⟨t,r,e,h1,h2⟩
theorem For.gap {ts:List Tk}{b:Bs}{l:List Pc}(h:For ts (.g b::l)):For ts l:=h
theorem For.nil {ts:List Tk}(h:For ts []):ts=[]:=List.map_eq_nil_iff.1 h
theorem Cv {t:Tk}{s:Bs}(h:t3 t=⟨4,s,0⟩):isP s t=true:=by
 unfold t3 at h;injection h with h1 h2 h3
 unfold isP;simp [h1,h2]
theorem Li {t:Tk}{s:Bs}(h:t3 t=⟨2,s,0⟩):isP s t=true:=by
 unfold t3 at h;injection h with h1 h2 h3
 unfold isP;simp [h1,h2]
theorem Md {t:Tk}{s:Bs}(h:t.kind=1∨t.kind=3∨t.kind=5):isP s t=false:=by
 unfold isP;rcases h with h|h|h<;>simp [h]
theorem Cy {t:Tk}{s:Bs}(h:t.text≠s):isP s t=false:=by
 unfold isP;simp [h]
theorem Wa {lv:Int}{t:Tk}{r:List Tk}:Cw lv (t::r)=0↔∀i:Nat,i<16→isP (Aq ((i:Int)+1)) t=true→Am ((i:Int)+1)<lv:=by
 unfold Cw;dsimp only;constructor
 ·intro h i hi hp
  rcases hf:(((List.range 16).map fun i:Nat=>(i:Int)+1).find? fun op=>isP (Aq op) t && decide (lv≤Am op))with _|op
  ·rw[List.find?_eq_none]at hf
   have:=hf ((i:Int)+1) (List.mem_map.2 ⟨i,List.mem_range.2 hi,rfl⟩);rw[hp]at this;simp at this;exact this
  ·rw[hf]at h
   have hm:=Zd hf;obtain⟨j,_,e⟩:=List.mem_map.1 hm;simp at h;omega
 ·intro h
  rcases hf:(((List.range 16).map fun i:Nat=>(i:Int)+1).find? fun op=>isP (Aq op) t && decide (lv≤Am op))with _|op
  ·rfl
  ·have hs:=List.find?_some hf
   have hm:=Zd hf;obtain⟨j,hj,e⟩:=List.mem_map.1 hm;subst e;simp at hs;have:=h j (List.mem_range.1 hj) hs.1;omega
theorem Vg {a b:Int}{l:List Tk}(h:Cw a l=0)(hab:a≤b):Cw b l=0:=by
 cases l with
 |nil=>rfl
 |cons t r=>
  rw[Wa]at h ⊢;intro i hi hp;have:=h i hi hp;omega
theorem rM(op:Int):Am op≤8:=by
 unfold Am
 repeat' split
 all_goals omega
theorem Qq {op:Int}(h:0<Am op):∃i:Fin 16,op=(i.val:Int)+1:=by
 have:op=1∨op=2∨op=3∨op=4∨op=5∨op=6∨op=7∨op=8∨op=9∨op=10∨op=11∨op=12∨op=13∨op=14∨op=15∨op=16:=by
  unfold Am at h
  revert h
  repeat' split
  all_goals(intro h;first|omega|(exfalso;exact absurd h (by decide)))
 rcases this with h|h|h|h|h|h|h|h|h|h|h|h|h|h|h|h
 ·exact⟨0,h⟩
 ·exact⟨1,h⟩
 ·exact⟨2,h⟩
 ·exact⟨3,h⟩
 ·exact⟨4,h⟩
 ·exact⟨5,h⟩
 ·exact⟨6,h⟩
 ·exact⟨7,h⟩
 ·exact⟨8,h⟩
 ·exact⟨9,h⟩
 ·exact⟨10,h⟩
 ·exact⟨11,h⟩
 ·exact⟨12,h⟩
 ·exact⟨13,h⟩
 ·exact⟨14,h⟩
 ·exact⟨15,h⟩
theorem eB:∀i j:Fin 16,Aq ((i.val:Int)+1)=Aq ((j.val:Int)+1)→i=j:=by decide
theorem Dc {s:Bs}{t:Tk}(h:isP s t=true):t.text=s:=by
 unfold isP at h;simp at h;exact h.2
theorem pA {lv op:Int}{t:Tk}{r:List Tk}(ho:0<Am op)(hl:lv≤Am op)(ht:isP (Aq op) t=true):Cw lv (t::r)=op:=by
 obtain⟨i,rfl⟩:=Qq ho;unfold Cw;dsimp only;rcases hf:(((List.range 16).map fun i:Nat=>(i:Int)+1).find? fun op=>isP (Aq op) t && decide (lv≤Am op))with _|op
 ·rw[List.find?_eq_none]at hf
  have:=hf ((i.val:Int)+1) (List.mem_map.2 ⟨i.val,List.mem_range.2 i.isLt,rfl⟩);rw[ht]at this;simp at this;omega
 ·have hs:=List.find?_some hf
  have hm:=Zd hf;obtain⟨j,hj,e⟩:=List.mem_map.1 hm;subst e;simp at hs;have e1:=Dc ht;have e2:=Dc hs.1;have:=eB i ⟨j,List.mem_range.1 hj⟩ (e1.symm.trans e2);subst this;rfl
theorem Xj {lv:Int}{t:Tk}{r:List Tk}(h:∀i:Fin 16,t.text≠Aq ((i.val:Int)+1)):Cw lv (t::r)=0:=by
 rw[Wa];intro i hi hp;exact absurd (Dc hp) (h ⟨i,hi⟩)
theorem bin_lvl {op lv:Int}{t:Tk}{r:List Tk}(ho:0<Am op)(ht:isP (Aq op) t=true)(hl:Am op<lv):Cw lv (t::r)=0:=by
 obtain⟨i,rfl⟩:=Qq ho;rw[Wa];intro j hj hp;have:=eB i ⟨j,hj⟩ ((Dc ht).symm.trans (Dc hp));subst this;exact hl
theorem fE {lv:Int}{l r:List Tk}{x:Ex}{z:PR Ex}(h1:Ev (fun f=>Bf f l) (.ok (x,r)))(h2:Ev (fun f=>Gh f lv x r) z):Ev (fun f=>Ba f lv l) z:=
 Ev.both h1 h2 (fun f e1 e2=>by(try dsimp only at e1 e2 ⊢);rw[Ba,e1];exact e2)
theorem Xi {lv:Int}{l:List Tk}{x:Ex}(h:Cw lv l=0):Ev (fun f=>Gh f lv x l) (.ok (x,l)):=
 Ev.const (fun f=>by(try dsimp only);rw[Gh,if_pos h])
theorem lT {lv op:Int}{t:Tk}{l r:List Tk}{x y:Ex}{z:PR Ex}(ho:0<Am op)(hl:lv≤Am op)(ht:isP (Aq op) t=true)(h1:Ev (fun f=>Ba f (Am op+1) l) (.ok (y,r)))(h2:Ev (fun f=>Gh f lv (.mk 4 op 0 [] [x,y]) r) z):Ev (fun f=>Gh f lv x (t::l)) z:=
 Ev.both h1 h2 (fun f e1 e2=>by
  (try dsimp only at e1 e2 ⊢);have hb:Cw lv (t::l)=op:=pA ho hl ht;have h0:op≠0:=by rintro rfl;exact absurd ho (by decide)
  rw[Gh,hb,if_neg h0,List.drop_one,List.tail_cons,e1];exact e2)
theorem bG {t:Tk}{r:List Tk}(h:isP (Aq 17) t=false∧isP (Aq 18) t=false∧isP (Aq 19) t=false):Ea (t::r)=none:=by
 unfold Ea;rw[Af h.1,Af h.2.1,Af h.2.2]
theorem un_some {op:Int}{t:Tk}{r:List Tk}(ho:op=17∨op=18∨op=19)(h:isP (Aq op) t=true):Ea (t::r)=some (op,r):=by
 have ht:=Dc h;unfold Ea;rcases ho with rfl|rfl|rfl
 ·rw[An h]
 ·rw[Af (Cy (by rw[ht];decide)),An h]
 ·rw[Af (Cy (by rw[ht];decide)),Af (Cy (by rw[ht];decide)),An h]
theorem mY {op:Int}{t:Tk}{l r:List Tk}{x:Ex}(ho:op=17∨op=18∨op=19)(h:isP (Aq op) t=true)(h1:Ev (fun f=>Bf f l) (.ok (x,r))):Ev (fun f=>Bf f (t::l)) (.ok (.mk 3 op 0 [] [x],r)):=
 Ev.one h1 (fun f e=>by(try dsimp only at e ⊢);rw[Bf,un_some ho h];dsimp only;rw[e])
theorem jR {t:Tk}{r:List Tk}(h:t.text≠Aq 17∧t.text≠Aq 18∧t.text≠Aq 19):Ea (t::r)=none:=bG ⟨Cy h.1,Cy h.2.1,Cy h.2.2⟩
theorem fB {t u:Tk}{l r:List Tk}{x:Ex}(h:isP [40] t=true)(hu:isP [41] u=true)(h1:Ev (fun f=>Ba f 1 l) (.ok (x,u::r))):Ev (fun f=>Bf f (t::l)) (.ok (x,r)):=
 Ev.one h1 (fun f e=>by
  (try dsimp only at e ⊢);have ht:=Dc h;rw[Bf,jR ⟨by rw[ht];decide,by rw[ht];decide,by rw[ht];decide⟩];dsimp only;rw[An h];dsimp only;rw[e];dsimp only;rw[Bz hu])
theorem gG {t u v:Tk}{r:List Tk}(h:isP [114,101,97,100] t=true)(hu:isP [40] u=true)(hv:isP [41] v=true):Ev (fun f=>Bf f (t::u::v::r)) (.ok (.mk 7 0 0 [] [],r)):=
 Ev.const (fun f=>by
  (try dsimp only);have ht:=Dc h;rw[Bf,jR ⟨by rw[ht];decide,by rw[ht];decide,by rw[ht];decide⟩];dsimp only;rw[Af (Cy (by rw[ht];decide)),An h];dsimp only;rw[Bz hu];dsimp only;rw[Bz hv])
theorem lW {t:Tk}{r:List Tk}(h:t.kind=3):Ev (fun f=>Bf f (t::r)) (.ok (.mk 1 0 t.num [] [],r)):=
 Ev.const (fun f=>by
  (try dsimp only);have hk:∀s,isP s t=false:=fun s=>Md (.inr (.inl h))
  rw[Bf,bG ⟨hk _,hk _,hk _⟩];dsimp only;rw[Af (hk _),Af (hk _)];dsimp only;rw[if_pos h])
theorem Py {t:Tk}{l:List Tk}{z:PR Ex}(h:t.kind=1)(h1:Ev (fun f=>Cp f t.text l) z):Ev (fun f=>Bf f (t::l)) z:=
 Ev.one h1 (fun f e=>by
  (try dsimp only at e ⊢);have hk:∀s,isP s t=false:=fun s=>Md (.inl h)
  rw[Bf,bG ⟨hk _,hk _,hk _⟩];dsimp only;rw[Af (hk _),Af (hk _)];dsimp only;rw[if_neg (by rw[h];decide),if_pos h];exact e)
theorem lN {s:Bs}{l:List Tk}(h1:Bh [40] l=none)(h2:Bh [91] l=none):Ev (fun f=>Cp f s l) (.ok (.mk 2 0 0 s [],l)):=
 Ev.const (fun f=>by(try dsimp only);rw[Cp,h1,h2])
theorem iV {s:Bs}{t:Tk}{l r:List Tk}{a:List Ex}(h:isP [40] t=true)(h1:Ev (fun f=>Ej f l) (.ok (a,r))):Ev (fun f=>Cp f s (t::l)) (.ok (.mk 5 0 0 s a,r)):=
 Ev.one h1 (fun f e=>by(try dsimp only at e ⊢);rw[Cp,An h];dsimp only;rw[e])
theorem kX {s:Bs}{t u:Tk}{l r:List Tk}{x:Ex}(h:isP [91] t=true)(hu:isP [93] u=true)(h1:Ev (fun f=>Ba f 1 l) (.ok (x,u::r))):Ev (fun f=>Cp f s (t::l)) (.ok (.mk 6 0 0 s [x],r)):=
 Ev.one h1 (fun f e=>by
  (try dsimp only at e ⊢);have ht:=Dc h;rw[Cp,Af (Cy (by rw[ht];decide)),An h];dsimp only;rw[e];dsimp only;rw[Bz hu])
theorem dM {t:Tk}{r:List Tk}(h:isP [41] t=true):Ev (fun f=>Ej f (t::r)) (.ok ([],r)):=
 Ev.const (fun f=>by(try dsimp only);rw[Ej,An h])
theorem Xn {l:List Tk}{z:PR (List Ex)}(h:Bh [41] l=none)(h1:Ev (fun f=>Fy f [] l) z):Ev (fun f=>Ej f l) z:=
 Ev.one h1 (fun f e=>by(try dsimp only at e ⊢);rw[Ej,h];exact e)
theorem oU {a:List Ex}{x:Ex}{t:Tk}{l r:List Tk}(ht:isP [41] t=true)(h1:Ev (fun f=>Ba f 1 l) (.ok (x,t::r))):Ev (fun f=>Fy f a l) (.ok (a++[x],r)):=
 Ev.one h1 (fun f e=>by
  (try dsimp only at e ⊢);have h:=Dc ht;rw[Fy,e];dsimp only;rw[Af (Cy (by rw[h];decide))];dsimp only;rw[Bz ht])
theorem gI {a:List Ex}{x:Ex}{t:Tk}{l r:List Tk}{z:PR (List Ex)}(ht:isP [44] t=true)(h1:Ev (fun f=>Ba f 1 l) (.ok (x,t::r)))(h2:Ev (fun f=>Fy f (a++[x]) r) z):Ev (fun f=>Fy f a l) z:=
 Ev.both h1 h2 (fun f e1 e2=>by(try dsimp only at e1 e2 ⊢);rw[Fy,e1];dsimp only;rw[An ht];exact e2)
inductive WEx:Ex→Prop
 |num (n:Int) (h:0≤n):WEx (.mk 1 0 n [] [])
 |var (s:Bs) (h:Au s=true):WEx (.mk 2 0 0 s [])
 |one (o:Int) (x:Ex) (ho:o=17∨o=18∨o=19) (hx:WEx x):WEx (.mk 3 o 0 [] [x])
 |two (o:Int) (x y:Ex) (ho:0<Am o) (hx:WEx x) (hy:WEx y):WEx (.mk 4 o 0 [] [x,y])
 |call (s:Bs) (l:List Ex) (h:Au s=true) (hl:l.length≤6) (hx:∀x,x∈l→WEx x):WEx (.mk 5 0 0 s l)
 |idx (s:Bs) (x:Ex) (h:Au s=true) (hx:WEx x):WEx (.mk 6 0 0 s [x])
 |read:WEx (.mk 7 0 0 [] [])
theorem rS:∀(e:Ex),Ch e=true→WEx e
 | .mk k o n nm args,h=>by
  rw[Kv]at h;simp only[Bool.and_eq_true,List.all_eq_true]at h;obtain⟨hw,ha⟩:=h;have ih:∀x,x∈args→WEx x:=fun x hx=>rS x (ha x hx)
  clear ha;unfold Cz at hw;simp only[Bool.and_eq_true,beq_iff_eq]at hw;obtain⟨⟨⟨⟨h1,h2⟩,h3⟩,h4⟩,h5⟩:=hw;unfold Gz at h1;unfold Dn at h2;unfold Ic at h3;unfold Kp at h4;unfold Ei at h5;simp only[Ex.kind,Ex.op,Ex.n,Ex.name,Ex.args]at h1 h2 h3 h4 h5
  by_cases k1:k=1
  ·subst k1
   simp at h1 h2 h3 h4 h5;subst h2 h3 h5;exact .num n (of_decide_eq_true h1)
  by_cases k2:k=2
  ·subst k2
   simp at h1 h2 h3 h4 h5;subst h2 h3 h4;exact .var nm h1
  by_cases k3:k=3
  ·subst k3
   simp at h1 h2 h3 h4 h5;obtain⟨x,rfl⟩:=List.length_eq_one_iff.1 (by omega:args.length=1);subst h4 h5;exact .one o x (of_decide_eq_true h1) (ih x (by simp))
  by_cases k4:k=4
  ·subst k4
   simp at h1 h2 h3 h4 h5;obtain⟨x,y,rfl⟩:∃x y,args=[x,y]:=by
    match args,h2 with
    |[x,y],_=>exact⟨x,y,rfl⟩
   subst h4 h5;exact .two o x y (of_decide_eq_true h1) (ih x (by simp)) (ih y (by simp))
  by_cases k5:k=5
  ·subst k5
   simp at h1 h2 h3 h4 h5;subst h3 h4;exact .call nm args h1.1 (by have:=of_decide_eq_true h1.2;omega) ih
  by_cases k6:k=6
  ·subst k6
   simp at h1 h2 h3 h4 h5;obtain⟨x,rfl⟩:=List.length_eq_one_iff.1 (by omega:args.length=1);subst h3 h4;exact .idx nm x h1 (ih x (by simp))
  ·simp [k1,k2,k3,k4,k5,k6]at h1 h2 h3 h4 h5
   have h1:=of_decide_eq_true h1;subst h1 h2 h3 h4 h5;exact .read
termination_by e=>SizeOf.sizeOf e
decreasing_by
 exact Ex.size_lt (e:= .mk k o n nm args) hx
def aW(e:Ex):Int:=if e.kind=4 then Am e.op else 9
def Pi(l:List Tk):Prop:=Bh [40] l=none∧Bh [91] l=none
theorem Td {t:Tk}{r:List Tk}(h:t.text≠[40]∧t.text≠[91]):Pi (t::r):=⟨Af (Cy h.1),Af (Cy h.2)⟩
def Nf(e:Ex):Prop:= ∀ts rest,For ts (Dl e 9)→Pi rest→Ev (fun f=>Bf f (ts++rest)) (.ok (e,rest))
def Ru(e:Ex):Prop:= ∀lv ts rest z,lv≤aW e→For ts (Cn e)→Pi rest→Cw (aW e+1) rest=0→Ev (fun f=>Gh f lv e rest) z→Ev (fun f=>Ba f lv (ts++rest)) z
theorem Kx {e:Ex}(hk:e.kind≠4)(h:Nf e):Ru e:=by
 intro lv ts rest z hl hf hn hb hz;refine fE (h ts rest ?_ hn) hz;have:Dl e 9=Cn e:=by unfold Dl Hn;rw[if_neg (by rintro⟨h1,_⟩;exact hk h1)]
 rw[this];exact hf
theorem Up {e:Ex}(ht:Nf e)(hc:Ru e){L lv:Int}(hL:L≤9)(hl:lv≤L){ts rest:List Tk}{z:PR Ex}(hf:For ts (Dl e L))(hn:Pi rest)(hb:Cw (L+1) rest=0)(hz:Ev (fun f=>Gh f lv e rest) z):Ev (fun f=>Ba f lv (ts++rest)) z:=by
 by_cases hw:e.kind=4∧Am e.op<L
 ·have h9:Dl e 9=Dl e L:=by
   unfold Dl Hn;rw[if_pos hw,if_pos ⟨hw.1,by omega⟩]
  exact fE (ht ts rest (by rw[h9];exact hf) hn) hz
 ·have h0:Dl e L=Cn e:=by unfold Dl Hn;rw[if_neg hw]
  have hle:L≤aW e:=by
   unfold aW;split
   ·rename_i h4
    have:¬Am e.op<L:=fun h=>hw ⟨h4,h⟩
    omega
   ·exact hL
  rw[h0]at hf;exact hc lv ts rest z (by omega) hf hn (Vg hb (by omega)) hz
theorem Mc {e:Ex}(hc:Ru e){ts rest:List Tk}(hf:For ts (Cn e))(hn:Pi rest)(hb:Cw 1 rest=0)(h1:1≤aW e):Ev (fun f=>Ba f 1 (ts++rest)) (.ok (e,rest)):=
 hc 1 ts rest _ h1 hf hn (Vg hb (by omega)) (Xi hb)
theorem Rm {e:Ex}(h:WEx e):1≤aW e:=by
 cases h with
 |two o x y ho hx hy=>show 1≤Am o;omega
 |_=>show(1:Int)≤9;decide
theorem Oa {lv:Int}{t:Tk}{r:List Tk}(h:t.text=[41]∨t.text=[93]∨t.text=[44]∨t.text=[59]∨t.text=[]):Cw lv (t::r)=0:=by
 refine Xj (fun i=> ?_);rcases h with h|h|h|h|h<;>(rw[h];revert i;decide)
theorem Lx {t:Tk}{r:List Tk}(h:t.text=[41]∨t.text=[93]∨t.text=[44]∨t.text=[59]∨t.text=[]):Pi (t::r):=by
 refine Td ?_;rcases h with h|h|h|h|h<;>(rw[h];decide)
theorem bW {op:Int}{t:Tk}{r:List Tk}(ho:0<Am op)(h:isP (Aq op) t=true):Pi (t::r):=by
 refine Td ?_;rw[Dc h];obtain⟨i,rfl⟩:=Qq ho;clear ho h
 revert i;decide
theorem Nk(x:Ex)(l:List Ex):Jf ((x::l).map Cn)=Cn x++l.flatMap (fun y=>[sg [44],.g [32]]++Cn y):=by
 show Cn x++(l.map Cn).flatMap (fun y=>[sg [44],.g [32]]++y)=_
 rw[List.flatMap_map]
theorem Pk:∀(l:List Ex) (a:List Ex) (x:Ex) (ts rest:List Tk) (t:Tk),(∀y,y∈x::l→Ru y∧WEx y)→For ts (Cn x++l.flatMap (fun y=>[sg [44],.g [32]]++Cn y))→isP [41] t=true→
  Ev (fun f=>Fy f a (ts++t::rest)) (.ok (a++x::l,rest))
 |[],a,x,ts,rest,t,hl,hf,ht=>by
  have hx:=hl x Za;rw[List.flatMap_nil,Zc]at hf;have tt:=Dc ht;exact oU ht (Mc hx.1 hf (Lx (.inl tt)) (Oa (.inl tt)) (Rm hx.2))
 |y::l,a,x,ts,rest,t,hl,hf,ht=>by
  have hx:=hl x Za;obtain⟨t1,t2,rfl,h1,h2⟩:=hf.app;rw[List.flatMap_cons]at h2;obtain⟨c,t2,rfl,hc,h2⟩:=For.cons (by simpa using h2);have hc:=Cv hc;have ih:=Pk l (a++[x]) y t2 rest t (fun z hz=>hl z (List.mem_cons_of_mem _ hz)) (by have:=For.gap h2;simpa using this) ht;have tc:=Dc hc;rw[Zb];rw[Zb]at ih;exact gI hc (Mc hx.1 h1 (Lx (.inr (.inr (.inl tc)))) (Oa (.inr (.inr (.inl tc)))) (Rm hx.2)) ih
theorem Sr {e:Ex}(h:WEx e):∀(lv:Int),∃x l,Gw (Dl e lv)=x::l∧x.text≠[41]∧x.kind≠5:=by
 have wrap:∀(e:Ex) (lv:Int),(∃x l,Gw (Cn e)=x::l∧x.text≠[41]∧x.kind≠5)→∃x l,Gw (Dl e lv)=x::l∧x.text≠[41]∧x.kind≠5:=by
  intro e lv h;unfold Dl Hn;split
  ·exact⟨_,_,rfl,by decide,(by show _≠(5:Int);first|exact(by decide:(3:Int)≠5)|exact(by decide:(1:Int)≠5)|exact(by decide:(4:Int)≠5)|exact(by decide:(2:Int)≠5))⟩
  ·exact h
 have name:∀(s:Bs),Au s=true→s≠[41]:=by
  rintro s h rfl;exact absurd h (by decide)
 induction h with
 |num n h=>
  intro lv;refine wrap _ _ ?_;rw[Uq];refine⟨_,_,rfl,?_,(by show _≠(5:Int);first|exact(by decide:(3:Int)≠5)|exact(by decide:(1:Int)≠5)|exact(by decide:(4:Int)≠5)|exact(by decide:(2:Int)≠5))⟩;show Lib.itoa n≠[41]
  intro e;unfold Lib.itoa at e;rw[if_neg (by omega)]at e;have:=Ku n.toNat 41 (by rw[e];exact Za);exact absurd this (by decide)
 |var s h=>intro lv;refine wrap _ _ ?_;rw[Uo];exact⟨_,_,rfl,name s h,(by show _≠(5:Int);first|exact(by decide:(3:Int)≠5)|exact(by decide:(1:Int)≠5)|exact(by decide:(4:Int)≠5)|exact(by decide:(2:Int)≠5))⟩
 |one o x ho hx ih=>
  intro lv;refine wrap _ _ ?_;rw[Vp];refine⟨_,_,rfl,?_,(by show _≠(5:Int);first|exact(by decide:(3:Int)≠5)|exact(by decide:(1:Int)≠5)|exact(by decide:(4:Int)≠5)|exact(by decide:(2:Int)≠5))⟩;rcases ho with rfl|rfl|rfl<;>decide
 |two o x y ho hx hy ihx ihy=>
  intro lv;refine wrap _ _ ?_;rw[Vb,Jh];obtain⟨u,l,e,h⟩:=ihx (Am o);rw[e];exact⟨_,_,rfl,h⟩
 |call s l h hl hx ih=>intro lv;refine wrap _ _ ?_;rw[Ml];exact⟨_,_,rfl,name s h,(by show _≠(5:Int);first|exact(by decide:(3:Int)≠5)|exact(by decide:(1:Int)≠5)|exact(by decide:(4:Int)≠5)|exact(by decide:(2:Int)≠5))⟩
 |idx s x h hx ih=>intro lv;refine wrap _ _ ?_;rw[Vk];exact⟨_,_,rfl,name s h,(by show _≠(5:Int);first|exact(by decide:(3:Int)≠5)|exact(by decide:(1:Int)≠5)|exact(by decide:(4:Int)≠5)|exact(by decide:(2:Int)≠5))⟩
 |read=>intro lv;refine wrap _ _ ?_;rw[Uw];exact⟨_,_,rfl,by decide,(by show _≠(5:Int);first|exact(by decide:(3:Int)≠5)|exact(by decide:(1:Int)≠5)|exact(by decide:(4:Int)≠5)|exact(by decide:(2:Int)≠5))⟩
theorem Jz {e:Ex}(h:e.kind≠4)(lv:Int):Dl e lv=Cn e:=by
 unfold Dl Hn;rw[if_neg (by rintro⟨h1,_⟩;exact h h1)]
theorem Ey {t:Tk}{x:T3}(h:t3 t=x):t.kind=x.kind∧t.text=x.text∧t.num=x.num:=by subst h;exact⟨rfl,rfl,rfl⟩
theorem fG {e:Ex}(h:WEx e):Nf e∧Ru e:=by
 induction h with
 |num n h=>
  have ht:Nf (.mk 1 0 n [] []):=by
   intro ts rest hf hn;rw[Jz (by simp [Ex.kind]),Uq]at hf;obtain⟨t,r,rfl,h3,hr⟩:=hf.cons;obtain⟨k1,k2,k3⟩:=Ey h3;rw[hr.nil];have:=lW (t:=t) (r:=rest) k1;rw[k3]at this;exact this
  exact⟨ht,Kx (by simp [Ex.kind]) ht⟩
 |var s h=>
  have ht:Nf (.mk 2 0 0 s []):=by
   intro ts rest hf hn;rw[Jz (by simp [Ex.kind]),Uo]at hf;obtain⟨t,r,rfl,h3,hr⟩:=hf.cons;obtain⟨k1,k2,k3⟩:=Ey h3;rw[hr.nil];have:=Py (t:=t) (l:=rest) k1 (lN hn.1 hn.2);rw[k2]at this;exact this
  exact⟨ht,Kx (by simp [Ex.kind]) ht⟩
 |one o x ho hx ih=>
  have ht:Nf (.mk 3 o 0 [] [x]):=by
   intro ts rest hf hn;rw[Jz (by simp [Ex.kind]),Vp]at hf;obtain⟨t,r,rfl,h3,hr⟩:=hf.cons;exact mY ho (Cv h3) (ih.1 r rest hr hn)
  exact⟨ht,Kx (by simp [Ex.kind]) ht⟩
 |two o x y ho hx hy ihx ihy=>
  have hle:=rM o;have hc:Ru (.mk 4 o 0 [] [x,y]):=by
   intro lv ts rest z hl hf hn hb hz;have hlv:aW (.mk 4 o 0 [] [x,y])=Am o:=rfl;rw[hlv]at hl hb;rw[Vb]at hf;obtain⟨t1,t2,rfl,h1,h2⟩:=hf.app;obtain⟨t,r,rfl,h3,hr⟩:=For.cons (For.gap (show For t2 (.g [32]::sg (Aq o):: .g [32]::Dl y (Am o+1))from h2));have hs:=Cv h3;rw[Zb];refine Up ihx.1 ihx.2 (L:=Am o) (by omega) hl h1 (bW ho hs) (bin_lvl ho hs (by omega)) ?_;refine lT ho hl hs ?_ hz;exact Up ihy.1 ihy.2 (L:=Am o+1) (by omega) (Int.le_refl _) hr.gap hn (Vg hb (by omega)) (Xi hb)
  refine⟨?_,hc⟩;intro ts rest hf hn;have:Dl (.mk 4 o 0 [] [x,y]) 9=sg [40]::(Cn (.mk 4 o 0 [] [x,y])++[sg [41]]):=by
   unfold Dl Hn;rw[if_pos ⟨rfl,by show Am o<9;omega⟩];rfl
  rw[this]at hf;obtain⟨t,r,rfl,h3,hr⟩:=hf.cons;obtain⟨t1,t2,rfl,h1,h2⟩:=hr.app;obtain⟨u,q,rfl,h4,hq⟩:=h2.cons;rw[hq.nil];have hu:=Cv h4;have tu:=Dc hu;have hr1:(t::(t1++[u]))++rest=t::(t1++u::rest):=by simp
  rw[hr1];refine fB (Cv h3) hu ?_;exact Mc hc h1 (Lx (.inl tu)) (Oa (.inl tu)) (by show 1≤Am o;omega)
 |call s l h hl hx ih=>
  have ht:Nf (.mk 5 0 0 s l):=by
   intro ts rest hf hn;rw[Jz (by simp [Ex.kind]),Ml]at hf;obtain⟨t,r,rfl,h3,hr⟩:=hf.cons;obtain⟨k1,k2,k3⟩:=Ey h3;obtain⟨o,r,rfl,h4,hr⟩:=hr.cons;obtain⟨t1,t2,rfl,h1,h2⟩:=hr.app;obtain⟨u,q,rfl,h5,hq⟩:=h2.cons;rw[hq.nil];have hu:=Cv h5;have hr1:(t::o::(t1++[u]))++rest=t::o::(t1++u::rest):=by simp
   rw[hr1];have key:Ev (fun f=>Ej f (t1++u::rest)) (.ok (l,rest)):=by
    cases l with
    |nil=>
     have:t1=[]:=h1.nil;subst this;exact dM hu
    |cons x l=>
     have hm:=Pk l [] x t1 rest u (fun y hy=>⟨(ih y hy).2,hx y hy⟩) (by
      have e:Jf ((x::l).map Cn)=Cn x++l.flatMap (fun y=>[sg [44],.g [32]]++Cn y):=by
       exact Nk x l
      rw[←e];exact h1) hu
     refine Xn ?_ hm;obtain⟨w,l',e',n1,n2⟩:=Sr (hx x Za) 0;have e0:Dl x 0=Cn x:=by
      unfold Dl Hn;rw[if_neg];rintro⟨q1,q2⟩;have:=Rm (hx x Za);unfold aW at this;rw[if_pos q1]at this;omega
     rw[e0]at e';have e1:t1.map t3=w::(l'++Gw (l.flatMap (fun y=>[sg [44],.g [32]]++Cn y))):=by
      have q:For t1 (Jf ((x::l).map Cn)):=h1;have e:Jf ((x::l).map Cn)=Cn x++l.flatMap (fun y=>[sg [44],.g [32]]++Cn y):=by
       exact Nk x l
      rw[e]at q;unfold For at q;rw[q,Jh,e'];rfl
     obtain⟨a,b,rfl,e2,_⟩:=List.map_eq_cons_iff.1 e1;rw[List.cons_append];refine Af (Cy ?_);rw[show a.text=w.text from by rw[←e2];rfl];exact n1
   have:=Py (t:=t) (l:=o::(t1++u::rest)) k1 (iV (Cv h4) key);rw[k2]at this;exact this
  exact⟨ht,Kx (by simp [Ex.kind]) ht⟩
 |idx s x h hx ih=>
  have ht:Nf (.mk 6 0 0 s [x]):=by
   intro ts rest hf hn;rw[Jz (by simp [Ex.kind]),Vk]at hf;obtain⟨t,r,rfl,h3,hr⟩:=hf.cons;obtain⟨k1,k2,k3⟩:=Ey h3;obtain⟨o,r,rfl,h4,hr⟩:=hr.cons;obtain⟨t1,t2,rfl,h1,h2⟩:=hr.app;obtain⟨u,q,rfl,h5,hq⟩:=h2.cons;rw[hq.nil];have hu:=Cv h5;have tu:=Dc hu;have hr1:(t::o::(t1++[u]))++rest=t::o::(t1++u::rest):=by simp
   rw[hr1];have:=Py (t:=t) (l:=o::(t1++u::rest)) k1 (kX (Cv h4) hu (Mc ih.2 h1 (Lx (.inr (.inl tu))) (Oa (.inr (.inl tu))) (Rm hx)));rw[k2]at this;exact this
  exact⟨ht,Kx (by simp [Ex.kind]) ht⟩
 |read=>
  have ht:Nf (.mk 7 0 0 [] []):=by
   intro ts rest hf hn;rw[Jz (by simp [Ex.kind]),Uw]at hf;obtain⟨t,r,rfl,h3,hr⟩:=hf.cons;obtain⟨u,r,rfl,h4,hr⟩:=hr.cons;obtain⟨v,r,rfl,h5,hr⟩:=hr.cons;rw[hr.nil];exact gG (Li h3) (Cv h4) (Cv h5)
  exact⟨ht,Kx (by simp [Ex.kind]) ht⟩
def Ef(t:Nat)(l:List Pc):List Pc:=[.g (Jx t)]++l++[.g [10]]
def Ww(l:List Ex)(i:Nat):List Pc:=Cn (Bx l i)
def Ci(t:Nat)(k:Int)(nm:Bs)(args:List Ex)(noEls:Bool)(T E:List Pc):List Pc:=
 if k=1 then Ef t ([nmp nm,.g [32],sg [61],.g [32]]++Ww args 0++[sg [59]])
 else if k=2 then Ef t ([nmp nm,sg [91]]++Ww args 0++[sg [93],.g [32],sg [61],.g [32]]++Ww args 1++[sg [59]])
 else if k=3 then Ef t ([wd [105,102],.g [32],sg [40]]++Ww args 0++[sg [41],.g [32],sg [123]])++(T++((if noEls then []else Ef t [sg [125],.g [32],wd [101,108,115,101],.g [32],sg [123]]++E)++Ef t [sg [125]]))
 else if k=4 then Ef t ([wd [119,104,105,108,101],.g [32],sg [40]]++Ww args 0++[sg [41],.g [32],sg [123]])++(T++Ef t [sg [125]])
 else if k=5 then Ef t [wd [98,114,101,97,107],sg [59]]
 else if k=6 then Ef t [wd [99,111,110,116,105,110,117,101],sg [59]]
 else if k=7 then Ef t ([wd [114,101,116,117,114,110],.g [32]]++Ww args 0++[sg [59]])
 else if k=8 then Ef t ([wd [112,114,105,110,116],sg [40]]++Ww args 0++[sg [41],sg [59]])
 else if k=9 then Ef t ([wd [116,114,97,112],sg [40]]++Ww args 0++[sg [41],sg [59]])
 else if k=10 then Ef t (Ww args 0++[sg [59]])else []
mutual
def Gl(t:Nat):St→List Pc
 | .mk k nm args thn els=>Ci t k nm args els.isEmpty (Fg (t+1) thn) (Fg (t+1) els)
def Fg(t:Nat):List St→List Pc
 |[]=>[]
 |x::l=>Gl t x++Fg t l
end
theorem Gc(t:Nat)(l:List Pc)(m:List Bs)(h:Ay l=m.flatten):Ay (Ef t l)=ln t m:=by
 unfold Ef ln;rw[As,As,h];show(Jx t++[])++m.flatten++([10]++[])=_
 rw[Zc,Zc]
theorem Kh(l:List Ex)(i:Nat):Ay (Ww l i)=Al (Bx l i):=Yb _
theorem bH(t:Nat)(k:Int)(nm:Bs)(args:List Ex)(ne:Bool)(T E:List Pc):Ay (Ci t k nm args ne T E)=De t k nm args ne (Ay T) (Ay E):=by
 unfold Ci De
 by_cases h1:k=1
 ·rw[if_pos h1,if_pos h1]
  refine Gc _ _ _ ?_;simp only[As,Kh];simp [Ay,Pc.text]
 rw[if_neg h1,if_neg h1]
 by_cases h2:k=2
 ·rw[if_pos h2,if_pos h2]
  refine Gc _ _ _ ?_;simp only[As,Kh];simp [Ay,Pc.text]
 rw[if_neg h2,if_neg h2]
 by_cases h3:k=3
 ·rw[if_pos h3,if_pos h3]
  rw[As,As,As];refine congr (congrArg _ (Gc _ _ _ ?_)) (congrArg _ (congr (congrArg _ ?_) (Gc _ _ _ ?_)))
  ·simp only[As,Kh];simp [Ay,Pc.text]
  ·cases ne with
   |true=>rfl
   |false=>
    show Ay (Ef t _++E)=ln t _++Ay E
    rw[As];refine congrArg (· ++_) (Gc _ _ _ ?_);simp [Ay,Pc.text]
  ·simp [Ay,Pc.text]
 rw[if_neg h3,if_neg h3]
 by_cases h4:k=4
 ·rw[if_pos h4,if_pos h4]
  rw[As,As];refine congr (congrArg _ (Gc _ _ _ ?_)) (congrArg _ (Gc _ _ _ ?_))
  ·simp only[As,Kh];simp [Ay,Pc.text]
  ·simp [Ay,Pc.text]
 rw[if_neg h4,if_neg h4]
 by_cases h5:k=5
 ·rw[if_pos h5,if_pos h5]
  refine Gc _ _ _ ?_;simp [Ay,Pc.text]
 rw[if_neg h5,if_neg h5]
 by_cases h6:k=6
 ·rw[if_pos h6,if_pos h6]
  refine Gc _ _ _ ?_;simp [Ay,Pc.text]
 rw[if_neg h6,if_neg h6]
 by_cases h7:k=7
 ·rw[if_pos h7,if_pos h7]
  refine Gc _ _ _ ?_;simp only[As,Kh];simp [Ay,Pc.text]
 rw[if_neg h7,if_neg h7]
 by_cases h8:k=8
 ·rw[if_pos h8,if_pos h8]
  refine Gc _ _ _ ?_;simp only[As,Kh];simp [Ay,Pc.text]
 rw[if_neg h8,if_neg h8]
 by_cases h9:k=9
 ·rw[if_pos h9,if_pos h9]
  refine Gc _ _ _ ?_;simp only[As,Kh];simp [Ay,Pc.text]
 rw[if_neg h9,if_neg h9]
 by_cases h10:k=10
 ·rw[if_pos h10,if_pos h10]
  refine Gc _ _ _ ?_;simp only[As,Kh];simp [Ay,Pc.text]
 rw[if_neg h10,if_neg h10];rfl
mutual
theorem lC(t:Nat):∀x:St,Ay (Gl t x)=Cl t x
 | .mk k nm args thn els=>by rw[Gl,Cl,bH,Mp (t+1) thn,Mp (t+1) els]
theorem Mp(t:Nat):∀l:List St,Ay (Fg t l)=Bw t l
 |[]=>rfl
 |x::l=>by rw[Fg,Bw,As,lC t x,Mp t l]
end
theorem Ev.map {α β:Type}{g:Nat→PR α}{h:Nat→PR β}{y:PR α}{z:PR β}(hg:Ev g y)(k:∀f,g f=y→h f=z):Ev h z:=by
 obtain⟨a,ha⟩:=hg;exact⟨a,fun f hf=>k f (ha f hf)⟩
theorem Ev.map2 {α β γ:Type}{g:Nat→PR α}{h:Nat→PR β}{q:Nat→PR γ}{x:PR α}{y:PR β}{z:PR γ}(hg:Ev g x)(hh:Ev h y)(k:∀f,g f=x→h f=y→q f=z):Ev q z:=by
 obtain⟨a,ha⟩:=Ev.two hg hh;exact⟨a,fun f hf=>k f (ha f hf).1 (ha f hf).2⟩
theorem Ev.pure {α:Type}{g:Nat→PR α}{z:PR α}(k:∀f,g f=z):Ev g z:=⟨0,fun f _=>k f⟩
inductive WSt:St→Prop
 |set (s:Bs) (x:Ex) (h:Au s=true) (hx:WEx x):WSt (.mk 1 s [x] [] [])
 |store (s:Bs) (x y:Ex) (h:Au s=true) (hx:WEx x) (hy:WEx y):WSt (.mk 2 s [x,y] [] [])
 |cond (x:Ex) (a b:List St) (hx:WEx x) (ha:∀y,y∈a→WSt y) (hb:∀y,y∈b→WSt y):WSt (.mk 3 [] [x] a b)
 |loop (x:Ex) (a:List St) (hx:WEx x) (ha:∀y,y∈a→WSt y):WSt (.mk 4 [] [x] a [])
 |brk:WSt (.mk 5 [] [] [] [])
 |cont:WSt (.mk 6 [] [] [] [])
 |ret (x:Ex) (hx:WEx x):WSt (.mk 7 [] [x] [] [])
 |print (x:Ex) (hx:WEx x):WSt (.mk 8 [] [x] [] [])
 |trap (x:Ex) (hx:WEx x):WSt (.mk 9 [] [x] [] [])
 |call (s:Bs) (l:List Ex) (hx:WEx (.mk 5 0 0 s l)):WSt (.mk 10 [] [.mk 5 0 0 s l] [] [])
theorem gJ:∀(m:Nat) (x:St),Ec m x=true→WSt x
 |0,x,h=>by simp [Ec]at h
 |m+1,.mk k nm args thn els,h=>by
  unfold Ec at h;simp only[Bool.and_eq_true,List.all_eq_true,Bool.not_eq_true']at h;obtain⟨⟨⟨⟨h1,h2⟩,ha⟩,ht⟩,he⟩:=h;replace ha:∀x,x∈args→WEx x:=fun x hx=>rS x (by have:=ha x hx;unfold En at this;simp at this;exact this.2)
  replace ht:∀x,x∈thn→WSt x:=fun x hx=>gJ m x (ht x hx)
  replace he:∀x,x∈els→WSt x:=fun x hx=>gJ m x (he x hx)
  unfold Jb at h1;unfold Px at h2;simp only[St.kind,St.name,St.args,St.thn,St.els,Bool.or_eq_false_iff,Bool.and_eq_false_iff,Bool.not_eq_false']at h1 h2;obtain⟨⟨⟨⟨q1,q2⟩,q3⟩,q4⟩,q5⟩:=h1;obtain⟨⟨p1,p2⟩,p3⟩:=h2;have one:∀n:Int,Du k=1→∃x,args=[x]:=by
   intro _ e;rw[e]at q3;simp at q3;exact List.length_eq_one_iff.1 (by omega)
  have k10:1≤k∧k≤10:=by unfold fOk at q1;exact of_decide_eq_true q1
  have kk:k=1∨k=2∨k=3∨k=4∨k=5∨k=6∨k=7∨k=8∨k=9∨k=10:=by omega
  rcases kk with rfl|rfl|rfl|rfl|rfl|rfl|rfl|rfl|rfl|rfl
  all_goals simp [Eg,Ip,Is]at p1 p2 q4 q5
  ·obtain⟨x,rfl⟩:=one 0 rfl
   subst q4 q5;exact .set nm x (by simpa using p1) (ha x (by simp))
  ·obtain⟨x,y,rfl⟩:∃x y,args=[x,y]:=by
    have:args.length=2:=by simp [Du]at q3;omega
    match args,this with
    |[x,y],_=>exact⟨x,y,rfl⟩
   subst q4 q5;exact .store nm x y (by simpa using p1) (ha x (by simp)) (ha y (by simp))
  ·obtain⟨x,rfl⟩:=one 0 rfl
   subst p2;exact .cond x thn els (ha x (by simp)) ht he
  ·obtain⟨x,rfl⟩:=one 0 rfl
   subst p2 q5;exact .loop x thn (ha x (by simp)) ht
  ·obtain rfl:args=[]:=by simp [Du]at q3;exact q3
   subst p2 q4 q5;exact .brk
  ·obtain rfl:args=[]:=by simp [Du]at q3;exact q3
   subst p2 q4 q5;exact .cont
  ·obtain⟨x,rfl⟩:=one 0 rfl
   subst p2 q4 q5;exact .ret x (ha x (by simp))
  ·obtain⟨x,rfl⟩:=one 0 rfl
   subst p2 q4 q5;exact .print x (ha x (by simp))
  ·obtain⟨x,rfl⟩:=one 0 rfl
   subst p2 q4 q5;exact .trap x (ha x (by simp))
  ·obtain⟨x,rfl⟩:=one 0 rfl
   subst p2 q4 q5;have hx:=ha x (by simp);have h5:x.kind=5:=by simpa using p3
   cases hx with
   |call s l h hl hy=>exact .call s l (.call s l h hl hy)
   |_=>exact absurd h5 (by simp [Ex.kind])
def rG(l:List Tk):Prop:=Bh [101,108,115,101] l=none
def oH(x:St):Prop:= ∀t ts rest,For ts (Gl t x)→rG rest→Ev (fun f=>Cx f (ts++rest)) (.ok (x,rest))
theorem isnt {t:Tk}{s u:Bs}(h:isP s t=true)(hu:(s==u)=false):isP u t=false:=Cy (by rw[Dc h];simpa using hu)
theorem Ib {t:Nat}{l:List Pc}{ts:List Tk}(h:For ts (Ef t l)):For ts l:=by
 obtain⟨t1,t2,rfl,h1,h2⟩:=For.app (a:=[.g (Jx t)]++l) (b:=[.g [10]]) h;have e2:t2=[]:=For.nil h2;rw[e2,Zc];exact h1
theorem Ve {e:Ex}(h:WEx e){ts:List Tk}{u:Tk}{rest:List Tk}(hf:For ts (Cn e))(hu:u.text=[41]∨u.text=[93]∨u.text=[44]∨u.text=[59]∨u.text=[]):Ev (fun f=>Ba f 1 (ts++u::rest)) (.ok (e,u::rest)):=
 Mc (fG h).2 hf (Lx hu) (Oa hu) (Rm h)
theorem Na {f:Nat}{l r:List Tk}{x:St}{u:Tk}(h1:Bh [105,102] l=none)(h2:Bh [119,104,105,108,101] l=none)(h:Ap f l= .ok (x,u::r))(hu:isP [59] u=true):Cx (f+1) l= .ok (x,r):=by
 rw[Cx,h1];dsimp only;rw[h2];dsimp only;rw[h];dsimp only;rw[Bz hu]
theorem Lw {e:Ex}(h:WEx e){a b:Tk}{ts rest:List Tk}(ha:isP [40] a=true)(hf:For ts (Cn e))(hb:isP [41] b=true):Ev (fun f=>Ce f (a::(ts++b::rest))) (.ok (e,rest)):=
 Ev.map (Ve h (rest:=rest) hf (.inl (Dc hb))) (fun f e=>by
  (try dsimp only at e ⊢);unfold Ce;rw[Bz ha];dsimp only;rw[e];dsimp only;rw[Bz hb])
theorem nD {a:List St}{t:Tk}{r:List Tk}(h:isP [125] t=true):Ev (fun f=>Co f a (t::r)) (.ok (a,r)):=
 Ev.const (fun f=>by(try dsimp only);rw[Co,An h])
theorem fY {a:List St}{x:St}{l r:List Tk}{z:PR (List St)}(h:Bh [125] l=none)(h1:Ev (fun f=>Cx f l) (.ok (x,r)))(h2:Ev (fun f=>Co f (a++[x]) r) z):Ev (fun f=>Co f a l) z:=
 Ev.both h1 h2 (fun f e1 e2=>by(try dsimp only at e1 e2 ⊢);rw[Co,h];dsimp only;rw[e1];exact e2)
theorem Pj {x:St}(h:WSt x)(t:Nat):∃y l,Gw (Gl t x)=y::l∧y.text≠[125]∧y.text≠[101,108,115,101]∧y.text≠[105,110,116]:=by
 have name:∀(s:Bs),Au s=true→s≠[125]∧s≠[101,108,115,101]∧s≠[105,110,116]:=by
  intro s h;exact⟨by rintro rfl;exact absurd h (by decide),by rintro rfl;exact absurd h (by decide),by rintro rfl;exact absurd h (by decide)⟩
 have tl:∀l:List Pc,Gw (Ef t l)=Gw l:=by
  intro l;show Gw (l++[.g [10]])=_
  rw[Jh];simp [Gw]
 cases h with
 |set s x h hx=>rw[Gl];unfold Ci;rw[if_pos rfl,tl];exact⟨_,_,rfl,name s h⟩
 |store s x y h hx hy=>rw[Gl];unfold Ci;rw[if_neg (by decide),if_pos rfl,tl];exact⟨_,_,rfl,name s h⟩
 |cond x a b hx ha hb=>rw[Gl];unfold Ci;rw[if_neg (by decide),if_neg (by decide),if_pos rfl,Jh,tl];exact⟨_,_,rfl,by decide⟩
 |loop x a hx ha=>rw[Gl];unfold Ci;rw[if_neg (by decide),if_neg (by decide),if_neg (by decide),if_pos rfl,Jh,tl];exact⟨_,_,rfl,by decide⟩
 |brk=>rw[Gl];unfold Ci;rw[if_neg (by decide),if_neg (by decide),if_neg (by decide),if_neg (by decide),if_pos rfl,tl];exact⟨_,_,rfl,by decide⟩
 |cont=>rw[Gl];unfold Ci;rw[if_neg (by decide),if_neg (by decide),if_neg (by decide),if_neg (by decide),if_neg (by decide),if_pos rfl,tl];exact⟨_,_,rfl,by decide⟩
 |ret x hx=>rw[Gl];unfold Ci;rw[if_neg (by decide),if_neg (by decide),if_neg (by decide),if_neg (by decide),if_neg (by decide),if_neg (by decide),if_pos rfl,tl];exact⟨_,_,rfl,by decide⟩
 |print x hx=>rw[Gl];unfold Ci;rw[if_neg (by decide),if_neg (by decide),if_neg (by decide),if_neg (by decide),if_neg (by decide),if_neg (by decide),if_neg (by decide),if_pos rfl,tl];exact⟨_,_,rfl,by decide⟩
 |trap x hx=>rw[Gl];unfold Ci;rw[if_neg (by decide),if_neg (by decide),if_neg (by decide),if_neg (by decide),if_neg (by decide),if_neg (by decide),if_neg (by decide),if_neg (by decide),if_pos rfl,tl];exact⟨_,_,rfl,by decide⟩
 |call s l hx=>
  rw[Gl];unfold Ci;rw[if_neg (by decide),if_neg (by decide),if_neg (by decide),if_neg (by decide),if_neg (by decide),if_neg (by decide),if_neg (by decide),if_neg (by decide),if_neg (by decide),if_pos rfl,tl];show ∃y l',Gw (Cn (.mk 5 0 0 s l)++[sg [59]])=y::l'∧_
  rw[Ml]
  cases hx with
  |call _ _ h=>exact⟨_,_,rfl,name s h⟩
theorem Qi {l:List Pc}{ts:List Tk}{y:T3}{l':List T3}(hf:For ts l)(h:Gw l=y::l'):∃t r,ts=t::r∧t.text=y.text:=by
 unfold For at hf;rw[h]at hf;obtain⟨t,r,e,h1,_⟩:=List.map_eq_cons_iff.1 hf;exact⟨t,r,e,by rw[←h1];rfl⟩
theorem Ke {t:Nat}:∀(l:List St),(∀x,x∈l→WSt x∧oH x)→∀(a:List St) (ts:List Tk) (u:Tk) (rest:List Tk),For ts (Fg t l)→isP [125] u=true→Ev (fun f=>Co f a (ts++u::rest)) (.ok (a++l,rest))
 |[],_,a,ts,u,rest,hf,hu=>by
  rw[Fg]at hf;rw[hf.nil,Zc];exact nD hu
 |x::l,hl,a,ts,u,rest,hf,hu=>by
  rw[Fg]at hf;obtain⟨t1,t2,rfl,h1,h2⟩:=hf.app;have hx:=hl x Za;have ih:=Ke l (fun y hy=>hl y (List.mem_cons_of_mem _ hy)) (a++[x]) t2 u rest h2 hu;have e:a++x::l=a++[x]++l:=by simp
  rw[e,Zb];have hne:rG (t2++u::rest):=by
   cases l with
   |nil=>
    rw[Fg]at h2;rw[h2.nil];exact Af (isnt hu (by decide))
   |cons y l=>
    rw[Fg]at h2;obtain⟨s1,s2,rfl,g1,g2⟩:=h2.app;obtain⟨w,l',e1,n1,n2,n3⟩:=Pj (hl y (by simp)).1 t;obtain⟨c,r,rfl,e2⟩:=Qi g1 e1;exact Af (Cy (by rw[e2];exact n2))
  refine fY ?_ (hx.2 t t1 (t2++u::rest) h1 hne) ih;obtain⟨w,l',e1,n1,n2,n3⟩:=Pj hx.1 t;obtain⟨c,r,rfl,e2⟩:=Qi h1 e1;exact Af (Cy (by rw[e2];exact n1))
end Go.Proofs.YtcfpfnoldgnloaaGreatDoor
