/-
  Rows in blocks of their own, as appends make them; what stays. No condition.
-/
import Derived.Test.YtcfpfnoldgnloaaGreatDoorRows
import Derived.ProofKit
import Derived.OpenShut
import Derived.Deep.DeepHandedRow
import Derived.Lib.LaidTab
import Derived.ChangeSame
import Derived.Test.YtcfpfnoldgnloaaGreatDoorPn03
import Derived.Shelf.Strings.Builder1
import Derived.Shelf.Strings.Builder2
import Derived.Shelf.Strings.BuilderF
import Derived.Shelf.Utf8.RuneCount
import Derived.Shelf.Strconv.Atoi
import Derived.Shelf.Strconv.Itoa0
import Derived.Shelf.Strconv.Itoa1
import Derived.Shelf.LaysM
import Derived.Shelf.Strconv.Itoa2
import Derived.Shelf.Strconv.Itoa3
import Derived.Shelf.Strconv.AtoiErrFast
import Derived.Shelf.Strconv.ParseIntEmpty
import Derived.Shelf.Strconv.AtoiFail
import Derived.Shelf.Strconv.Clone
import Derived.Shelf.Strconv.SyntaxError
import Derived.Shelf.LaysC
import Derived.Shelf.Strconv.ToError
import Derived.Shelf.Strconv.Lower
import Derived.Shelf.Strconv.ParseUint10
import Derived.Shelf.Strconv.ParseUint10Empty
import Derived.Shelf.Strconv.ParseUint10Any
import Derived.Shelf.Strconv.ParseInt10
import Derived.Shelf.Strconv.AtoiLong
import Derived.Shelf.Strconv.AtoiInnerAll
import Derived.Shelf.Strconv.RangeError
import Derived.Shelf.Strconv.ToErrorRange
import Derived.Shelf.Strconv.AtoiAll
import Derived.Shelf.Strconv.ErrVarAll
import Derived.Shelf.Strings.Search1
import Derived.Shelf.Strings.Search2
import Derived.Shelf.Strings.Search3
import Derived.Shelf.Strings.Cut
import Derived.Shelf.Strings.Count
import Derived.Shelf.Strings.Shaped
import Derived.Shelf.Strings.Prefix
import Derived.Shelf.Strings.Split
import Derived.Shelf.Unicode.Decode
import Derived.Shelf.Strings.RuneCount
import Derived.Shelf.Bits.Mul64
import Derived.Shelf.Strings.Repeat
import Derived.Shelf.Unicode.DecodeSlow
import Derived.Shelf.Unicode.DecodeAny
import Derived.Shelf.Unicode.ValidAny
import Derived.Shelf.Slices.Equal
import Derived.Shelf.Slices.Empties2
import Derived.Lib.ItoaNum
import Derived.Lib.ItoaLen
import Derived.Lib.AtoiTie
import Derived.WideLaws
import Derived.Lib.SmallJoins
import Derived.ChangeSlices
import Derived.WideKeyArgs
import Derived.Lib.LaidU8T
import Derived.PinnedBridge
import Derived.Shelf.Vars
set_option linter.unusedVariables false
set_option linter.unusedSimpArgs false
namespace Go.Proofs.YtcfpfnoldgnloaaGreatDoor
open Go.ChangeShapes Go.WideShapes Go.ChangeAt Go.RowKit
theorem Lq {P:Program}{x:String ×DataW Unit}{l:List (String ×DataW Unit)}{W:World}(h:laidMet P (x::l) W):laidMet P l W:=by
 obtain⟨n,d⟩:=x;obtain⟨ps,⟨g,t,cs,fuel,p,q,hg,ht,hv,hd,hr,rfl⟩,hn,hc⟩:=h;refine⟨q,hr,(List.nodup_append.1 hn).2.1,fun b off hm=>hc b off (List.mem_append_right _ hm)⟩
theorem Xt {H:Type}{enc:TypeId ×Value→H}{P:Program}{f:Func}{s:ChangeSpec}{apart fresh handsOn again:Bool}{W W':World}{args:Array Value}{v:Value}{ds gs:List (DataW H)}{before pa pv:List MemPlace}
  (hW:DataW.Whole enc P f.params.toList s.vars apart W args.toList ds gs before)
  (hres:∀(b:Nat) (sp:Nat→Bool) (hd:Bool),DataW.TrodAll enc P W' b sp hd f.resultTypes.toList (v.resultList f.resultTypes.size) (s.fn H (ds++gs)).results [])
  (hargs:∀sp:Nat→Bool,(∀p∈before,sp p.block=true)→DataW.TrodAll enc P W' 0 sp true f.params.toList args.toList (s.fn H (ds++gs)).args pa)
  (hvars:∀sp:Nat→Bool,(∀p∈before,sp p.block=true)→DataW.TrodVars enc P W' sp s.vars (s.fn H (ds++gs)).vars pv)
  (hps:before=pa++pv) (hb:Below W.heap.size W W')
  (hok:∀(j:Nat) (t:TypeId) (r:Value),f.resultTypes[j]? =some t→(v.resultList f.resultTypes.size)[j]? =some r→Value.okWide P W' .any 0 t r):
  s.post enc P f apart fresh handsOn again W args v W':=by
 have lt:∀p∈before,p.block<W.heap.size:=hW.lt;have old:∀p∈before,(fun k=>decide (k<W.heap.size)) p.block=true:=fun p hp=>decide_eq_true (lt p hp)
 refine⟨ds,gs,before,[],pa,pv,hW,hres _ _ _,hargs _ old,hvars _ old,World.keptBut_mono (fun p hp=>⟨hp,.inr (by rw[hps]at hp;exact List.mem_append.1 hp)⟩) (hb.frame (· ∈before)),fun _=> ?_⟩;obtain⟨_,_,_,_,_,fz,nd⟩:=hW;refine⟨hok,_,_,([]++pa)++pv,⟨[]++pa,pv,trodAll_append (hargs _ (fun _ _=>rfl)) (hres _ _ _),hvars _ (fun _ _=>rfl),rfl,fun b off hp=> ?_,fun ha=> ?_⟩,fun p hp _=> ?_⟩
 ·have hin:MemPlace.cell b off∈before:=by rw[hps];exact hp
  have e:=fz b off hin;rw[←hb.frozen (lt _ hin)]at e;exact e
 ·have e:=nd ha
  rw[hps]at e;exact e
 ·rw[hps];exact hp
end Go.Proofs.YtcfpfnoldgnloaaGreatDoor
namespace Go.Proofs.YtcfpfnoldgnloaaGreatDoor
open Go.RowKit
set_option maxHeartbeats 20000000
set_option maxRecDepth 100000
open Go.Lib renaming hid→Za
open Go.Proofs.Tryz renaming prog→Zb
open List renaming length_append→Zc,getElem_append_left→Zd
def Ft(r:Int):Bool:=decide (r=32∨r=9∨r=10∨r=13)
def Gy(r:Int):Bool:=Dn r||Di r
theorem Ri(r:Int)(w:World):Calls Zb 85 #[.int .i32 r] w fun e w'=>e= .returned (.bool (Ft r))∧w=w':=by
 go_enter Tryz.func85,Tryz.ntmps85
 go_wp2
 all_goals go_ret
 all_goals(refine⟨Be ?_,rfl⟩;rw[Bool.eq_iff_iff];simp [Ft];try omega)
theorem Rl(r:Int)(w:World):Calls Zb 143 #[.int .i32 r] w fun e w'=>e= .returned (.bool (Gy r))∧w=w':=by
 unfold Gy
 cases hl:Dn r
 ·go_enter Tryz.func143,Tryz.ntmps143
  go_wp2_with fail
  refine(Dq _ _).mono ?_;rw[hl];rintro e w1 ⟨rfl,rfl⟩;go_wp2_with fail
  refine(Fl _ _).mono ?_;rintro e w1 ⟨rfl,rfl⟩;go_wp2_with fail
  go_ret
  exact⟨rfl,rfl⟩
 ·go_enter Tryz.func143,Tryz.ntmps143
  go_wp2_with fail
  refine(Dq _ _).mono ?_;rw[hl];rintro e w1 ⟨rfl,rfl⟩;go_wp2_with fail
  go_ret
  exact⟨rfl,rfl⟩
def Et(p:Int→Bool)(b:Bs):Prop:=b=[]∨∃c r,b=c::r∧c.toNat<128∧p (c.toNat:Nat)=false
theorem Rv(a b:Bs)(ha:∀c,c∈a→c.toNat<128∧Ft (c.toNat:Nat)=true)(hb:Et Ft b)(w:World):
  Calls Zb 84 #[.string (Aa (a++b)),.func (.func 85) #[] #[]] w fun e w'=>e= .returned (.int .i64 a.length)∧Below w.heap.size w w':=by
 have HAA:=Za ha;have HBB:=Za hb;obtain⟨l,hl⟩:∃l,l=a++b:=⟨_,rfl⟩;rw[←hl];have HL:=Za hl;have hlen:l.length=a.length+b.length:=by rw[hl,Zc]
 have hle:a.length≤l.length:=by omega
 have HLEN:=Za hlen;clear ha hb hl hlen;go_enter Tryz.func84,Tryz.ntmps84
 go_wp2_with fail
 go_loopw [5,6] (fun _ _ wr=> ∃k:Nat,k≤a.length∧wr=w.iter (Aa l) k) (fun _ _ wr=>a.length+1 - wr.iterPos w.heap.size)
 case atStart=>exact⟨0,Nat.zero_le _,rfl⟩
 case round=>
  obtain⟨k,hk,rfl⟩:=hrel
  by_cases hlt:k<l.length
  ·have hnx:=fun ty=>run_next_any (P:=Zb) w (Aa l) k ty hlt
   have hs:k<(Aa l).size:=hlt
   by_cases hka:k<a.length
   ·have hc:l[k]=a[k]:=by have:=HL.out;subst this;exact Zd hka
    have hq:=HAA.out a[k] (List.getElem_mem hka);rw[decode_ascii (Aa l) k hs (by show l[k].toNat<128;rw[hc];exact hq.1)]at hnx;have he:(Aa l)[k]'hs=l[k]:=rfl;rw[he,hc]at hnx;have HQ:=Za hq.2;clear hc hq he;go_wp2_with fail
    refine(Ri _ _).mono ?_;rw[HQ.out];rintro e w1 ⟨rfl,rfl⟩;go_wp2_with fail
    go_roundw
    case rel=>exact⟨k+1,hka,rfl⟩
    case measure=>simp;omega
   ·have hke:k=a.length:=by omega
    subst hke;have hbn:b≠[]:=by intro e;have:=HLEN.out;rw[e]at this;simp at this;omega
    obtain⟨c,r,hb,hc1,hc2⟩:=HBB.out.resolve_left hbn;have hc:l[a.length]=c:=by have:=HL.out;subst this;subst hb;simp
    rw[decode_ascii (Aa l) _ hs (by show l[a.length].toNat<128;rw[hc];exact hc1)]at hnx;have he:(Aa l)[a.length]'hs=l[a.length]:=rfl;rw[he,hc]at hnx;have HQ:=Za hc2;clear hc hc1 hc2 hb he;go_wp2_with fail
    refine(Ri _ _).mono ?_;rw[HQ.out];rintro e w1 ⟨rfl,rfl⟩;go_wp2_with fail
    go_ret
    exact⟨rfl,bA⟩
  ·have hnx:=fun ty=>run_next_end (P:=Zb) w (Aa l) k ty hlt
   have hz:l.length=a.length:=by omega
   go_wp2_with fail
   go_ret
   exact⟨Ek (by omega),bA⟩
theorem Vi(a b:Bs)(ha:∀c,c∈a→c.toNat<128∧Gy (c.toNat:Nat)=true)(hb:Et Gy b)(w:World):
  Calls Zb 84 #[.string (Aa (a++b)),.func (.func 143) #[] #[]] w fun e w'=>e= .returned (.int .i64 a.length)∧Below w.heap.size w w':=by
 have HAA:=Za ha;have HBB:=Za hb;obtain⟨l,hl⟩:∃l,l=a++b:=⟨_,rfl⟩;rw[←hl];have HL:=Za hl;have hlen:l.length=a.length+b.length:=by rw[hl,Zc]
 have hle:a.length≤l.length:=by omega
 have HLEN:=Za hlen;clear ha hb hl hlen;go_enter Tryz.func84,Tryz.ntmps84
 go_wp2_with fail
 go_loopw [5,6] (fun _ _ wr=> ∃k:Nat,k≤a.length∧wr=w.iter (Aa l) k) (fun _ _ wr=>a.length+1 - wr.iterPos w.heap.size)
 case atStart=>exact⟨0,Nat.zero_le _,rfl⟩
 case round=>
  obtain⟨k,hk,rfl⟩:=hrel
  by_cases hlt:k<l.length
  ·have hnx:=fun ty=>run_next_any (P:=Zb) w (Aa l) k ty hlt
   have hs:k<(Aa l).size:=hlt
   by_cases hka:k<a.length
   ·have hc:l[k]=a[k]:=by have:=HL.out;subst this;exact Zd hka
    have hq:=HAA.out a[k] (List.getElem_mem hka);rw[decode_ascii (Aa l) k hs (by show l[k].toNat<128;rw[hc];exact hq.1)]at hnx;have he:(Aa l)[k]'hs=l[k]:=rfl;rw[he,hc]at hnx;have HQ:=Za hq.2;clear hc hq he;go_wp2_with fail
    refine(Rl _ _).mono ?_;rw[HQ.out];rintro e w1 ⟨rfl,rfl⟩;go_wp2_with fail
    go_roundw
    case rel=>exact⟨k+1,hka,rfl⟩
    case measure=>simp;omega
   ·have hke:k=a.length:=by omega
    subst hke;have hbn:b≠[]:=by intro e;have:=HLEN.out;rw[e]at this;simp at this;omega
    obtain⟨c,r,hb,hc1,hc2⟩:=HBB.out.resolve_left hbn;have hc:l[a.length]=c:=by have:=HL.out;subst this;subst hb;simp
    rw[decode_ascii (Aa l) _ hs (by show l[a.length].toNat<128;rw[hc];exact hc1)]at hnx;have he:(Aa l)[a.length]'hs=l[a.length]:=rfl;rw[he,hc]at hnx;have HQ:=Za hc2;clear hc hc1 hc2 hb he;go_wp2_with fail
    refine(Rl _ _).mono ?_;rw[HQ.out];rintro e w1 ⟨rfl,rfl⟩;go_wp2_with fail
    go_ret
    exact⟨rfl,bA⟩
  ·have hnx:=fun ty=>run_next_end (P:=Zb) w (Aa l) k ty hlt
   have hz:l.length=a.length:=by omega
   go_wp2_with fail
   go_ret
   exact⟨Ek (by omega),bA⟩
theorem Zy(a b:Bs)(ha:∀c,c∈a→c.toNat<128∧Di (c.toNat:Nat)=true)(hb:Et Di b)(w:World):
  Calls Zb 84 #[.string (Aa (a++b)),.func (.func 91) #[] #[]] w fun e w'=>e= .returned (.int .i64 a.length)∧Below w.heap.size w w':=by
 have HAA:=Za ha;have HBB:=Za hb;obtain⟨l,hl⟩:∃l,l=a++b:=⟨_,rfl⟩;rw[←hl];have HL:=Za hl;have hlen:l.length=a.length+b.length:=by rw[hl,Zc]
 have hle:a.length≤l.length:=by omega
 have HLEN:=Za hlen;clear ha hb hl hlen;go_enter Tryz.func84,Tryz.ntmps84
 go_wp2_with fail
 go_loopw [5,6] (fun _ _ wr=> ∃k:Nat,k≤a.length∧wr=w.iter (Aa l) k) (fun _ _ wr=>a.length+1 - wr.iterPos w.heap.size)
 case atStart=>exact⟨0,Nat.zero_le _,rfl⟩
 case round=>
  obtain⟨k,hk,rfl⟩:=hrel
  by_cases hlt:k<l.length
  ·have hnx:=fun ty=>run_next_any (P:=Zb) w (Aa l) k ty hlt
   have hs:k<(Aa l).size:=hlt
   by_cases hka:k<a.length
   ·have hc:l[k]=a[k]:=by have:=HL.out;subst this;exact Zd hka
    have hq:=HAA.out a[k] (List.getElem_mem hka);rw[decode_ascii (Aa l) k hs (by show l[k].toNat<128;rw[hc];exact hq.1)]at hnx;have he:(Aa l)[k]'hs=l[k]:=rfl;rw[he,hc]at hnx;have HQ:=Za hq.2;clear hc hq he;go_wp2_with fail
    refine(Fl _ _).mono ?_;rw[HQ.out];rintro e w1 ⟨rfl,rfl⟩;go_wp2_with fail
    go_roundw
    case rel=>exact⟨k+1,hka,rfl⟩
    case measure=>simp;omega
   ·have hke:k=a.length:=by omega
    subst hke;have hbn:b≠[]:=by intro e;have:=HLEN.out;rw[e]at this;simp at this;omega
    obtain⟨c,r,hb,hc1,hc2⟩:=HBB.out.resolve_left hbn;have hc:l[a.length]=c:=by have:=HL.out;subst this;subst hb;simp
    rw[decode_ascii (Aa l) _ hs (by show l[a.length].toNat<128;rw[hc];exact hc1)]at hnx;have he:(Aa l)[a.length]'hs=l[a.length]:=rfl;rw[he,hc]at hnx;have HQ:=Za hc2;clear hc hc1 hc2 hb he;go_wp2_with fail
    refine(Fl _ _).mono ?_;rw[HQ.out];rintro e w1 ⟨rfl,rfl⟩;go_wp2_with fail
    go_ret
    exact⟨rfl,bA⟩
  ·have hnx:=fun ty=>run_next_end (P:=Zb) w (Aa l) k ty hlt
   have hz:l.length=a.length:=by omega
   go_wp2_with fail
   go_ret
   exact⟨Ek (by omega),bA⟩
def Eb(kind:Int)(text:Bs)(n line:Int):Value:= .agg #[.int .i64 kind,.string (Aa text),.int .i64 n,.int .i64 line]
theorem Ff(a b:Bs):(Aa (a++b)).extract 0 a.length=Aa a:=by
 apply ByteArray.ext
 rw[ByteArray.data_extract];simp [Aa]
theorem Vn(w0 w:World)(h:Below w0.heap.size w0 w)(v0 v1 v2 v3:Value):Below w0.heap.size w0 ((((w.setCell ⟨w0.heap.size,0,none⟩ v0).setCell ⟨w0.heap.size,1,none⟩ v1).setCell ⟨w0.heap.size,2,none⟩ v2).setCell ⟨w0.heap.size,3,none⟩ v3):=
 have st:∀(v:World) (i:Nat) (x:Value),Below w0.heap.size v (v.setCell ⟨w0.heap.size,i,none⟩ x):=fun v i x=>(Below.refl _ _).setCell (p:=⟨w0.heap.size,i,none⟩) (Nat.le_refl _) x
 (((h.trans (st _ _ _)).trans (st _ _ _)).trans (st _ _ _)).trans (st _ _ _)
theorem Rh(a b:Bs)(ha:∀c,c∈a→c.toNat<128∧Gy (c.toNat:Nat)=true)(hb:Et Gy b)(hk:Gp a=false)(hn:Ap a=true)(w:World):
  Calls Zb 90 #[.string (Aa (a++b))] w fun e w'=>e= .returned (.tuple #[Eb 1 a 0 0,.bool true])∧Below w.heap.size w w':=by
 have HR:=Za (fun w1=>Vi a b ha hb w1);have HW:=Za hk;have HN:=Za hn;have hl1:(a.length:Int)≤((a++b).length:Int):=by rw[Zc];omega
 have hl2:a.length≤(a++b).length:=by rw[Zc];omega
 have HO:=Za (Ac.new w [.int .i64 0,.string ⟨#[]⟩,.int .i64 0,.int .i64 0] 50);have HB0:=Za ((Below.refl w.heap.size w).alloc (Nat.le_refl _) (.cells #[.int .i64 0,.string ⟨#[]⟩,.int .i64 0,.int .i64 0] 50));clear ha hb hk hn;go_enter Tryz.func90,Tryz.ntmps90
 go_wp2_with fail
 refine(HR.out _).mono ?_;rintro e w1 ⟨rfl,hb1⟩;have HO1:=Za (HO.out.old hb1);have HB1:=Za (HB0.out.trans (hb1.mono HB0.out.size));clear hb1;go_wp2_with fail
 rw[Ff];refine(Lu a _).mono ?_;rw[HW.out];rintro e w2 ⟨rfl,hw2⟩;obtain rfl:w1=w2:=hw2;go_wp2_with fail
 refine(Hh a _).mono ?_;rw[HN.out];rintro e w2 ⟨rfl,hb2⟩;have HO2:=Za (HO1.out.old hb2);have HB2:=Za (HB1.out.trans (hb2.mono HB1.out.size));clear hb2;have q0:=HO2.out.at 0 _ rfl;have q1:=HO2.out.at 1 _ rfl;have q2:=HO2.out.at 2 _ rfl;have q3:=HO2.out.at 3 _ rfl;have f0:=HO2.out.fz 0;have f1:=HO2.out.fz 1;have f2:=HO2.out.fz 2;have f3:=HO2.out.fz 3;have ql:=HO2.out.lt;go_wp2_with fail
 have HS:=Za ((((HO2.out.set 0 (.int .i64 1)).set 1 (.string (Aa a))).set 2 (.int .i64 0)).set 3 (.int .i64 0));have e0:=HS.out.at 0 _ rfl;have e1:=HS.out.at 1 _ rfl;have e2:=HS.out.at 2 _ rfl;have e3:=HS.out.at 3 _ rfl;exact bodyPost_ret (v:= .tuple #[Eb 1 a 0 0,.bool true]) (by simp [results,Tryz.results90,go_sem,Eb,e0,e1,e2,e3]) rfl ⟨rfl,Vn w _ HB2.out _ _ _ _⟩
theorem Rr(a b:Bs)(ha:∀c,c∈a→c.toNat<128∧Gy (c.toNat:Nat)=true)(hb:Et Gy b)(hk:Gp a=true)(w:World):
  Calls Zb 90 #[.string (Aa (a++b))] w fun e w'=>e= .returned (.tuple #[Eb 2 a 0 0,.bool true])∧Below w.heap.size w w':=by
 have HR:=Za (fun w1=>Vi a b ha hb w1);have HW:=Za hk;have hl1:(a.length:Int)≤((a++b).length:Int):=by rw[Zc];omega
 have hl2:a.length≤(a++b).length:=by rw[Zc];omega
 have HO:=Za (Ac.new w [.int .i64 0,.string ⟨#[]⟩,.int .i64 0,.int .i64 0] 50);have HB0:=Za ((Below.refl w.heap.size w).alloc (Nat.le_refl _) (.cells #[.int .i64 0,.string ⟨#[]⟩,.int .i64 0,.int .i64 0] 50));clear ha hb hk;go_enter Tryz.func90,Tryz.ntmps90
 go_wp2_with fail
 refine(HR.out _).mono ?_;rintro e w1 ⟨rfl,hb1⟩;have HO1:=Za (HO.out.old hb1);have HB1:=Za (HB0.out.trans (hb1.mono HB0.out.size));clear hb1;go_wp2_with fail
 rw[Ff];refine(Lu a _).mono ?_;rw[HW.out];rintro e w2 ⟨rfl,hw2⟩;obtain rfl:w1=w2:=hw2;have q0:=HO1.out.at 0 _ rfl;have q1:=HO1.out.at 1 _ rfl;have q2:=HO1.out.at 2 _ rfl;have q3:=HO1.out.at 3 _ rfl;have f0:=HO1.out.fz 0;have f1:=HO1.out.fz 1;have f2:=HO1.out.fz 2;have f3:=HO1.out.fz 3;have ql:=HO1.out.lt;go_wp2_with fail
 have HS:=Za ((((HO1.out.set 0 (.int .i64 2)).set 1 (.string (Aa a))).set 2 (.int .i64 0)).set 3 (.int .i64 0));have e0:=HS.out.at 0 _ rfl;have e1:=HS.out.at 1 _ rfl;have e2:=HS.out.at 2 _ rfl;have e3:=HS.out.at 3 _ rfl;exact bodyPost_ret (v:= .tuple #[Eb 2 a 0 0,.bool true]) (by simp [results,Tryz.results90,go_sem,Eb,e0,e1,e2,e3]) rfl ⟨rfl,Vn w _ HB1.out _ _ _ _⟩
end Go.Proofs.YtcfpfnoldgnloaaGreatDoor
namespace Go.Proofs
open Go.Shelf
def Tryz.laysM171_ren:Go.Shelf.Ren:=⟨fun|171=>35|243=>78|246=>133|283=>190|284=>191|285=>192|286=>193|129=>208|317=>207|318=>209|319=>210|320=>211|337=>225|338=>226|n=>n,fun|3=>3|9=>9|2=>2|4=>4|171=>197|0=>0|53=>194|37=>77|5=>5|173=>200|212=>211|51=>191|20=>20|213=>212|46=>163|232=>229|233=>230|n=>n,fun|17=>3|18=>6|19=>7|n=>n⟩
theorem Tryz.laysM171:Go.Proofs.LaysM.n171 Tryz.prog Tryz.laysM171_ren:= {
 mixed:=by kernel_rfl
 f129:=Tryz.func208.trans (congrArg some (by kernel_rfl))
 f171:=Tryz.func35.trans (congrArg some (by kernel_rfl))
 f243:=Tryz.func78.trans (congrArg some (by kernel_rfl))
 f246:=Tryz.func133.trans (congrArg some (by kernel_rfl))
 f283:=Tryz.func190.trans (congrArg some (by kernel_rfl))
 f284:=Tryz.func191.trans (congrArg some (by kernel_rfl))
 f285:=Tryz.func192.trans (congrArg some (by kernel_rfl))
 f286:=Tryz.func193.trans (congrArg some (by kernel_rfl))
 f317:=Tryz.func207.trans (congrArg some (by kernel_rfl))
 f318:=Tryz.func209.trans (congrArg some (by kernel_rfl))
 f319:=Tryz.func210.trans (congrArg some (by kernel_rfl))
 f320:=Tryz.func211.trans (congrArg some (by kernel_rfl))
 f337:=Tryz.func225.trans (congrArg some (by kernel_rfl))
 f338:=Tryz.func226.trans (congrArg some (by kernel_rfl))
 t0:=Tryz.underlying0
 a0:=Tryz.isAgg0
 z0:=Tryz.sizeOf0
 v0:=Tryz.zeroValue0
 t2:=Tryz.underlying2
 a2:=Tryz.isAgg2
 z2:=Tryz.sizeOf2
 v2:=Tryz.zeroValue2
 t3:=Tryz.underlying3
 a3:=Tryz.isAgg3
 z3:=Tryz.sizeOf3
 v3:=Tryz.zeroValue3
 t4:=Tryz.underlying4
 a4:=Tryz.isAgg4
 z4:=Tryz.sizeOf4
 v4:=Tryz.zeroValue4
 t5:=Tryz.underlying5
 a5:=Tryz.isAgg5
 z5:=Tryz.sizeOf5
 v5:=Tryz.zeroValue5
 t9:=Tryz.underlying9
 a9:=Tryz.isAgg9
 z9:=Tryz.sizeOf9
 v9:=Tryz.zeroValue9
 t20:=Tryz.underlying20
 a20:=Tryz.isAgg20
 z20:=Tryz.sizeOf20
 v20:=Tryz.zeroValue20
 t37:=Tryz.underlying77
 a37:=Tryz.isAgg77
 z37:=Tryz.sizeOf77
 v37:=Tryz.zeroValue77
 t46:=Tryz.underlying163
 a46:=Tryz.isAgg163
 z46:=Tryz.sizeOf163
 v46:=Tryz.zeroValue163
 t51:=Tryz.underlying191
 a51:=Tryz.isAgg191
 z51:=Tryz.sizeOf191
 v51:=Tryz.zeroValue191
 t53:=Tryz.underlying194
 a53:=Tryz.isAgg194
 z53:=Tryz.sizeOf194
 v53:=Tryz.zeroValue194
 t171:=Tryz.underlying197
 a171:=Tryz.isAgg197
 z171:=Tryz.sizeOf197
 v171:=Tryz.zeroValue197
 t173:=Tryz.underlying200
 a173:=Tryz.isAgg200
 z173:=Tryz.sizeOf200
 v173:=Tryz.zeroValue200
 t212:=Tryz.underlying211
 a212:=Tryz.isAgg211
 z212:=Tryz.sizeOf211
 v212:=Tryz.zeroValue211
 t213:=Tryz.underlying212
 a213:=Tryz.isAgg212
 z213:=Tryz.sizeOf212
 t232:=Tryz.underlying229
 a232:=Tryz.isAgg229
 z232:=Tryz.sizeOf229
 v232:=Tryz.zeroValue229
 t233:=Tryz.underlying230
 a233:=Tryz.isAgg230
 z233:=Tryz.sizeOf230
 v233:=Tryz.zeroValue230
 g17:=by kernel_rfl
 g18:=by kernel_rfl
 g19:=by kernel_rfl
 i0:=by kernel_rfl
 i2:=by kernel_rfl
 i3:=by kernel_rfl
 i4:=by kernel_rfl
 i5:=by kernel_rfl
 i9:=by kernel_rfl
 i20:=by kernel_rfl
 i37:=by kernel_rfl
 i46:=by kernel_rfl
 i51:=by kernel_rfl
 i53:=by kernel_rfl
 i171:=by kernel_rfl
 i173:=by kernel_rfl
 i212:=by kernel_rfl
 i232:=by kernel_rfl
 i233:=by kernel_rfl
 m17:=by kernel_rfl
 m18:=by kernel_rfl
 m19:=by kernel_rfl}
open Go.RowKit Go.Sort Go.Lib in
theorem Tryz.strconv_Itoa(n:Int)(h0: -9223372036854775808≤n)(h1:n≤9223372036854775807)(w:World)(htab:Lib.TabIs Tryz.prog w "internal/strconv.uint64pow10" .u64 Lib.pow10Tab):
  Calls Tryz.prog 35 #[.int .i64 n] w fun e w'=>e= .returned (.string ⟨(Lib.itoa n).toArray⟩)∧∃k os,w'=grow (w.drewN k) os:=Any.strconv_Itoa Tryz.laysM171 n h0 h1 w htab
def Tryz.laysC172_ren:Go.Shelf.Ren:=⟨fun|172=>145|244=>197|245=>198|247=>216|279=>217|280=>218|281=>219|282=>220|287=>229|316=>230|171=>35|205=>231|321=>232|322=>233|243=>78|246=>133|283=>190|284=>191|285=>192|286=>193|129=>208|317=>207|318=>209|319=>210|320=>211|337=>225|338=>226|n=>n,fun|9=>9|3=>3|75=>160|76=>161|4=>4|5=>5|167=>215|37=>77|0=>0|85=>216|2=>2|168=>218|53=>194|175=>223|46=>163|210=>227|127=>125|145=>234|143=>232|21=>21|171=>197|173=>200|212=>211|51=>191|20=>20|213=>212|232=>229|233=>230|80=>83|n=>n,fun|15=>4|16=>5|17=>3|18=>6|19=>7|n=>n⟩
theorem Tryz.laysC172:Go.Proofs.LaysC.n172 Tryz.prog Tryz.laysC172_ren:= {
 mixed:=by kernel_rfl
 f129:=Tryz.func208.trans (congrArg some (by kernel_rfl))
 f171:=Tryz.func35.trans (congrArg some (by kernel_rfl))
 f172:=Tryz.func145.trans (congrArg some (by kernel_rfl))
 f205:=Tryz.func231.trans (congrArg some (by kernel_rfl))
 f243:=Tryz.func78.trans (congrArg some (by kernel_rfl))
 f244:=Tryz.func197.trans (congrArg some (by kernel_rfl))
 f245:=Tryz.func198.trans (congrArg some (by kernel_rfl))
 f246:=Tryz.func133.trans (congrArg some (by kernel_rfl))
 f247:=Tryz.func216.trans (congrArg some (by kernel_rfl))
 f279:=Tryz.func217.trans (congrArg some (by kernel_rfl))
 f280:=Tryz.func218.trans (congrArg some (by kernel_rfl))
 f281:=Tryz.func219.trans (congrArg some (by kernel_rfl))
 f282:=Tryz.func220.trans (congrArg some (by kernel_rfl))
 f283:=Tryz.func190.trans (congrArg some (by kernel_rfl))
 f284:=Tryz.func191.trans (congrArg some (by kernel_rfl))
 f285:=Tryz.func192.trans (congrArg some (by kernel_rfl))
 f286:=Tryz.func193.trans (congrArg some (by kernel_rfl))
 f287:=Tryz.func229.trans (congrArg some (by kernel_rfl))
 f316:=Tryz.func230.trans (congrArg some (by kernel_rfl))
 f317:=Tryz.func207.trans (congrArg some (by kernel_rfl))
 f318:=Tryz.func209.trans (congrArg some (by kernel_rfl))
 f319:=Tryz.func210.trans (congrArg some (by kernel_rfl))
 f320:=Tryz.func211.trans (congrArg some (by kernel_rfl))
 f321:=Tryz.func232.trans (congrArg some (by kernel_rfl))
 f322:=Tryz.func233.trans (congrArg some (by kernel_rfl))
 f337:=Tryz.func225.trans (congrArg some (by kernel_rfl))
 f338:=Tryz.func226.trans (congrArg some (by kernel_rfl))
 t0:=Tryz.underlying0
 a0:=Tryz.isAgg0
 z0:=Tryz.sizeOf0
 v0:=Tryz.zeroValue0
 t2:=Tryz.underlying2
 a2:=Tryz.isAgg2
 z2:=Tryz.sizeOf2
 v2:=Tryz.zeroValue2
 t3:=Tryz.underlying3
 a3:=Tryz.isAgg3
 z3:=Tryz.sizeOf3
 v3:=Tryz.zeroValue3
 t4:=Tryz.underlying4
 a4:=Tryz.isAgg4
 z4:=Tryz.sizeOf4
 v4:=Tryz.zeroValue4
 t5:=Tryz.underlying5
 a5:=Tryz.isAgg5
 z5:=Tryz.sizeOf5
 v5:=Tryz.zeroValue5
 t9:=Tryz.underlying9
 a9:=Tryz.isAgg9
 z9:=Tryz.sizeOf9
 v9:=Tryz.zeroValue9
 t20:=Tryz.underlying20
 a20:=Tryz.isAgg20
 z20:=Tryz.sizeOf20
 v20:=Tryz.zeroValue20
 t21:=Tryz.underlying21
 a21:=Tryz.isAgg21
 z21:=Tryz.sizeOf21
 v21:=Tryz.zeroValue21
 t37:=Tryz.underlying77
 a37:=Tryz.isAgg77
 z37:=Tryz.sizeOf77
 v37:=Tryz.zeroValue77
 t46:=Tryz.underlying163
 a46:=Tryz.isAgg163
 z46:=Tryz.sizeOf163
 v46:=Tryz.zeroValue163
 t51:=Tryz.underlying191
 a51:=Tryz.isAgg191
 z51:=Tryz.sizeOf191
 v51:=Tryz.zeroValue191
 t53:=Tryz.underlying194
 a53:=Tryz.isAgg194
 z53:=Tryz.sizeOf194
 v53:=Tryz.zeroValue194
 t75:=Tryz.underlying160
 a75:=Tryz.isAgg160
 z75:=Tryz.sizeOf160
 v75:=Tryz.zeroValue160
 t76:=Tryz.underlying161
 a76:=Tryz.isAgg161
 z76:=Tryz.sizeOf161
 v76:=Tryz.zeroValue161
 t85:=Tryz.underlying216
 a85:=Tryz.isAgg216
 z85:=Tryz.sizeOf216
 v85:=Tryz.zeroValue216
 t127:=Tryz.underlying125
 a127:=Tryz.isAgg125
 z127:=Tryz.sizeOf125
 v127:=Tryz.zeroValue125
 t143:=Tryz.underlying232
 a143:=Tryz.isAgg232
 z143:=Tryz.sizeOf232
 v143:=Tryz.zeroValue232
 t145:=Tryz.underlying234
 a145:=Tryz.isAgg234
 z145:=Tryz.sizeOf234
 v145:=Tryz.zeroValue234
 t167:=Tryz.underlying215
 a167:=Tryz.isAgg215
 z167:=Tryz.sizeOf215
 v167:=Tryz.zeroValue215
 t168:=Tryz.underlying218
 a168:=Tryz.isAgg218
 z168:=Tryz.sizeOf218
 v168:=Tryz.zeroValue218
 t171:=Tryz.underlying197
 a171:=Tryz.isAgg197
 z171:=Tryz.sizeOf197
 v171:=Tryz.zeroValue197
 t173:=Tryz.underlying200
 a173:=Tryz.isAgg200
 z173:=Tryz.sizeOf200
 v173:=Tryz.zeroValue200
 t175:=Tryz.underlying223
 a175:=Tryz.isAgg223
 z175:=Tryz.sizeOf223
 v175:=Tryz.zeroValue223
 t210:=Tryz.underlying227
 a210:=Tryz.isAgg227
 z210:=Tryz.sizeOf227
 v210:=Tryz.zeroValue227
 t212:=Tryz.underlying211
 a212:=Tryz.isAgg211
 z212:=Tryz.sizeOf211
 v212:=Tryz.zeroValue211
 t213:=Tryz.underlying212
 a213:=Tryz.isAgg212
 z213:=Tryz.sizeOf212
 t232:=Tryz.underlying229
 a232:=Tryz.isAgg229
 z232:=Tryz.sizeOf229
 v232:=Tryz.zeroValue229
 t233:=Tryz.underlying230
 a233:=Tryz.isAgg230
 z233:=Tryz.sizeOf230
 v233:=Tryz.zeroValue230
 g15:=by kernel_rfl
 g16:=by kernel_rfl
 g17:=by kernel_rfl
 g18:=by kernel_rfl
 g19:=by kernel_rfl
 t80:=Tryz.underlying83
 a80:=Tryz.isAgg83
 z80:=Tryz.sizeOf83
 v80:=Tryz.zeroValue83
 i0:=by kernel_rfl
 i2:=by kernel_rfl
 i3:=by kernel_rfl
 i4:=by kernel_rfl
 i5:=by kernel_rfl
 i9:=by kernel_rfl
 i20:=by kernel_rfl
 i21:=by kernel_rfl
 i37:=by kernel_rfl
 i46:=by kernel_rfl
 i51:=by kernel_rfl
 i53:=by kernel_rfl
 i75:=by kernel_rfl
 i76:=by kernel_rfl
 i80:=by kernel_rfl
 i85:=by kernel_rfl
 i127:=by kernel_rfl
 i143:=by kernel_rfl
 i145:=by kernel_rfl
 i167:=by kernel_rfl
 i168:=by kernel_rfl
 i171:=by kernel_rfl
 i173:=by kernel_rfl
 i175:=by kernel_rfl
 i210:=by kernel_rfl
 i212:=by kernel_rfl
 i232:=by kernel_rfl
 i233:=by kernel_rfl
 m15:=by kernel_rfl
 m16:=by kernel_rfl
 m17:=by kernel_rfl
 m18:=by kernel_rfl
 m19:=by kernel_rfl
 c0:=by kernel_rfl
 c2:=by kernel_rfl
 c3:=by kernel_rfl
 c4:=by kernel_rfl
 c5:=by kernel_rfl
 c9:=by kernel_rfl
 c20:=by kernel_rfl
 c21:=by kernel_rfl
 c37:=by kernel_rfl
 c46:=by kernel_rfl
 c51:=by kernel_rfl
 c53:=by kernel_rfl
 c75:=by kernel_rfl
 c76:=by kernel_rfl
 c80:=by kernel_rfl
 c85:=by kernel_rfl
 c127:=by kernel_rfl
 c143:=by kernel_rfl
 c145:=by kernel_rfl
 c167:=by kernel_rfl
 c168:=by kernel_rfl
 c171:=by kernel_rfl
 c173:=by kernel_rfl
 c175:=by kernel_rfl
 c210:=by kernel_rfl
 c212:=by kernel_rfl
 c213:=by kernel_rfl
 c232:=by kernel_rfl
 c233:=by kernel_rfl}
open Go.RowKit in
theorem Tryz.strconv_Atoi_ok(s:ByteArray)(hmax:s.size≤9223372036854775806)(v:Int)(h:Lib.atoiAll s.data.toList= .ok v)(w:World):
  Calls Tryz.prog 145 #[.string s] w fun e w'=>e= .returned (.tuple #[.int .i64 v,.nilIface])∧(w'=w∨∃t,w'=Lib.bytesWorld w 5 t):=Any.strconv_Atoi_ok Tryz.laysC172 s hmax v h w
def Tryz.lays144_ren:Go.Shelf.Ren:=⟨fun|144=>142|143=>138|219=>194|217=>212|225=>213|224=>214|267=>215|266=>227|314=>228|n=>n,fun|9=>9|4=>4|3=>3|5=>5|46=>163|146=>192|51=>191|n=>n,fun|1=>0|n=>n⟩
theorem Tryz.lays144:Go.Proofs.Lays.n144 Tryz.prog Tryz.lays144_ren:= {
 mixed:=by kernel_rfl
 f143:=Tryz.func138.trans (congrArg some (by kernel_rfl))
 f144:=Tryz.func142.trans (congrArg some (by kernel_rfl))
 f217:=Tryz.func212.trans (congrArg some (by kernel_rfl))
 f219:=Tryz.func194.trans (congrArg some (by kernel_rfl))
 f224:=Tryz.func214.trans (congrArg some (by kernel_rfl))
 f225:=Tryz.func213.trans (congrArg some (by kernel_rfl))
 f266:=Tryz.func227.trans (congrArg some (by kernel_rfl))
 f267:=Tryz.func215.trans (congrArg some (by kernel_rfl))
 f314:=Tryz.func228.trans (congrArg some (by kernel_rfl))
 t3:=Tryz.underlying3
 a3:=Tryz.isAgg3
 z3:=Tryz.sizeOf3
 v3:=Tryz.zeroValue3
 t4:=Tryz.underlying4
 a4:=Tryz.isAgg4
 z4:=Tryz.sizeOf4
 v4:=Tryz.zeroValue4
 t5:=Tryz.underlying5
 a5:=Tryz.isAgg5
 z5:=Tryz.sizeOf5
 v5:=Tryz.zeroValue5
 t9:=Tryz.underlying9
 a9:=Tryz.isAgg9
 z9:=Tryz.sizeOf9
 v9:=Tryz.zeroValue9
 t46:=Tryz.underlying163
 a46:=Tryz.isAgg163
 z46:=Tryz.sizeOf163
 v46:=Tryz.zeroValue163
 t51:=Tryz.underlying191
 a51:=Tryz.isAgg191
 z51:=Tryz.sizeOf191
 v51:=Tryz.zeroValue191
 t146:=Tryz.underlying192
 a146:=Tryz.isAgg192
 z146:=Tryz.sizeOf192
 v146:=Tryz.zeroValue192
 g1:=by kernel_rfl}
open Go.RowKit Go.Lib in
theorem Tryz.strings_Contains(s sub:ByteArray)(m:Int)(w:World)(hs:s.size<4294967281)(hm:w.cell? ⟨0,0,none⟩=some (.int .i64 m)):
  Calls Tryz.prog 142 #[.string s,.string sub] w fun e w'=>e= .returned (.bool (Lib.contains s.data.toList sub.data.toList))∧w'=w:=Any.strings_Contains Tryz.lays144 s sub m w hs hm
def Tryz.lays145_ren:Go.Shelf.Ren:=⟨fun|145=>140|220=>195|219=>194|217=>212|225=>213|224=>214|267=>215|266=>227|314=>228|n=>n,fun|9=>9|4=>4|59=>172|3=>3|5=>5|46=>163|146=>192|51=>191|n=>n,fun|1=>0|n=>n⟩
theorem Tryz.lays145:Go.Proofs.Lays.n145 Tryz.prog Tryz.lays145_ren:= {
 mixed:=by kernel_rfl
 f145:=Tryz.func140.trans (congrArg some (by kernel_rfl))
 f217:=Tryz.func212.trans (congrArg some (by kernel_rfl))
 f219:=Tryz.func194.trans (congrArg some (by kernel_rfl))
 f220:=Tryz.func195.trans (congrArg some (by kernel_rfl))
 f224:=Tryz.func214.trans (congrArg some (by kernel_rfl))
 f225:=Tryz.func213.trans (congrArg some (by kernel_rfl))
 f266:=Tryz.func227.trans (congrArg some (by kernel_rfl))
 f267:=Tryz.func215.trans (congrArg some (by kernel_rfl))
 f314:=Tryz.func228.trans (congrArg some (by kernel_rfl))
 t3:=Tryz.underlying3
 a3:=Tryz.isAgg3
 z3:=Tryz.sizeOf3
 v3:=Tryz.zeroValue3
 t4:=Tryz.underlying4
 a4:=Tryz.isAgg4
 z4:=Tryz.sizeOf4
 v4:=Tryz.zeroValue4
 t5:=Tryz.underlying5
 a5:=Tryz.isAgg5
 z5:=Tryz.sizeOf5
 v5:=Tryz.zeroValue5
 t9:=Tryz.underlying9
 a9:=Tryz.isAgg9
 z9:=Tryz.sizeOf9
 v9:=Tryz.zeroValue9
 t46:=Tryz.underlying163
 a46:=Tryz.isAgg163
 z46:=Tryz.sizeOf163
 v46:=Tryz.zeroValue163
 t51:=Tryz.underlying191
 a51:=Tryz.isAgg191
 z51:=Tryz.sizeOf191
 v51:=Tryz.zeroValue191
 t59:=Tryz.underlying172
 a59:=Tryz.isAgg172
 z59:=Tryz.sizeOf172
 v59:=Tryz.zeroValue172
 t146:=Tryz.underlying192
 a146:=Tryz.isAgg192
 z146:=Tryz.sizeOf192
 v146:=Tryz.zeroValue192
 g1:=by kernel_rfl}
open Go.RowKit Go.Lib in
theorem Tryz.strings_Cut(s sep:ByteArray)(m:Int)(w:World)(hs:s.size<4294967281)(hm:w.cell? ⟨0,0,none⟩=some (.int .i64 m)):
  Calls Tryz.prog 140 #[.string s,.string sep] w fun e w'=>e= .returned (.tuple #[.string ⟨(Lib.cut s.data.toList sep.data.toList).1.toArray⟩,.string ⟨(Lib.cut s.data.toList sep.data.toList).2.1.toArray⟩,.bool (Lib.cut s.data.toList sep.data.toList).2.2])∧∃n,w'=w.drewN n:=Any.strings_Cut Tryz.lays145 s sep m w hs hm
def Tryz.lays138_ren:Go.Shelf.Ren:=⟨fun|138=>86|195=>136|218=>137|143=>138|219=>194|217=>212|225=>213|224=>214|267=>215|266=>227|314=>228|n=>n,fun|9=>9|3=>3|4=>4|5=>5|0=>0|46=>163|146=>192|51=>191|n=>n,fun|1=>0|n=>n⟩
theorem Tryz.lays138:Go.Proofs.Lays.n138 Tryz.prog Tryz.lays138_ren:= {
 mixed:=by kernel_rfl
 f138:=Tryz.func86.trans (congrArg some (by kernel_rfl))
 f143:=Tryz.func138.trans (congrArg some (by kernel_rfl))
 f195:=Tryz.func136.trans (congrArg some (by kernel_rfl))
 f217:=Tryz.func212.trans (congrArg some (by kernel_rfl))
 f218:=Tryz.func137.trans (congrArg some (by kernel_rfl))
 f219:=Tryz.func194.trans (congrArg some (by kernel_rfl))
 f224:=Tryz.func214.trans (congrArg some (by kernel_rfl))
 f225:=Tryz.func213.trans (congrArg some (by kernel_rfl))
 f266:=Tryz.func227.trans (congrArg some (by kernel_rfl))
 f267:=Tryz.func215.trans (congrArg some (by kernel_rfl))
 f314:=Tryz.func228.trans (congrArg some (by kernel_rfl))
 t0:=Tryz.underlying0
 a0:=Tryz.isAgg0
 z0:=Tryz.sizeOf0
 v0:=Tryz.zeroValue0
 t3:=Tryz.underlying3
 a3:=Tryz.isAgg3
 z3:=Tryz.sizeOf3
 v3:=Tryz.zeroValue3
 t4:=Tryz.underlying4
 a4:=Tryz.isAgg4
 z4:=Tryz.sizeOf4
 v4:=Tryz.zeroValue4
 t5:=Tryz.underlying5
 a5:=Tryz.isAgg5
 z5:=Tryz.sizeOf5
 v5:=Tryz.zeroValue5
 t9:=Tryz.underlying9
 a9:=Tryz.isAgg9
 z9:=Tryz.sizeOf9
 v9:=Tryz.zeroValue9
 t46:=Tryz.underlying163
 a46:=Tryz.isAgg163
 z46:=Tryz.sizeOf163
 v46:=Tryz.zeroValue163
 t51:=Tryz.underlying191
 a51:=Tryz.isAgg191
 z51:=Tryz.sizeOf191
 v51:=Tryz.zeroValue191
 t146:=Tryz.underlying192
 a146:=Tryz.isAgg192
 z146:=Tryz.sizeOf192
 v146:=Tryz.zeroValue192
 g1:=by kernel_rfl}
open Go.RowKit Go.Lib in
theorem Tryz.strings_Count_one(s:ByteArray)(c:UInt8)(w:World):
  Calls Tryz.prog 86 #[.string s,.string ⟨#[c]⟩] w fun e w'=>e= .returned (.int .i64 (Lib.countByte s.data.toList c))∧w'=w:=Any.strings_Count_one Tryz.lays138 s c w
def Tryz.lays99_ren:Go.Shelf.Ren:=⟨fun|99=>87|206=>139|n=>n,fun|9=>9|4=>4|3=>3|n=>n,fun|n=>n⟩
theorem Tryz.lays99:Go.Proofs.Lays.n99 Tryz.prog Tryz.lays99_ren:= {
 mixed:=by kernel_rfl
 f99:=Tryz.func87.trans (congrArg some (by kernel_rfl))
 f206:=Tryz.func139.trans (congrArg some (by kernel_rfl))
 t3:=Tryz.underlying3
 a3:=Tryz.isAgg3
 z3:=Tryz.sizeOf3
 v3:=Tryz.zeroValue3
 t4:=Tryz.underlying4
 a4:=Tryz.isAgg4
 z4:=Tryz.sizeOf4
 v4:=Tryz.zeroValue4
 t9:=Tryz.underlying9
 a9:=Tryz.isAgg9
 z9:=Tryz.sizeOf9
 v9:=Tryz.zeroValue9}
open Go.RowKit Go.Lib in
theorem Tryz.strings_HasPrefix(s p:ByteArray)(w:World):
  Calls Tryz.prog 87 #[.string s,.string p] w fun e w'=>e= .returned (.bool (Lib.hasPrefix s.data.toList p.data.toList))∧w'=w:=Any.strings_HasPrefix Tryz.lays99 s p w
def Tryz.lays197_ren:Go.Shelf.Ren:=⟨fun|197=>146|260=>199|n=>n,fun|9=>9|21=>21|3=>3|4=>4|5=>5|105=>174|119=>203|0=>0|46=>163|139=>206|138=>205|n=>n,fun|3=>1|4=>2|n=>n⟩
theorem Tryz.lays197:Go.Proofs.Lays.n197 Tryz.prog Tryz.lays197_ren:= {
 mixed:=by kernel_rfl
 f197:=Tryz.func146.trans (congrArg some (by kernel_rfl))
 f260:=Tryz.func199.trans (congrArg some (by kernel_rfl))
 t0:=Tryz.underlying0
 a0:=Tryz.isAgg0
 z0:=Tryz.sizeOf0
 v0:=Tryz.zeroValue0
 t3:=Tryz.underlying3
 a3:=Tryz.isAgg3
 z3:=Tryz.sizeOf3
 v3:=Tryz.zeroValue3
 t4:=Tryz.underlying4
 a4:=Tryz.isAgg4
 z4:=Tryz.sizeOf4
 v4:=Tryz.zeroValue4
 t5:=Tryz.underlying5
 a5:=Tryz.isAgg5
 z5:=Tryz.sizeOf5
 v5:=Tryz.zeroValue5
 t9:=Tryz.underlying9
 a9:=Tryz.isAgg9
 z9:=Tryz.sizeOf9
 v9:=Tryz.zeroValue9
 t21:=Tryz.underlying21
 a21:=Tryz.isAgg21
 z21:=Tryz.sizeOf21
 v21:=Tryz.zeroValue21
 t46:=Tryz.underlying163
 a46:=Tryz.isAgg163
 z46:=Tryz.sizeOf163
 v46:=Tryz.zeroValue163
 t105:=Tryz.underlying174
 a105:=Tryz.isAgg174
 z105:=Tryz.sizeOf174
 v105:=Tryz.zeroValue174
 t119:=Tryz.underlying203
 a119:=Tryz.isAgg203
 z119:=Tryz.sizeOf203
 t138:=Tryz.underlying205
 a138:=Tryz.isAgg205
 z138:=Tryz.sizeOf205
 v138:=Tryz.zeroValue205
 t139:=Tryz.underlying206
 a139:=Tryz.isAgg206
 z139:=Tryz.sizeOf206
 v139:=Tryz.zeroValue206
 g3:=by kernel_rfl
 g4:=by kernel_rfl}
open Go.RowKit Go.Lib in
theorem Tryz.utf8_DecodeRuneInString(s:ByteArray)(w:World)(hT:Lib.Utf8Tabs 1 2 w):
  Calls Tryz.prog 146 #[.string s] w fun e w'=>e= .returned (.tuple #[.int .i32 (Lib.decodeGo s).1,.int .i64 (Lib.decodeGo s).2])∧Below w.heap.size w w':=Any.utf8_DecodeRuneInString Tryz.lays197 s w hT
def Tryz.lays196_ren:Go.Shelf.Ren:=⟨fun|196=>141|259=>196|n=>n,fun|9=>9|4=>4|3=>3|5=>5|12=>12|119=>203|0=>0|46=>163|139=>206|138=>205|53=>194|n=>n,fun|3=>1|4=>2|n=>n⟩
theorem Tryz.lays196:Go.Proofs.Lays.n196 Tryz.prog Tryz.lays196_ren:= {
 mixed:=by kernel_rfl
 f196:=Tryz.func141.trans (congrArg some (by kernel_rfl))
 f259:=Tryz.func196.trans (congrArg some (by kernel_rfl))
 t0:=Tryz.underlying0
 a0:=Tryz.isAgg0
 z0:=Tryz.sizeOf0
 v0:=Tryz.zeroValue0
 t3:=Tryz.underlying3
 a3:=Tryz.isAgg3
 z3:=Tryz.sizeOf3
 v3:=Tryz.zeroValue3
 t4:=Tryz.underlying4
 a4:=Tryz.isAgg4
 z4:=Tryz.sizeOf4
 v4:=Tryz.zeroValue4
 t5:=Tryz.underlying5
 a5:=Tryz.isAgg5
 z5:=Tryz.sizeOf5
 v5:=Tryz.zeroValue5
 t9:=Tryz.underlying9
 a9:=Tryz.isAgg9
 z9:=Tryz.sizeOf9
 v9:=Tryz.zeroValue9
 t12:=Tryz.underlying12
 a12:=Tryz.isAgg12
 z12:=Tryz.sizeOf12
 v12:=Tryz.zeroValue12
 t46:=Tryz.underlying163
 a46:=Tryz.isAgg163
 z46:=Tryz.sizeOf163
 v46:=Tryz.zeroValue163
 t53:=Tryz.underlying194
 a53:=Tryz.isAgg194
 z53:=Tryz.sizeOf194
 v53:=Tryz.zeroValue194
 t119:=Tryz.underlying203
 a119:=Tryz.isAgg203
 z119:=Tryz.sizeOf203
 t138:=Tryz.underlying205
 a138:=Tryz.isAgg205
 z138:=Tryz.sizeOf205
 v138:=Tryz.zeroValue205
 t139:=Tryz.underlying206
 a139:=Tryz.isAgg206
 z139:=Tryz.sizeOf206
 v139:=Tryz.zeroValue206
 g3:=by kernel_rfl
 g4:=by kernel_rfl}
open Go.RowKit Go.Lib in
theorem Tryz.utf8_ValidString(s:ByteArray)(w:World)(hs:s.size≤9223372036854775807)(hT:Lib.Utf8Tabs 1 2 w):
  Calls Tryz.prog 141 #[.string s] w fun e w'=>e= .returned (.bool (Lib.validD s.data.toList))∧Below w.heap.size w w':=Any.utf8_ValidString Tryz.lays196 s w hs hT
end Go.Proofs
namespace Go.Proofs.YtcfpfnoldgnloaaGreatDoor
open Go.RowKit
set_option maxHeartbeats 20000000
set_option maxRecDepth 100000
open Go.Lib renaming hid→Za,decDigits→Zb,parseUint10→Ze
open Go.Proofs.Tryz renaming prog→Zc
open Below renaming refl→Zd
open List renaming length_append→Zf,length_cons→Zh
open Nat renaming le_refl→Zg
theorem Hf(u:Nat):∀c,c∈Zb u→Ca c=true:=by
 induction u using Nat.strongRecOn with
 |_ u ih=>
  intro c hc;have dig:∀d,d<10→Ca (UInt8.ofNat (48+d))=true:=by decide
  rw[Zb]at hc
  by_cases h:u<10
  ·rw[dif_pos h]at hc
   rw[List.mem_singleton.1 hc];exact dig u h
  ·rw[dif_neg h]at hc
   rcases List.mem_append.1 hc with hc|hc
   ·exact ih (u / 10) (by omega) c hc
   ·rw[List.mem_singleton.1 hc];exact dig _ (by omega)
theorem Mt(u:Nat):Zb u≠[]:=by
 rw[Zb];split
 ·exact List.cons_ne_nil _ _
 ·simp
theorem Pw(b:UInt8)(d:Nat)(hb:b.toNat=48+d)(hd:d<10):∀(l:List UInt8) (acc n:Nat),Ze acc l= .ok n→n*10+d<18446744073709551616→Ze acc (l++[b])= .ok (n*10+d)
 |[],acc,n,h,hn=>by
  simp only[Ze]at h
  cases h
  show Ze acc [b]=_
  simp only[Ze];rw[if_pos (by omega),if_neg (by omega),if_neg (by omega)];congr 2;omega
 |c::l,acc,n,h,hn=>by
  simp only[Ze,List.cons_append]at h ⊢;split at h
  ·rename_i h1
   rw[if_pos h1];split at h
   ·cases h
   ·rename_i h2
    rw[if_neg h2];split at h
    ·cases h
    ·rename_i h3
     rw[if_neg h3];exact Pw b d hb hd l _ n h hn
  ·cases h
theorem Yg(u:Nat)(hu:u<18446744073709551616):Ze 0 (Zb u)= .ok u:=by
 induction u using Nat.strongRecOn with
 |_ u ih=>
  have hb:∀d,d<10→(UInt8.ofNat (48+d)).toNat=48+d:=fun d hd=>by rw[UInt8.toNat_ofNat'];exact Nat.mod_eq_of_lt (by omega)
  rw[Zb]
  by_cases h:u<10
  ·rw[dif_pos h]
   have:=Pw (UInt8.ofNat (48+u)) u (hb u h) h [] 0 0 rfl (by omega);simpa using this
  ·rw[dif_neg h]
   have:=Pw (UInt8.ofNat (48+u % 10)) (u % 10) (hb _ (by omega)) (by omega) _ 0 _ (ih (u / 10) (by omega) (by omega)) (by omega);rw[this];congr 1;omega
theorem cL(u:Nat)(hn:Zb u≠[])(hm:∀c,c∈Zb u→48≤c.toNat∧c.toNat≤57)(hu:u≤9223372036854775807):Lib.atoiAll (Zb u)= .ok (u:Int):=by
 have hp:=Yg u (by omega);generalize Zb u=l at*
 cases l with
 |nil=>exact absurd rfl hn
 |cons c r=>
  have hc:=hm c List.mem_cons_self;unfold Lib.atoiAll;dsimp only;rw[if_neg (by omega)];unfold Lib.parseMag;rw[if_neg (by simp),hp];dsimp only;rw[if_neg (by omega),if_neg (by omega),if_neg (by omega)]
def Uz(w:World):Prop:=Lib.TabIs Zc w "internal/strconv.uint64pow10" .u64 Lib.pow10Tab
theorem Uz.keep {w w':World}(h:Uz w)(hb:w'.heap[3]? =w.heap[3]?):Uz w':=by
 have hg:Tryz.prog.globalNamed "internal/strconv.uint64pow10" =some 3:=by kernel_rfl
 unfold Uz Lib.TabIs World.var? at*;simp only[hg,Option.bind_eq_bind,Option.bind_some]at*;rw[hb];exact h
theorem Zx(n:Int)(h0: -9223372036854775808≤n)(h1:n≤9223372036854775807)(w:World)(ht:Uz w):
  Calls Zc 35 #[.int .i64 n] w fun e w'=>e= .returned (.string (Aa (Lib.itoa n)))∧Below w.heap.size w w':=by
 refine(Tryz.strconv_Itoa n h0 h1 w ht).mono ?_;rintro e w' ⟨rfl,k,os,rfl⟩;exact⟨rfl,rfl,rfl,rfl,by simp,fun i hi=>by simp [Sort.grow,World.drewN,Array.getElem?_append_left hi]⟩
theorem Na(u:Nat)(b:Bs)(hu:(Zb u).length≤19)(hi:u≤9223372036854775807)(hb:Et Di b)(w:World)(hg:3<w.heap.size)(ht:Uz w):
  Calls Zc 92 #[.string (Aa (Zb u++b))] w fun e w'=>e= .returned (.tuple #[Eb 3 (Zb u) u 0,.bool true])∧Below w.heap.size w w':=by
 have hA:=cL u (Mt u) (fun c hc=>by have:=Hf u c hc;simp [Ca,UInt8.le_iff_toNat_le]at this;omega) hi;have hI:Lib.itoa (u:Int)=Zb u:=by unfold Lib.itoa;rw[if_neg (by omega)];simp
 have ha:∀c,c∈Zb u→c.toNat<128∧Di (c.toNat:Nat)=true:=fun c hc=>by
  have:=Hf u c hc;refine⟨?_,by rw[He];exact this⟩;simp [Ca,UInt8.le_iff_toNat_le]at this;omega
 have HR:=Za (fun w1=>Zy (Zb u) b ha hb w1);have HA:=Za hA;have HI:=Za hI;have HT:=Za ht;have HU:=Za hu;generalize Zb u=a at*;have hl1:(a.length:Int)≤((a++b).length:Int):=by rw[Zf];omega
 have hl2:a.length≤(a++b).length:=by rw[Zf];omega
 have HO:=Za (Ac.new w [.int .i64 0,.string ⟨#[]⟩,.int .i64 0,.int .i64 0] 50);have HB0:=Za ((Zd w.heap.size w).alloc (Zg _) (.cells #[.int .i64 0,.string ⟨#[]⟩,.int .i64 0,.int .i64 0] 50));clear ha hb hA hI ht hu;go_enter Tryz.func92,Tryz.ntmps92
 go_wp2_with fail
 refine(HR.out _).mono ?_;rintro e w1 ⟨rfl,hb1⟩;have HO1:=Za (HO.out.old hb1);have HB1:=Za (HB0.out.trans (hb1.mono HB0.out.size));clear hb1;go_wp2_with fail
 rw[Ff];refine(Tryz.strconv_Atoi_ok (Aa a) (by show a.length≤_;have:=HU.out;omega) (u:Int) HA.out w1).mono ?_;rintro e w2 ⟨rfl,hw2⟩;have hb2:Below w1.heap.size w1 w2:=by
  rcases hw2 with rfl|⟨t,rfl⟩
  ·exact Zd _ _
  ·exact Joins.below_bytesWorld _ w1 5 t (Zg _)
 have HO2:=Za (HO1.out.old hb2);have HB2:=Za (HB1.out.trans (hb2.mono HB1.out.size));clear hb2 hw2;go_wp2_with fail
 have ht2:Uz w2:=HT.out.keep (HB2.out.block _ hg);refine(Zx (u:Int) (by omega) (by omega) w2 ht2).mono ?_;rw[HI.out];rintro e w3 ⟨rfl,hb3⟩;have HO3:=Za (HO2.out.old hb3);have HB3:=Za (HB2.out.trans (hb3.mono HB2.out.size));clear hb3 ht2;have q0:=HO3.out.at 0 _ rfl;have f0:=HO3.out.fz 0;have q1:=HO3.out.at 1 _ rfl;have f1:=HO3.out.fz 1;have q2:=HO3.out.at 2 _ rfl;have f2:=HO3.out.fz 2;have q3:=HO3.out.at 3 _ rfl;have f3:=HO3.out.fz 3;have ql:=HO3.out.lt;go_wp2_with fail
 have HS:=Za ((((HO3.out.set 0 (.int .i64 3)).set 1 (.string (Aa a))).set 2 (.int .i64 u)).set 3 (.int .i64 0));have e0:=HS.out.at 0 _ rfl;have e1:=HS.out.at 1 _ rfl;have e2:=HS.out.at 2 _ rfl;have e3:=HS.out.at 3 _ rfl;exact bodyPost_ret (v:= .tuple #[Eb 3 a u 0,.bool true]) (by simp [results,Tryz.results92,go_sem,Eb,e0,e1,e2,e3]) rfl ⟨rfl,Vn w _ HB3.out _ _ _ _⟩
def Uh:List Bs:=[[61,61],[33,61],[60,61],[62,61],[60,60],[62,62],[40],[41],[123],[125],[91],[93],[44],[59],[61],[124],[94],[38],[43],[45],[42],[47],[37],[33],[126],[60],[62]]
def Hu(l:Bs):Bool:=Uh.contains l
theorem Em {t:Bs}(h:Hu t=true):t=[61,61]∨t=[33,61]∨t=[60,61]∨t=[62,61]∨t=[60,60]∨t=[62,62]∨t=[40]∨t=[41]∨t=[123]∨t=[125]∨t=[91]∨t=[93]∨t=[44]∨t=[59]∨t=[61]∨t=[124]∨t=[94]∨t=[38]∨t=[43]∨t=[45]∨t=[42]∨t=[47]∨t=[37]∨t=[33]∨t=[126]∨t=[60]∨t=[62]:=by
 simpa [Hu,Uh]using h
theorem Mb(a b:Bs)(ha:Hu a=true)(h1:a.length=1→∃c r,b=c::r∧(c==61)=false∧(c==60)=false∧(c==62)=false)(w:World):
  Calls Zc 94 #[.string (Aa (a++b))] w fun e w'=>e= .returned (.tuple #[Eb 4 a 0 0,.bool true])∧Below w.heap.size w w':=by
 have hlen:a.length=1∨a.length=2:=by
  rcases Em ha with rfl|rfl|rfl|rfl|rfl|rfl|rfl|rfl|rfl|rfl|rfl|rfl|rfl|rfl|rfl|rfl|rfl|rfl|rfl|rfl|rfl|rfl|rfl|rfl|rfl|rfl|rfl<;>simp
 rcases hlen with hl|hl
 ·obtain⟨c,r,rfl,c1,c2,c3⟩:=h1 hl
  have hx2:(Aa (a++c::r)).extract 0 2=Aa (a++[c]):=by
   have:=Ff (a++[c]) r;rw[Zf,hl]at this;simpa using this
  have hx1:(Aa (a++c::r)).extract 0 1=Aa a:=by
   have:=Ff a (c::r)
   rwa[hl]at this
  have hz:2≤(a++c::r).length:=by rw[Zf,hl,Zh];omega
  have hz1:1≤(a++c::r).length:=by omega
  have hzI:(2:Int)≤((a++c::r).length:Int):=by omega
  have hm:min (2:Int) ((a++c::r).length:Int)=2:=by omega
  generalize a++c::r=l at*;rcases Em ha with rfl|rfl|rfl|rfl|rfl|rfl|rfl|rfl|rfl|rfl|rfl|rfl|rfl|rfl|rfl|rfl|rfl|rfl|rfl|rfl|rfl|rfl|rfl|rfl|rfl|rfl|rfl
  iterate 6 (simp at hl)
  all_goals
   clear h1 ha hl;go_enter Tryz.func94,Tryz.ntmps94
   go_wp2_with fail
   refine wp_loop_rounds 2 ?_;rw[rounds_succ];go_wp2_with fail
   rw[rounds_succ];go_wp2_with fail
   exact bodyPost_ret (v:= .tuple #[Eb 4 _ 0 0,.bool true]) (by simp [results,Tryz.results94,go_sem,Eb]) rfl ⟨rfl,bA⟩
 ·have hx2:(Aa (a++b)).extract 0 2=Aa a:=by
   have:=Ff a b
   rwa[hl]at this
  have hz:2≤(a++b).length:=by rw[Zf,hl];omega
  have hzI:(2:Int)≤((a++b).length:Int):=by omega
  have hm:min (2:Int) ((a++b).length:Int)=2:=by omega
  generalize a++b=l at*;rcases Em ha with rfl|rfl|rfl|rfl|rfl|rfl|rfl|rfl|rfl|rfl|rfl|rfl|rfl|rfl|rfl|rfl|rfl|rfl|rfl|rfl|rfl|rfl|rfl|rfl|rfl|rfl|rfl
  iterate 6
   ·clear h1 ha hl
    go_enter Tryz.func94,Tryz.ntmps94
    go_wp2_with fail
    refine wp_loop_rounds 1 ?_;rw[rounds_succ];go_wp2_with fail
    exact bodyPost_ret (v:= .tuple #[Eb 4 _ 0 0,.bool true]) (by simp [results,Tryz.results94,go_sem,Eb]) rfl ⟨rfl,bA⟩
  all_goals simp at hl
theorem Je(c:UInt8)(s:Bs)(hc:Bw c=true)(h7:c.toNat<128)(v1:Int)(v2:Bs)(v3:Int)(w:World)(hT:∀w1,Below w.heap.size w w1→Calls Zc 90 #[.string (Aa (c::s))] w1 fun e w'=>e= .returned (.tuple #[Eb v1 v2 v3 0,.bool true])∧Below w1.heap.size w1 w'):
  Calls Zc 41 #[.string (Aa (c::s))] w fun e w'=>e= .returned (.tuple #[Eb v1 v2 v3 0,.bool true])∧Below w.heap.size w w':=by
 have HT:=Za hT;have h0:0<(Aa (c::s)).size:=by show 0<(c::s).length;simp
 have hz:(0:Int)<((c::s).length:Int):=by rw[Zh];omega
 have hzN:0<(c::s).length:=by simp
 have hwr:wrap32 (((Aa (c::s))[0]'h0).toNat:Int)=(c.toNat:Int):=by
  show wrap32 (c.toNat:Int)=_
  unfold wrap32;omega
 have HWR:=Za hwr;have HO:=Za (Ac.new w [.int .i64 0,.string ⟨#[]⟩,.int .i64 0,.int .i64 0] 50);have HB0:=Za ((Zd w.heap.size w).alloc (Zg _) (.cells #[.int .i64 0,.string ⟨#[]⟩,.int .i64 0,.int .i64 0] 50));have HL:=Za (show Dn (c.toNat:Nat)=true by rw[Gq];exact hc);clear hc;clear hT hwr;go_enter Tryz.func41,Tryz.ntmps41
 go_wp2_with fail
 rw[HWR.out];refine(Dq _ _).mono ?_;rw[HL.out];rintro e w1 ⟨rfl,rfl⟩;go_wp2_with fail
 refine(HT.out _ HB0.out).mono ?_;rintro e w3 ⟨rfl,hb3⟩;unfold Eb;have HO3:=Za (HO.out.old hb3);have HB3:=Za (HB0.out.trans (hb3.mono HB0.out.size));clear hb3;have q0:=HO3.out.at 0 _ rfl;have f0:=HO3.out.fz 0;have q1:=HO3.out.at 1 _ rfl;have f1:=HO3.out.fz 1;have q2:=HO3.out.at 2 _ rfl;have f2:=HO3.out.fz 2;have q3:=HO3.out.at 3 _ rfl;have f3:=HO3.out.fz 3;have ql:=HO3.out.lt;go_wp2_with fail
 have HS:=Za ((((HO3.out.set 0 (.int .i64 v1)).set 1 (.string (Aa v2))).set 2 (.int .i64 v3)).set 3 (.int .i64 0));have e0:=HS.out.at 0 _ rfl;have e1:=HS.out.at 1 _ rfl;have e2:=HS.out.at 2 _ rfl;have e3:=HS.out.at 3 _ rfl;exact bodyPost_ret (v:= .tuple #[.agg #[.int .i64 v1,.string (Aa v2),.int .i64 v3,.int .i64 0],.bool true]) (by simp [results,Tryz.results41,go_sem,e0,e1,e2,e3]) rfl ⟨rfl,Vn w _ HB3.out _ _ _ _⟩
theorem Ll(c:UInt8)(s:Bs)(hc:Ca c=true)(h7:c.toNat<128)(v1:Int)(v2:Bs)(v3:Int)(w:World)(hT:∀w1,Below w.heap.size w w1→Calls Zc 92 #[.string (Aa (c::s))] w1 fun e w'=>e= .returned (.tuple #[Eb v1 v2 v3 0,.bool true])∧Below w1.heap.size w1 w'):
  Calls Zc 41 #[.string (Aa (c::s))] w fun e w'=>e= .returned (.tuple #[Eb v1 v2 v3 0,.bool true])∧Below w.heap.size w w':=by
 have HT:=Za hT;have h0:0<(Aa (c::s)).size:=by show 0<(c::s).length;simp
 have hz:(0:Int)<((c::s).length:Int):=by rw[Zh];omega
 have hzN:0<(c::s).length:=by simp
 have hwr:wrap32 (((Aa (c::s))[0]'h0).toNat:Int)=(c.toNat:Int):=by
  show wrap32 (c.toNat:Int)=_
  unfold wrap32;omega
 have HWR:=Za hwr;have HO:=Za (Ac.new w [.int .i64 0,.string ⟨#[]⟩,.int .i64 0,.int .i64 0] 50);have HB0:=Za ((Zd w.heap.size w).alloc (Zg _) (.cells #[.int .i64 0,.string ⟨#[]⟩,.int .i64 0,.int .i64 0] 50));have HL:=Za (show Dn (c.toNat:Nat)=false by rw[Gq];simp [Bw,Ca,UInt8.le_iff_toNat_le,←UInt8.toNat_inj]at hc ⊢;omega);have HD:=Za (show Di (c.toNat:Nat)=true by rw[He];exact hc);clear hc;clear hT hwr;go_enter Tryz.func41,Tryz.ntmps41
 go_wp2_with fail
 rw[HWR.out];refine(Dq _ _).mono ?_;rw[HL.out];rintro e w1 ⟨rfl,rfl⟩;go_wp2_with fail
 refine(Fl _ _).mono ?_;rw[HD.out];rintro e w1 ⟨rfl,rfl⟩;go_wp2_with fail
 refine(HT.out _ HB0.out).mono ?_;rintro e w3 ⟨rfl,hb3⟩;unfold Eb;have HO3:=Za (HO.out.old hb3);have HB3:=Za (HB0.out.trans (hb3.mono HB0.out.size));clear hb3;have q0:=HO3.out.at 0 _ rfl;have f0:=HO3.out.fz 0;have q1:=HO3.out.at 1 _ rfl;have f1:=HO3.out.fz 1;have q2:=HO3.out.at 2 _ rfl;have f2:=HO3.out.fz 2;have q3:=HO3.out.at 3 _ rfl;have f3:=HO3.out.fz 3;have ql:=HO3.out.lt;go_wp2_with fail
 have HS:=Za ((((HO3.out.set 0 (.int .i64 v1)).set 1 (.string (Aa v2))).set 2 (.int .i64 v3)).set 3 (.int .i64 0));have e0:=HS.out.at 0 _ rfl;have e1:=HS.out.at 1 _ rfl;have e2:=HS.out.at 2 _ rfl;have e3:=HS.out.at 3 _ rfl;exact bodyPost_ret (v:= .tuple #[.agg #[.int .i64 v1,.string (Aa v2),.int .i64 v3,.int .i64 0],.bool true]) (by simp [results,Tryz.results41,go_sem,e0,e1,e2,e3]) rfl ⟨rfl,Vn w _ HB3.out _ _ _ _⟩
theorem Vl(c:UInt8)(s:Bs)(hc:c=39)(h7:c.toNat<128)(v1:Int)(v2:Bs)(v3:Int)(w:World)(hT:∀w1,Below w.heap.size w w1→Calls Zc 93 #[.string (Aa (c::s))] w1 fun e w'=>e= .returned (.tuple #[Eb v1 v2 v3 0,.bool true])∧Below w1.heap.size w1 w'):
  Calls Zc 41 #[.string (Aa (c::s))] w fun e w'=>e= .returned (.tuple #[Eb v1 v2 v3 0,.bool true])∧Below w.heap.size w w':=by
 have HT:=Za hT;have h0:0<(Aa (c::s)).size:=by show 0<(c::s).length;simp
 have hz:(0:Int)<((c::s).length:Int):=by rw[Zh];omega
 have hzN:0<(c::s).length:=by simp
 have hwr:wrap32 (((Aa (c::s))[0]'h0).toNat:Int)=(c.toNat:Int):=by
  show wrap32 (c.toNat:Int)=_
  unfold wrap32;omega
 have HWR:=Za hwr;have HO:=Za (Ac.new w [.int .i64 0,.string ⟨#[]⟩,.int .i64 0,.int .i64 0] 50);have HB0:=Za ((Zd w.heap.size w).alloc (Zg _) (.cells #[.int .i64 0,.string ⟨#[]⟩,.int .i64 0,.int .i64 0] 50));have HL:=Za (show Dn (c.toNat:Nat)=false by rw[hc];rfl);have HD:=Za (show Di (c.toNat:Nat)=false by rw[hc];rfl);have hq:((c.toNat:Int)==39)=true:=by rw[hc];rfl
 clear hc;clear hT hwr;go_enter Tryz.func41,Tryz.ntmps41
 go_wp2_with fail
 rw[HWR.out];refine(Dq _ _).mono ?_;rw[HL.out];rintro e w1 ⟨rfl,rfl⟩;go_wp2_with fail
 refine(Fl _ _).mono ?_;rw[HD.out];rintro e w1 ⟨rfl,rfl⟩;go_wp2_with fail
 refine(HT.out _ HB0.out).mono ?_;rintro e w3 ⟨rfl,hb3⟩;unfold Eb;have HO3:=Za (HO.out.old hb3);have HB3:=Za (HB0.out.trans (hb3.mono HB0.out.size));clear hb3;have q0:=HO3.out.at 0 _ rfl;have f0:=HO3.out.fz 0;have q1:=HO3.out.at 1 _ rfl;have f1:=HO3.out.fz 1;have q2:=HO3.out.at 2 _ rfl;have f2:=HO3.out.fz 2;have q3:=HO3.out.at 3 _ rfl;have f3:=HO3.out.fz 3;have ql:=HO3.out.lt;go_wp2_with fail
 have HS:=Za ((((HO3.out.set 0 (.int .i64 v1)).set 1 (.string (Aa v2))).set 2 (.int .i64 v3)).set 3 (.int .i64 0));have e0:=HS.out.at 0 _ rfl;have e1:=HS.out.at 1 _ rfl;have e2:=HS.out.at 2 _ rfl;have e3:=HS.out.at 3 _ rfl;exact bodyPost_ret (v:= .tuple #[.agg #[.int .i64 v1,.string (Aa v2),.int .i64 v3,.int .i64 0],.bool true]) (by simp [results,Tryz.results41,go_sem,e0,e1,e2,e3]) rfl ⟨rfl,Vn w _ HB3.out _ _ _ _⟩
theorem Iu(c:UInt8)(s:Bs)(hc:Bw c=false∧Ca c=false∧c≠39)(h7:c.toNat<128)(v1:Int)(v2:Bs)(v3:Int)(w:World)(hT:∀w1,Below w.heap.size w w1→Calls Zc 94 #[.string (Aa (c::s))] w1 fun e w'=>e= .returned (.tuple #[Eb v1 v2 v3 0,.bool true])∧Below w1.heap.size w1 w'):
  Calls Zc 41 #[.string (Aa (c::s))] w fun e w'=>e= .returned (.tuple #[Eb v1 v2 v3 0,.bool true])∧Below w.heap.size w w':=by
 have HT:=Za hT;have h0:0<(Aa (c::s)).size:=by show 0<(c::s).length;simp
 have hz:(0:Int)<((c::s).length:Int):=by rw[Zh];omega
 have hzN:0<(c::s).length:=by simp
 have hwr:wrap32 (((Aa (c::s))[0]'h0).toNat:Int)=(c.toNat:Int):=by
  show wrap32 (c.toNat:Int)=_
  unfold wrap32;omega
 have HWR:=Za hwr;have HO:=Za (Ac.new w [.int .i64 0,.string ⟨#[]⟩,.int .i64 0,.int .i64 0] 50);have HB0:=Za ((Zd w.heap.size w).alloc (Zg _) (.cells #[.int .i64 0,.string ⟨#[]⟩,.int .i64 0,.int .i64 0] 50));have HL:=Za (show Dn (c.toNat:Nat)=false by rw[Gq];exact hc.1);have HD:=Za (show Di (c.toNat:Nat)=false by rw[He];exact hc.2.1);have hq:((c.toNat:Int)==39)=false:=by
  rw[beq_eq_false_iff_ne];intro e;exact hc.2.2 (by rw[←UInt8.toNat_inj];show c.toNat=39;omega)
 clear hc;clear hT hwr;go_enter Tryz.func41,Tryz.ntmps41
 go_wp2_with fail
 rw[HWR.out];refine(Dq _ _).mono ?_;rw[HL.out];rintro e w1 ⟨rfl,rfl⟩;go_wp2_with fail
 refine(Fl _ _).mono ?_;rw[HD.out];rintro e w1 ⟨rfl,rfl⟩;go_wp2_with fail
 refine(HT.out _ HB0.out).mono ?_;rintro e w3 ⟨rfl,hb3⟩;unfold Eb;have HO3:=Za (HO.out.old hb3);have HB3:=Za (HB0.out.trans (hb3.mono HB0.out.size));clear hb3;have q0:=HO3.out.at 0 _ rfl;have f0:=HO3.out.fz 0;have q1:=HO3.out.at 1 _ rfl;have f1:=HO3.out.fz 1;have q2:=HO3.out.at 2 _ rfl;have f2:=HO3.out.fz 2;have q3:=HO3.out.at 3 _ rfl;have f3:=HO3.out.fz 3;have ql:=HO3.out.lt;go_wp2_with fail
 have HS:=Za ((((HO3.out.set 0 (.int .i64 v1)).set 1 (.string (Aa v2))).set 2 (.int .i64 v3)).set 3 (.int .i64 0));have e0:=HS.out.at 0 _ rfl;have e1:=HS.out.at 1 _ rfl;have e2:=HS.out.at 2 _ rfl;have e3:=HS.out.at 3 _ rfl;exact bodyPost_ret (v:= .tuple #[.agg #[.int .i64 v1,.string (Aa v2),.int .i64 v3,.int .i64 0],.bool true]) (by simp [results,Tryz.results41,go_sem,e0,e1,e2,e3]) rfl ⟨rfl,Vn w _ HB3.out _ _ _ _⟩
structure Fh (w:World):Prop where
 pow:Uz w
 max:∃m,w.cell? ⟨0,0,none⟩=some (.int .i64 m)
 utf:Lib.Utf8Tabs 1 2 w
theorem Fh.lt {w:World}(h:Fh w):3<w.heap.size:=by
 have gTab:Tryz.prog.globalNamed "internal/strconv.uint64pow10" =some 3:=by kernel_rfl
 exact World.block_lt_of_cell? _ _ (Lib.TabIs.cell h.pow gTab 0 (by decide))
theorem Fh.old {w w':World}(h:Fh w)(hb:Below w.heap.size w w'):Fh w':=
 ⟨h.pow.keep (hb.block _ h.lt),by obtain⟨m,hm⟩:=h.max;exact⟨m,Ab hb hm⟩,Utf8Tabs_below h.utf hb⟩
theorem Nh {B:Nat}{a w:World}(h:Below B a w)(n:Nat):Below B a (w.drewN n):=⟨h.os,h.tape,h.output,h.size,h.block⟩
theorem Vg(c s:Bs)(hcut:Lib.cut (c++s) [10]=(c,s.drop 1,true))(hval:Lib.validD c=true)(hcon:Lib.contains c [239,191,189]=false)(hz:(c++s).length≤1000000)(w:World)(hl:Fh w):
  Calls Zc 88 #[.string (Aa (c++s))] w fun e w'=>e= .returned (.tuple #[.string (Aa c),.bool true])∧Below w.heap.size w w':=by
 have HL:=Za hl;have HV:=Za hval;have HC:=Za hcon;have HZ:=Za hz;obtain⟨m,hm⟩:=hl.max;have HM:=Za hm;have hcut':Lib.cut (Aa (c++s)).data.toList (Aa [10]).data.toList=(c,s.drop 1,true):=by simpa [Aa]using hcut
 have HK:=Za hcut';clear hcut hval hcon hl hm hz hcut';go_enter Tryz.func88,Tryz.ntmps88
 go_wp2_with fail
 refine(Tryz.strings_Cut (Aa (c++s)) (Aa [10]) m w (by have:=HZ.out;show(c++s).length<_;omega) HM.out).mono ?_;rw[HK.out];rintro e w1 ⟨rfl,n1,rfl⟩;have hl1:Fh (w.drewN n1):=HL.out.old (Nh (Zd w.heap.size w) n1);have hcz:c.length≤1000000:=by have:=HZ.out;rw[Zf]at this;omega
 go_wp2_with fail
 refine(Tryz.utf8_ValidString (Aa c) (w.drewN n1) (by show c.length≤_;omega) hl1.utf).mono ?_;rintro e w2 ⟨he,hb2⟩;have he2:e= .returned (.bool true):=by rw[he];show Ending.returned (.bool (Lib.validD c))=_;rw[HV.out]
 subst he2;have hl2:=hl1.old (hb2:Below (w.drewN n1).heap.size (w.drewN n1) w2);obtain⟨m2,hm2⟩:=hl2.max;have HM2:=Za hm2;have HB2:=Za ((Nh (Zd w.heap.size w) n1).trans hb2);clear he hb2 hl1 hl2 hm2;go_wp2_with fail
 refine(Tryz.strings_Contains (Aa c) (Aa [239,191,189]) m2 w2 (by show c.length<_;omega) HM2.out).mono ?_;rintro e w3 ⟨he,hw3⟩;have he2:e= .returned (.bool false):=by rw[he];show Ending.returned (.bool (Lib.contains c [239,191,189]))=_;rw[HC.out]
 subst he2;obtain rfl:w2=w3:=hw3.symm;clear he;go_wp2_with fail
 go_ret2
 exact⟨rfl,HB2.out⟩
end Go.Proofs.YtcfpfnoldgnloaaGreatDoor
namespace Go.Proofs.YtcfpfnoldgnloaaGreatDoor
open Go.ChangeShapes Go.WideShapes Go.ChangeAt Go.RowKit
set_option maxHeartbeats 4000000
set_option maxRecDepth 100000
theorem zi64 {n:Int}(h:(Lit.int .i64 n).wf=true):I64 n:=by
 simp only[Lit.wf,Bool.and_eq_true,decide_eq_true_eq]at h;exact h
theorem Th {H:Type}{enc:TypeId ×Value→H}{W:World}{base:Nat}{x:Value}{d:DataW H}{p:List MemPlace}(hv:Value.okWide Tryz.prog W .any base 3 x)(h:DataW.Trod enc Tryz.prog W 0 (fun _=>true) true 3 x d p):∃n,x= .int .i64 n∧I64 n:=by
 obtain⟨n,rfl⟩:=okWide_int Tryz.underlying3 hv;obtain⟨fuel,hf⟩:=h;obtain⟨m,e,_,hw⟩:=DataW.trod_int Tryz.underlying3 hf;simp [Value.cells]at e;subst e;exact⟨_,rfl,zi64 hw⟩
theorem zgTab:Tryz.prog.globalNamed "internal/strconv.uint64pow10" =some 3:=by kernel_rfl
theorem aB:(Tryz.prog.globals[3]?).map (·.type)=some 211:=by kernel_rfl
theorem bE:Tryz.prog.cellsOf 211=20:=by kernel_rfl
theorem zcellsU:Tryz.prog.cellsOf 194=1:=by kernel_rfl
theorem zU8:U8Extra Tryz.prog Tryz.lays196_ren:=⟨by kernel_rfl,by kernel_rfl,by kernel_rfl,by kernel_rfl,by kernel_rfl,by kernel_rfl,by kernel_rfl⟩
theorem zaccept:Rows.laid_unicode_utf8_acceptRanges=Lib.acceptData:=by kernel_rfl
theorem zlib_of {W:World}(h:laidMetH Tryz.prog Rows.parseDeepRow.laid W)(hsh:W.ShapedOpen Tryz.prog):Fh W:=by
 have h':laidMet Tryz.prog Rows.parseDeepRow.laid W:=h;refine⟨?_,?_,?_⟩
 ·exact Lib.tabIs_of_head (rest:=_) zgTab aB Tryz.underlying211 Tryz.underlying194 zcellsU bE (Lq (Lq h'))
 ·exact cell_of_shapedOpen_int (zero:= #[.int .i64 0]) (t:=3) hsh (of_decide_eq_true (by kernel_rfl)) (by kernel_rfl) rfl (by kernel_rfl) (by kernel_rfl) Tryz.underlying3
 ·refine utf8Tabs_of_readsT (U8Types.of196 Tryz.lays196) zU8 ?_ ?_
  ·have:=Lib.laidMet.reads h' (n:= "unicode/utf8.first") (d:=Rows.laid_unicode_utf8_first) (.tail _ (.tail _ (.tail _ (.tail _ (.tail _ (.tail _ (.head _)))))))
   rw[←Pinned.utf8First_eq];exact this
  ·have:=Lib.laidMet.reads h' (n:= "unicode/utf8.acceptRanges") (d:=Rows.laid_unicode_utf8_acceptRanges) (.tail _ (.tail _ (.tail _ (.head _))))
   rw[←zaccept];exact this
theorem eJ:laidOutB Tryz.prog=true:=by kernel_rfl
theorem zagain {H:Type}{enc:TypeId ×Value→H}{t:TypeId}(hr:Tryz.prog.readableRec t=true)(hrow:t<Tryz.prog.types.size){W W':World}{x:Value}{d:DataW H}{p:List MemPlace}(h:DataW.Trod enc Tryz.prog W 0 (fun _=>true) true t x d p)(hb:Below W.heap.size W W')(sp:Nat→Bool)(hsp:∀q,q∈p→sp q.block=true):DataW.Trod enc Tryz.prog W' 0 sp true t x d p:=by
 obtain⟨fuel,hf⟩:=h;have hlt:=DataW.trod_lt _ _ _ _ hf;exact WideElems.Trod_stays eJ hr hrow ⟨fuel,hf⟩ (fun q hq=>hb.same (hlt q hq)) hsp
end Go.Proofs.YtcfpfnoldgnloaaGreatDoor
namespace Go.Proofs.YtcfpfnoldgnloaaGreatDoor
open Go.RowKit
set_option maxHeartbeats 20000000
set_option maxRecDepth 100000
open Go.Lib renaming hid→Za,hasPrefix→Zc
open List renaming length_append→Zb,cons_append→Zd
def Ah(b0:Bs)(l:List (Bs ×Bs)):Bs:=b0++l.flatMap (fun p=>p.1++p.2)
def Bt(l:Bs):Nat:=l.count 10
def Ej(c:UInt8):Bool:=c==32||c==9||c==10||c==13
structure cG (c:Bs):Prop where
 pre:∃r,c=47::47::r
 nofeed:(10:UInt8) ∉ c
 valid:Lib.validD c=true
 mark:Lib.contains c [239,191,189]=false
structure Js (b0:Bs)(l:List (Bs ×Bs)):Prop where
 blank:∀c,c∈b0→Ej c=true
 comm:∀p,p∈l→cG p.1∧(∀c,c∈p.2→Ej c=true)∧∃r,p.2=10::r
theorem Kq {c:UInt8}(h:Ej c=true):c.toNat<128∧Ft (c.toNat:Nat)=true:=by
 simp only[Ej,Bool.or_eq_true,beq_iff_eq]at h;rcases h with((rfl|rfl)|rfl)|rfl<;>exact⟨by decide,by decide⟩
theorem eF(c:Bs)(s:Bs)(h:(10:UInt8) ∉ c):Lib.index (c++10::s) [10]=(c.length:Int):=by
 induction c with
 |nil=>simp [Lib.index]
 |cons x c ih=>
  have hx:x≠10:=fun e=>h (by rw[e];exact List.mem_cons_self)
  have i:=ih (fun hm=>h (List.mem_cons_of_mem _ hm));rw[Zd,Lib.index];have hp:([10]:List UInt8).isPrefixOf (x::(c++10::s))=false:=by
   simp [List.isPrefixOf];exact fun e=>hx e.symm
  rw[hp,i];have:((c.length:Int)== -1)=false:=by rw[beq_eq_false_iff_ne];omega
  rw[this];simp
theorem cut_at(c s:Bs)(h:(10:UInt8) ∉ c):Lib.cut (c++10::s) [10]=(c,s,true):=by
 unfold Lib.cut;rw[eF c s h,if_pos (by omega)];simp
theorem gap_len(b0:Bs)(c b:Bs)(l:List (Bs ×Bs)):Ah b0 ((c,b)::l)=b0++(c++Ah b l):=by
 unfold Ah;simp
theorem Ro(a b:Bs):Bt (a++b)=Bt a+Bt b:=List.count_append
theorem dZ(c:Bs)(h:(10:UInt8) ∉ c):Bt c=0:=List.count_eq_zero.2 h
theorem Ij(a b:Bs)(n:Nat)(hn:n=(a++b).length):(Aa (a++b)).extract a.length n=Aa b:=by
 subst hn;apply ByteArray.ext
 rw[ByteArray.data_extract];simp [Aa]
theorem dC(b0:Bs)(l:List (Bs ×Bs))(r:Bs)(hg:Js b0 l)(hr:Et Ft r)(hp:Zc r [47,47]=false)(hz:(Ah b0 l++r).length≤1000000)(w:World)(hl:Fh w):
  Calls Tryz.prog 40 #[.string (Aa (Ah b0 l++r))] w fun e w'=>e= .returned (.tuple #[.string (Aa r),.int .i64 (Bt (Ah b0 l)),.bool true])∧Below w.heap.size w w':=by
 have HGP:=Za hg;have HR:=Za hr;have HP:=Za hp;have HL:=Za hl;have HZ:=Za hz;obtain⟨T,hT⟩:∃T,Bt (Ah b0 l)=T:=⟨_,rfl⟩;rw[hT];have hT2:T≤1000000:=by
  rw[←hT];unfold Bt;have:=List.count_le_length (a:=(10:UInt8)) (l:=Ah b0 l);rw[Zb]at hz;omega
 have HTT:=Za hT;clear hg hr hp hl hz hT;go_enter Tryz.func40,Tryz.ntmps40
 go_wp2_with fail
 go_loopw [0,3] (fun s0 s3 wr=> ∃(b1:Bs) (l1:List (Bs ×Bs)) (n:Nat),s0= .string (Aa (Ah b1 l1++r))∧s3= .int .i64 n∧Js b1 l1∧n+Bt (Ah b1 l1)=T∧(Ah b1 l1++r).length≤1000000∧l1.length≤l.length∧Below w.heap.size w wr) (fun s0 _ _=>match s0 with| .string s=>s.size|_=>0)
 case atStart=>exact⟨b0,l,0,rfl,rfl,HGP.out,by rw[HTT.out];omega,HZ.out,Nat.le_refl _,Below.refl _ _⟩
 case round=>
  obtain⟨b1,l1,n,rfl,rfl,hg1,hn,hz1,hll,hb⟩:=hrel;have HL1:=Za (HL.out.old hb);have HB:=Za hb;have HG1:=Za hg1;have nI:(n:Int)≤1000000:=by omega
  have nJ:(0:Int)≤(n:Int):=by omega
  have HN:=Za hn
  cases l1 with
  |nil=>
   have e1:Ah b1 []=b1:=by simp [Ah]
   rw[e1]at hn hz1 ⊢;have HN:=Za hn;have HR1:=Za (fun w1=>Rv b1 r (fun c hc=>Kq (hg1.blank c hc)) HR.out w1);have HX1:=Za (Ff b1 r);have hl1:(b1.length:Int)≤((b1++r).length:Int):=by rw[Zb];omega
   have hl2:b1.length≤(b1++r).length:=by rw[Zb];omega
   have HZ1:=Za hz1;clear hg1 hb hn hz1 e1;go_wp2_with fail
   refine(HR1.out _).mono ?_;rintro e w1 ⟨rfl,hb1⟩;have HB1:=Za (HB.out.trans (hb1.mono HB.out.size));have HL2:=Za (HL1.out.old hb1);clear hb1;go_wp2_with fail
   rw[HX1.out];refine(Tryz.strings_Count_one (Aa b1) 10 w1).mono ?_;rintro e w2 ⟨he,hw2⟩;have he2:e= .returned (.int .i64 (Bt b1:Int)):=he;subst he2;obtain rfl:w1=w2:=hw2.symm;clear he;have fI:(n:Int)+(Bt b1:Int)≤1000000:=by have:=HN.out;omega
   have fJ:(0:Int)≤(Bt b1:Int):=by omega
   go_wp2_with fail
   have hxd:=Ij b1 r _ rfl
   first|rw[hxd]|(simp only[Zb]at hxd;rw[hxd])
   clear hxd;refine(Tryz.strings_HasPrefix (Aa (r)) (Aa [47,47]) w1).mono ?_;rintro e w2 ⟨he,hw2⟩;have he2:e= .returned (.bool false):=by rw[he];show Ending.returned (.bool (Zc r [47,47]))=_;rw[HP.out]
   subst he2;obtain rfl:w1=w2:=hw2.symm;clear he;go_wp2_with fail
   go_ret3
   exact⟨by rw[show(T:Int)=(n:Int)+(Bt b1:Int)from by have:=HN.out;omega];rfl,HB1.out⟩
  |cons p l1=>
   obtain⟨c,b2⟩:=p;obtain⟨hco,hb2,b3,hb3⟩:=hg1.comm _ List.mem_cons_self;have hb3:b2=10::b3:=hb3;have hco:cG c:=hco;obtain⟨c3,hc3⟩:=hco.pre;have e1:=gap_len b1 c b2 l1;have e2:Ah b1 ((c,b2)::l1)++r=b1++(c++(Ah b2 l1++r)):=by rw[e1];simp
   rw[e2]at hz1 ⊢;have hfe:Bt (Ah b1 ((c,b2)::l1))=Bt b1+Bt (Ah b2 l1):=by rw[e1,Ro,Ro,dZ c hco.nofeed];omega
   rw[hfe]at hn;have hg2:Js b2 l1:=⟨hb2,fun p hp=>hg1.comm p (List.mem_cons_of_mem _ hp)⟩;have hes:Et Ft (c++(Ah b2 l1++r)):= .inr ⟨47,47::(c3++(Ah b2 l1++r)),by rw[hc3];rfl,by decide,by decide⟩;have hcut:Lib.cut (c++(Ah b2 l1++r)) [10]=(c,(Ah b2 l1++r).drop 1,true):=by
    have:Ah b2 l1++r=10::(b3++(l1.flatMap (fun p=>p.1++p.2)++r)):=by unfold Ah;rw[hb3];simp
    rw[this,cut_at c _ hco.nofeed];rfl
   have hpre:Zc (c++(Ah b2 l1++r)) [47,47]=true:=by rw[hc3];simp [Zc]
   have HPR:=Za hpre;have hz2:(c++(Ah b2 l1++r)).length≤1000000:=by rw[Zb]at hz1;omega
   have HCM:=Za (fun w1 h=>Vg c (Ah b2 l1++r) hcut hco.valid hco.mark hz2 w1 h);have HR1:=Za (fun w1=>Rv b1 (c++(Ah b2 l1++r)) (fun x hx=>Kq (hg1.blank x hx)) hes w1);have HX1:=Za (Ff b1 (c++(Ah b2 l1++r)));have hl1:(b1.length:Int)≤((b1++(c++(Ah b2 l1++r))).length:Int):=by rw[Zb];omega
   have hl2:b1.length≤(b1++(c++(Ah b2 l1++r))).length:=by rw[Zb];omega
   have hl3:(c.length:Int)≤((c++(Ah b2 l1++r)).length:Int):=by rw[Zb];omega
   have hl4:c.length≤(c++(Ah b2 l1++r)).length:=by rw[Zb];omega
   have HG2:=Za hg2;have HN2:=Za hn;have HZ2:Hid ((Ah b2 l1++r).length≤1000000):=by show _≤_;rw[Zb]at hz2;omega
   have HME:Hid ((Ah b2 l1++r).length<(b1++(c++(Ah b2 l1++r))).length):=by
    show _<_;rw[hc3];simp only[Zb,List.length_cons];omega
   have HLL:Hid (l1.length≤l.length):=by show _≤_;rw[List.length_cons]at hll;omega
   clear hg1 hb hn hz1 e1 e2 hfe hg2 hes hcut hpre hz2 hco hb2 hb3 hc3 hll HN;have HX2:=Za (Ij b1 (c++(Ah b2 l1++r)));have HX3:=Za (Ij c (Ah b2 l1++r));have HREL:=Za (show ∃q,Ah b2 l1++r=q from⟨_,rfl⟩);obtain⟨q,hq⟩:=HREL.out;have HQ:=Za hq;clear HREL;rw[hq]at HX2 HX3 HX1 HPR HCM HR1 hl1 hl2 hl3 hl4 HZ2 HME ⊢;clear hq;obtain⟨u,hu⟩:∃u,c++q=u:=⟨_,rfl⟩;rw[hu]at HX2 HX3 HX1 HPR HCM HR1 hl1 hl2 hl3 hl4 HME ⊢;clear hu;go_wp2_with fail
   refine(HR1.out _).mono ?_;rintro e w1 ⟨rfl,hb1⟩;have HB1:=Za (HB.out.trans (hb1.mono HB.out.size));have HL2:=Za (HL1.out.old hb1);clear hb1;go_wp2_with fail
   rw[HX1.out];refine(Tryz.strings_Count_one (Aa b1) 10 w1).mono ?_;rintro e w2 ⟨he,hw2⟩;have he2:e= .returned (.int .i64 (Bt b1:Int)):=he;subst he2;obtain rfl:w1=w2:=hw2.symm;clear he;have fI:(n:Int)+(Bt b1:Int)≤1000000:=by have:=HN2.out;omega
   have fJ:(0:Int)≤(Bt b1:Int):=by omega
   go_wp2_with fail
   have hxd:=HX2.out _ rfl
   first|rw[hxd]|(simp only[Zb]at hxd;rw[hxd])
   clear hxd;refine(Tryz.strings_HasPrefix (Aa u) (Aa [47,47]) w1).mono ?_;rintro e w2 ⟨he,hw2⟩;have he2:e= .returned (.bool true):=by rw[he];show Ending.returned (.bool (Zc u [47,47]))=_;rw[HPR.out]
   subst he2;obtain rfl:w1=w2:=hw2.symm;clear he;go_wp2_with fail
   refine(HCM.out _ HL2.out).mono ?_;rintro e w2 ⟨rfl,hb2⟩;have HB2:=Za (HB1.out.trans (hb2.mono HB1.out.size));clear hb2;go_wp2_with fail
   have hxd:=HX3.out _ rfl
   first|rw[hxd]|(simp only[Zb]at hxd;rw[hxd])
   clear hxd;go_roundw
   case rel=>exact⟨b2,l1,n+Bt b1,by rw[HQ.out],by go_num,HG2.out,by have:=HN2.out;omega,by rw[HQ.out];exact HZ2.out,HLL.out,HB2.out⟩
   case measure=>exact HME.out
theorem ext_one(a:UInt8)(b:Bs)(n:Nat)(hn:n=(a::b).length):(Aa (a::b)).extract 1 n=Aa b:=Ij [a] b n hn
theorem eO(a:UInt8)(b c:Bs)(m n:Nat)(hm:m=1+b.length)(hn:n=(a::(b++c)).length):(Aa (a::(b++c))).extract m n=Aa c:=by
 have:m=(a::b).length:=by rw[hm,List.length_cons];omega
 rw[this];exact Ij (a::b) c n hn
theorem eC(a z:UInt8)(b c:Bs)(m:Nat)(hm:m=b.length+2):(Aa (a::(b++z::c))).extract 0 m=Aa (a::(b++[z])):=by
 subst hm;have h:=Ff (a::(b++[z])) c;simpa using h
theorem Yh(r:Nat)(x rest:Bs)(hr1:32≤r)(hr2:r≠39)(hr3:r≠92)(hr4:r≠65533)(hr5:r≤1114111)(hx:x.length≤4)(hd:Lib.decodeGo (Aa (x++39::rest))=(r,x.length))(hz:(39::(x++39::rest)).length≤1000000)(w:World)(hl:Fh w):
  Calls Tryz.prog 93 #[.string (Aa (39::(x++39::rest)))] w fun e w'=>e= .returned (.tuple #[Eb 3 (39::(x++[39])) r 0,.bool true])∧Below w.heap.size w w':=by
 have q1:((r:Int)==39)=false:=by rw[beq_eq_false_iff_ne];omega
 have q2:((r:Int)==92)=false:=by rw[beq_eq_false_iff_ne];omega
 have q3:((r:Int)==65533)=false:=by rw[beq_eq_false_iff_ne];omega
 have q4:(32:Int)≤(r:Int):=by omega
 have q6:¬((r:Int)<32):=by omega
 have q7:decide ((r:Int)<32)=false:=decide_eq_false q6;have q5:(r:Int)≤1114111:=by omega
 have xI:(x.length:Int)≤4:=by omega
 have xJ:(0:Int)≤(x.length:Int):=by omega
 have hL:(39::(x++39::rest)).length=x.length+2+rest.length:=by simp;omega
 have HX1:=Za (ext_one 39 (x++39::rest));have HX2:=Za (eO 39 x (39::rest));have HX3:=Za (eC 39 39 x rest);have HP:=Za (show Zc (39::rest) [39]=true by simp [Zc]);have HD:=Za hd;have HL:=Za hl;have HZ:=Za hz;have HLE:=Za hL;have HO:=Za (Ac.new w [.int .i64 0,.string ⟨#[]⟩,.int .i64 0,.int .i64 0] 50);have HB0:=Za ((Below.refl w.heap.size w).alloc (Nat.le_refl _) (.cells #[.int .i64 0,.string ⟨#[]⟩,.int .i64 0,.int .i64 0] 50));have l1:x.length+2≤(39::(x++39::rest)).length:=by omega
 have l2:(x.length:Int)+2≤((39::(x++39::rest)).length:Int):=by omega
 have l3:1≤(39::(x++39::rest)).length:=by omega
 have l4:(1:Int)≤((39::(x++39::rest)).length:Int):=by omega
 clear hd hl hz hL hr2 hr3 hr4;obtain⟨s,hs⟩:∃s,39::(x++39::rest)=s:=⟨_,rfl⟩;obtain⟨u,hu⟩:∃u,x++39::rest=u:=⟨_,rfl⟩;obtain⟨v,hv⟩:∃v,(39::rest:Bs)=v:=⟨_,rfl⟩;obtain⟨k,hk⟩:∃k,(39::(x++[39]):Bs)=k:=⟨_,rfl⟩;rw[hs]at HX1 HX2 HX3 HZ HLE l1 l2 l3 l4 ⊢;rw[hu]at HX1 HD;rw[hv]at HX2 HP;rw[hk]at HX3 ⊢;clear hs hu hv hk;go_enter Tryz.func93,Tryz.ntmps93
 go_wp2_with fail
 rw[HX1.out _ rfl];refine(Tryz.utf8_DecodeRuneInString (Aa u) _ (HL.out.old HB0.out).utf).mono ?_;rw[HD.out];rintro e w1 ⟨rfl,hb1⟩;have HO1:=Za (HO.out.old hb1);have HB1:=Za (HB0.out.trans (hb1.mono HB0.out.size));clear hb1;go_wp2_with fail
 rw[HX2.out _ _ rfl rfl];refine(Tryz.strings_HasPrefix (Aa v) (Aa [39]) w1).mono ?_;rintro e w2 ⟨he,hw2⟩;have he2:e= .returned (.bool true):=by rw[he];show Ending.returned (.bool (Zc v [39]))=_;rw[HP.out]
 subst he2;obtain rfl:w1=w2:=hw2.symm;clear he;have g0:=HO1.out.at 0 _ rfl;have f0:=HO1.out.fz 0;have g1:=HO1.out.at 1 _ rfl;have f1:=HO1.out.fz 1;have g2:=HO1.out.at 2 _ rfl;have f2:=HO1.out.fz 2;have g3:=HO1.out.at 3 _ rfl;have f3:=HO1.out.fz 3;have gl:=HO1.out.lt;have hx3:=HX3.out _ rfl;go_wp2_with fail
 have HS:=Za ((((HO1.out.set 0 (.int .i64 3)).set 1 (.string (Aa k))).set 2 (.int .i64 r)).set 3 (.int .i64 0));have e0:=HS.out.at 0 _ rfl;have e1:=HS.out.at 1 _ rfl;have e2:=HS.out.at 2 _ rfl;have e3:=HS.out.at 3 _ rfl;exact bodyPost_ret (v:= .tuple #[Eb 3 k r 0,.bool true]) (by simp [results,Tryz.results93,go_sem,Eb,e0,e1,e2,e3]) rfl ⟨rfl,Vn w _ HB1.out _ _ _ _⟩
inductive Gx:Bs→Int→Int→Prop
 |name (x:Bs) (hx:Ap x=true) (hk:Gp x=false) (c:UInt8) (t:Bs) (hc:x=c::t) (hl:Bw c=true) (ha:∀c,c∈x→c.toNat<128∧Gy (c.toNat:Nat)=true):Gx x 1 0
 |word (x:Bs) (hk:Gp x=true) (c:UInt8) (t:Bs) (hc:x=c::t) (hl:Bw c=true) (ha:∀c,c∈x→c.toNat<128∧Gy (c.toNat:Nat)=true):Gx x 2 0
 |num (u:Nat) (hu:(Lib.decDigits u).length≤19) (hi:u≤9223372036854775807) (c:UInt8) (t:Bs) (hc:Lib.decDigits u=c::t) (hd:Ca c=true):Gx (Lib.decDigits u) 3 u
 |quote (r:Nat) (x:Bs) (hr1:32≤r) (hr2:r≠39) (hr3:r≠92) (hr4:r≠65533) (hr5:r≤1114111) (hx:x.length≤4) (hd:∀rest,Lib.decodeGo (Aa (x++39::rest))=(r,x.length)):Gx (39::(x++[39])) 3 r
 |sign (x:Bs) (hs:Hu x=true) (c:UInt8) (t:Bs) (hc:x=c::t) (h7:c.toNat<128) (hn:Bw c=false∧Ca c=false∧c≠39):Gx x 4 0
theorem Fo {c:UInt8}(h:Bw c=true):c.toNat<128:=by
 simp [Bw,UInt8.le_iff_toNat_le]at h
 by_cases e:c=95
 ·rw[e];decide
 ·simp only[e,false_or,or_false]at h
  omega
theorem Jx {c:UInt8}(h:Ca c=true):c.toNat<128:=by
 simp [Ca,UInt8.le_iff_toNat_le]at h;omega
theorem aS {x:Bs}{k n:Int}(h:Gx x k n)(b:UInt8)(r:Bs)(hb:Ej b=true)(hz:(x++b::r).length≤1000000)(w:World)(hl:Fh w):
  Calls Tryz.prog 41 #[.string (Aa (x++b::r))] w fun e w'=>e= .returned (.tuple #[Eb k x n 0,.bool true])∧Below w.heap.size w w':=by
 have hbl:=Kq hb;have hbc:b=32∨b=9∨b=10∨b=13:=by
  simp only[Ej,Bool.or_eq_true,beq_iff_eq]at hb;rcases hb with((h|h)|h)|h<;>simp [h]
 have hw:Et Gy (b::r):= .inr ⟨b,r,rfl,hbl.1,by rcases hbc with rfl|rfl|rfl|rfl<;>decide⟩;have hd:Et Di (b::r):= .inr ⟨b,r,rfl,hbl.1,by rcases hbc with rfl|rfl|rfl|rfl<;>decide⟩
 cases h with
 |name x hx hk c t hc hll ha=>
  have hT:=fun w1 (_:Below w.heap.size w w1)=>Rh x (b::r) ha hw hk hx w1
  rw[hc]at hT ⊢;exact Je c (t++b::r) hll (Fo hll) 1 (c::t) 0 w hT
 |word x hk c t hc hll ha=>
  have hT:=fun w1 (_:Below w.heap.size w w1)=>Rr x (b::r) ha hw hk w1
  rw[hc]at hT ⊢;exact Je c (t++b::r) hll (Fo hll) 2 (c::t) 0 w hT
 |num u hu hi c t hc hdd=>
  have hT:=fun w1 (hb1:Below w.heap.size w w1)=>Na u (b::r) hu hi hd w1 (hl.old hb1).lt (hl.old hb1).pow
  rw[hc]at hT ⊢;exact Ll c (t++b::r) hdd (Jx hdd) 3 (c::t) u w hT
 |quote q y hr1 hr2 hr3 hr4 hr5 hx hdq=>
  have e:39::(y++[39])++b::r=39::(y++39::(b::r)):=by simp
  rw[e]at hz ⊢;exact Vl 39 (y++39::(b::r)) rfl (by decide) 3 (39::(y++[39])) q w (fun w1 hb1=>Yh q y (b::r) hr1 hr2 hr3 hr4 hr5 hx (hdq _) hz w1 (hl.old hb1))
 |sign x hs c t hc h7 hn=>
  have hT:=fun w1 (_:Below w.heap.size w w1)=>Mb x (b::r) hs (fun _=>⟨b,r,rfl,by rcases hbc with rfl|rfl|rfl|rfl<;>decide,by rcases hbc with rfl|rfl|rfl|rfl<;>decide,by rcases hbc with rfl|rfl|rfl|rfl<;>decide⟩) w1
  rw[hc]at hT ⊢;exact Iu c (t++b::r) hn h7 4 (c::t) 0 w hT
structure It where
 x:Bs
 k:Int
 n:Int
 b:Bs
 l:List (Bs ×Bs)
def It.gap(i:It):Bs:=Ah i.b i.l
structure ItOk (i:It):Prop where
 tok:Gx i.x i.k i.n
 gap:Js i.b i.l
 head:∃c t,i.b=c::t
def By(l:List It):Bs:=l.flatMap (fun i=>i.x++i.gap)
def Ko(line:Nat):List It→List Tk
 |[]=>[]
 |i::l=>⟨i.k,i.x,i.n,line⟩::Ko (line+Bt i.gap) l
theorem Jr(i:It)(l:List It):By (i::l)=i.x++(i.gap++By l):=by
 unfold By;simp
theorem Vj(line:Nat)(l:List It):(Ko line l).length=l.length:=by
 induction l generalizing line with
 |nil=>rfl
 |cons i l ih=>simp [Ko,ih]
theorem ItOk.blank {i:It}(h:ItOk i)(r:Bs):∃c t,i.gap++r=c::t∧Ej c=true:=by
 obtain⟨c,t,e⟩:=h.head;refine⟨c,t++(i.l.flatMap (fun p=>p.1++p.2)++r),?_,h.gap.blank c (by rw[e];exact List.mem_cons_self)⟩;unfold It.gap Ah;rw[e];simp
theorem dL(c:UInt8)(h:c.toNat≠32∧c.toNat≠9∧c.toNat≠10∧c.toNat≠13):Ft (c.toNat:Nat)=false:=by
 obtain⟨h1,h2,h3,h4⟩:=h;unfold Ft;have g1:((c.toNat:Int)==32)=false:=by rw[beq_eq_false_iff_ne];omega
 have g2:((c.toNat:Int)==9)=false:=by rw[beq_eq_false_iff_ne];omega
 have g3:((c.toNat:Int)==10)=false:=by rw[beq_eq_false_iff_ne];omega
 have g4:((c.toNat:Int)==13)=false:=by rw[beq_eq_false_iff_ne];omega
 simp [g1,g2,g3,g4]
 try omega
theorem Mz {c:UInt8}(h:Bw c=true):65≤c.toNat:=by
 simp [Bw,UInt8.le_iff_toNat_le]at h
 by_cases e:c=95
 ·rw[e];decide
 ·simp only[e,false_or,or_false]at h
  omega
theorem Vr {c:UInt8}(h:Ca c=true):48≤c.toNat:=by
 simp [Ca,UInt8.le_iff_toNat_le]at h;omega
theorem Ls {c:UInt8}{t:Bs}(h7:c.toNat<128)(h:c.toNat≠32∧c.toNat≠9∧c.toNat≠10∧c.toNat≠13):Et Ft (c::t):= .inr ⟨c,t,rfl,h7,dL c h⟩
theorem Gx.ends {x:Bs}{k n:Int}(h:Gx x k n)(r:Bs):Et Ft (x++r):=by
 cases h with
 |name x hx hk c t hc hl ha=>rw[hc];have:=Mz hl;exact Ls (Fo hl) (by omega)
 |word x hk c t hc hl ha=>rw[hc];have:=Mz hl;exact Ls (Fo hl) (by omega)
 |num u hu hi c t hc hd=>rw[hc];have:=Vr hd;exact Ls (Jx hd) (by omega)
 |quote q y=>exact Ls (c:=39) (t:=y++[39]++r) (by decide) (by decide)
 |sign x hs c t hc h7 hn=>
  rcases Em hs with rfl|rfl|rfl|rfl|rfl|rfl|rfl|rfl|rfl|rfl|rfl|rfl|rfl|rfl|rfl|rfl|rfl|rfl|rfl|rfl|rfl|rfl|rfl|rfl|rfl|rfl|rfl<;>(rw[Zd];exact Ls (by decide) (by decide))
theorem Gx.noComment {x:Bs}{k n:Int}(h:Gx x k n)(b:UInt8)(hb:Ej b=true)(r:Bs):Zc (x++b::r) [47,47]=false:=by
 have hne:b≠47:=by rintro rfl;simp [Ej]at hb
 have key:∀(c:UInt8) (t:Bs),c≠47→Zc (c::t) [47,47]=false:=fun c t hc=>by
  have h1:((47:UInt8)==c)=false:=by rw[beq_eq_false_iff_ne];exact fun e=>hc e.symm
  show([47,47]:List UInt8).isPrefixOf (c::t)=false
  rw[List.isPrefixOf,h1];rfl
 have key2:∀(t:Bs),Zc (47::b::t) [47,47]=false:=fun t=>by
  have h1:((47:UInt8)==b)=false:=by rw[beq_eq_false_iff_ne];exact fun e=>hne e.symm
  show([47,47]:List UInt8).isPrefixOf (47::b::t)=false
  rw[List.isPrefixOf,List.isPrefixOf,h1];rfl
 cases h with
 |name x hx hk c t hc hl ha=>rw[hc,Zd];exact key _ _ (by rintro rfl;simp [Bw]at hl)
 |word x hk c t hc hl ha=>rw[hc,Zd];exact key _ _ (by rintro rfl;simp [Bw]at hl)
 |num u hu hi c t hc hd=>rw[hc,Zd];exact key _ _ (by rintro rfl;simp [Ca]at hd)
 |quote q y=>exact key 39 (y++[39]++b::r) (by decide)
 |sign x hs c t hc h7 hn=>
  rcases Em hs with rfl|rfl|rfl|rfl|rfl|rfl|rfl|rfl|rfl|rfl|rfl|rfl|rfl|rfl|rfl|rfl|rfl|rfl|rfl|rfl|rfl|rfl|rfl|rfl|rfl|rfl|rfl<;>first|(rw[Zd];exact key _ _ (by decide))|exact key2 r
theorem If {w w':World}{base size n:Nat}{e:TypeId}{v:Value}{xs:List Value}(h:w.ownsRow base e size v n xs)(hb:Below w.heap.size w w'):w'.ownsRow base e size v n xs:=by
 refine⟨h.1,?_⟩;rcases h.2 with hn|⟨g,cap,cur,rfl,hg,hh,r⟩
 ·exact .inl hn
 ·refine .inr ⟨g,cap,cur,rfl,hg,?_,r⟩
  rw[hb.block g (by
   rcases Nat.lt_or_ge g w.heap.size with h'|h'
   ·exact h'
   ·simp [Array.getElem?_eq_none h']at hh)]
  exact hh
theorem Jp {w:World}{base size n:Nat}{e:TypeId}{v:Value}{xs:List Value}(h:w.ownsRow base e size v n xs){k:Nat}(hk:v.ownBlock≠some k)(i:Nat)(x:Value):(w.setCell ⟨k,i,none⟩ x).ownsRow base e size v n xs:=by
 refine⟨h.1,?_⟩;rcases h.2 with hn|⟨g,cap,cur,rfl,hg,hh,r⟩
 ·exact .inl hn
 ·refine .inr ⟨g,cap,cur,rfl,hg,?_,r⟩
  rw[Below.heap_setCell _ _ _ _ (by rintro rfl;exact hk rfl)];exact hh
theorem Xk {w:World}{base size n:Nat}{e:TypeId}{v:Value}{xs:List Value}(h:w.ownsRow base e size v n xs):(v= .slice none 0 0∧n=0)∨∃g cap,v= .slice (some ⟨g,0,none⟩) n cap:=by
 rcases h.2 with h'|⟨g,cap,cur,rfl,_⟩
 ·exact .inl h'
 ·exact .inr ⟨g,cap,rfl⟩
theorem Xx {w:World}{base size n:Nat}{e:TypeId}{v:Value}{xs:List Value}(h:w.ownsRow base e size v n xs):∃a cap,v= .slice a n cap:=by
 rcases Xk h with⟨rfl,rfl⟩|⟨g,cap,rfl⟩
 ·exact⟨none,0,rfl⟩
 ·exact⟨_,_,rfl⟩
theorem Nm {B:Nat}{a w w':World}(h:Below B a w){row:Option Nat}(hg:w.grownBy w' row)(hr:∀k,row=some k→B≤k)(hB:B≤w.heap.size):Below B a w':=
 ⟨hg.os.trans h.os,hg.tape.trans h.tape,hg.output.trans h.output,Nat.le_trans h.size hg.size,fun k hk=>(hg.block k (Nat.lt_of_lt_of_le hk hB) (fun e=>by have:=hr k e.symm;omega)).trans (h.block k hk)⟩
theorem Ea {B:Nat}{a w:World}(h:Below B a w){k:Nat}(hk:B≤k)(i:Nat)(v:Value):Below B a (w.setCell ⟨k,i,none⟩ v):=h.setCell (p:=⟨k,i,none⟩) hk v
theorem Ac.grow {w w':World}{b:Nat}{cs:List Value}{T:TypeId}(h:Ac w b cs T){row:Option Nat}(hg:w.grownBy w' row)(hr:row≠some b):Ac w' b cs T:=(hg.block b h.lt (fun e=>hr e.symm)).trans h
theorem Ac.news {w:World}{b:Nat}{cs:List Value}{T:TypeId}(h:Ac w b cs T):∀j u,cs[j]? =some u→w.cell? ((⟨b,0,none⟩:Addr).add j)=some u:=by
 intro j u hu;have h2:(⟨b,0,none⟩:Addr).add j=⟨b,j,none⟩:=by unfold Addr.add;split<;>simp_all
 rw[h2];exact h.at j u hu
def Wb(w:World)(l:List Int)(v:Value):Prop:=
 ∃a cap b off,v= .slice a l.length cap∧(l.length=0∨a=some ⟨b,off,none⟩)∧l.length≤9223372036854775807∧
  ∀i,i<l.length→w.cell? ⟨b,off+i,none⟩=some (.int .i64 (l.getD i 0))∧I64 (l.getD i 0)
theorem Wb.old {w w':World}{l:List Int}{v:Value}(h:Wb w l v)(hb:Below w.heap.size w w'):Wb w' l v:=by
 obtain⟨a,cap,b,off,h1,h2,h3,h4⟩:=h;exact⟨a,cap,b,off,h1,h2,h3,fun i hi=>⟨Ab hb (h4 i hi).1,(h4 i hi).2⟩⟩
theorem Wb.slice {w:World}{l:List Int}{v:Value}(h:Wb w l v):∃a cap,v= .slice a l.length cap:=by
 obtain⟨a,cap,b,off,h1,_⟩:=h;exact⟨a,cap,h1⟩
theorem Wb.at {w:World}{l:List Int}{a:Option Addr}{n cap:Nat}(h:Wb w l (.slice a n cap))(i:Nat)(hi:i<l.length):∃b off,a=some ⟨b,off,none⟩∧b<w.heap.size∧w.cell? ⟨b,off+i,none⟩=some (.int .i64 (l.getD i 0))∧I64 (l.getD i 0):=by
 obtain⟨a',cap',b,off,h1,h2,h3,h4⟩:=h
 cases h1
 rcases h2 with h2|h2
 ·omega
 ·exact⟨b,off,h2,World.block_lt_of_cell? _ _ (h4 i hi).1,(h4 i hi).1,(h4 i hi).2⟩
def Qc(w:World)(l:List (Int ×Int))(v:Value):Prop:=
 ∃a cap b off,v= .slice a l.length cap∧(l.length=0∨a=some ⟨b,off,none⟩)∧l.length≤9223372036854775807∧
  ∀i,i<l.length→w.cell? ⟨b,off+i*2,none⟩=some (.int .i64 (l.getD i (0,0)).1)∧w.cell? ⟨b,off+i*2+1,none⟩=some (.int .i64 (l.getD i (0,0)).2)∧I64 (l.getD i (0,0)).1∧I64 (l.getD i (0,0)).2
theorem Qc.old {w w':World}{l:List (Int ×Int)}{v:Value}(h:Qc w l v)(hb:Below w.heap.size w w'):Qc w' l v:=by
 obtain⟨a,cap,b,off,h1,h2,h3,h4⟩:=h;exact⟨a,cap,b,off,h1,h2,h3,fun i hi=>⟨Ab hb (h4 i hi).1,Ab hb (h4 i hi).2.1,(h4 i hi).2.2⟩⟩
theorem Qc.slice {w:World}{l:List (Int ×Int)}{v:Value}(h:Qc w l v):∃a cap,v= .slice a l.length cap:=by
 obtain⟨a,cap,b,off,h1,_⟩:=h;exact⟨a,cap,h1⟩
theorem Qc.at {w:World}{l:List (Int ×Int)}{a:Option Addr}{n cap:Nat}(h:Qc w l (.slice a n cap))(i:Nat)(hi:i<l.length):∃b off,a=some ⟨b,off,none⟩∧b<w.heap.size∧w.cell? ⟨b,off+i*2,none⟩=some (.int .i64 (l.getD i (0,0)).1)∧w.cell? ⟨b,off+i*2+1,none⟩=some (.int .i64 (l.getD i (0,0)).2)∧I64 (l.getD i (0,0)).1∧I64 (l.getD i (0,0)).2:=by
 obtain⟨a',cap',b,off,h1,h2,h3,h4⟩:=h
 cases h1
 rcases h2 with h2|h2
 ·omega
 ·exact⟨b,off,h2,World.block_lt_of_cell? _ _ (h4 i hi).1,h4 i hi⟩
end Go.Proofs.YtcfpfnoldgnloaaGreatDoor
