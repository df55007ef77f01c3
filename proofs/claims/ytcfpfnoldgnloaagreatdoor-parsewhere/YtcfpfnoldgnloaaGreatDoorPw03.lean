/-
  tree.named and tree.Right: which programs may be. No condition beside the cells.
-/
import Derived.Test.YtcfpfnoldgnloaaGreatDoorPw00
import Derived.Laws.RangeAny
set_option linter.unusedVariables false
set_option linter.unusedSimpArgs false
namespace Go.Proofs.YtcfpfnoldgnloaaGreatDoor
open Go.RowKit
set_option maxHeartbeats 20000000
set_option maxRecDepth 100000
open Go.Lib renaming hid→Za
open Go.Proofs.Tryz renaming prog→Zb,func122→Zi,ntmps122→Zj,results122→Zk
open World renaming cell?_alloc_lt→Zc
open Below renaming refl→Zd,setCell→Zh,alloc→Zm,drew→Zn
open List renaming setIfInBounds_toArray→Ze,set_cons_zero→Zf,set_cons_succ→Zg,getElem?_eq_getElem→Zq,any_eq_not_all_not→Zr,getElem_toArray→Zs,getElem_cons_succ→Zt,getElem_cons_zero→Zu
open Nat renaming le_refl→Zl,zero_le→Zo,lt_succ_iff_lt_or_eq→Zp
def Gg(r:Int):Bool:=decide (r=95∨(97≤r∧r≤122)∨(65≤r∧r≤90))
def Hr(r:Int):Bool:=decide (48≤r∧r≤57)
theorem Ij(r:Int)(w:World):
  Calls Zb 89 #[.int .i32 r] w fun e w'=>e= .returned (.bool (Gg r))∧w=w':=by
 go_enter Tryz.func89,Tryz.ntmps89
 go_wp2
 all_goals go_ret
 all_goals(refine⟨Bw ?_,rfl⟩;rw[Bool.eq_iff_iff];simp [Gg];omega)
theorem Md(r:Int)(w:World):
  Calls Zb 91 #[.int .i32 r] w fun e w'=>e= .returned (.bool (Hr r))∧w=w':=by
 go_enter Tryz.func91,Tryz.ntmps91
 go_wp2
 all_goals go_ret
 all_goals(refine⟨Bw ?_,rfl⟩;rw[Bool.eq_iff_iff];simp [Hr];omega)
theorem Wq(l:Bs)(w:World):
  Calls Zb 144 #[.string (Aa l)] w fun e w'=>e= .returned (.bool (Hj l))∧w=w':=by
 go_enter Tryz.func144,Tryz.ntmps144
 go_wp2
 all_goals go_ret
 all_goals(refine⟨Bw ?_,rfl⟩;simp_all [Hj,dY])
theorem Lb(c:UInt8):Gg (c.toNat:Nat)=By c:=by
 rw[Bool.eq_iff_iff];simp [Gg,By,UInt8.le_iff_toNat_le,←UInt8.toNat_inj];omega
theorem Kt(c:UInt8):Hr (c.toNat:Nat)=Bq c:=by
 rw[Bool.eq_iff_iff];simp [Hr,Bq,UInt8.le_iff_toNat_le];omega
theorem Qg {r:Nat}(h:128≤r):Gg r=false:=by simp [Gg];omega
theorem Su {r:Nat}(h:128≤r):Hr r=false:=by simp [Hr];omega
theorem Xi {c:UInt8}(h:128≤c.toNat):By c=false:=by rw[←Lb];exact Qg h
theorem bY {c:UInt8}(h:128≤c.toNat):Bq c=false:=by rw[←Kt];exact Su h
theorem decode_at(l:Bs)(k:Nat)(h:k<l.length):∃r d,Utf8.decode (Aa l) k=(r,d)∧1≤d∧Gg r=By l[k]∧Hr r=Bq l[k]∧(r<128→r=l[k].toNat∧d=1)∧r≤2147483647:=by
 have hs:k<(Aa l).size:=h;have he:(Aa l)[k]'hs=l[k]:=rfl;have hle:=decode_le (Aa l) k
 by_cases ha:((Aa l)[k]'hs).toNat<128
 ·rw[decode_ascii _ _ hs ha]at hle
  exact⟨_,_,decode_ascii _ _ hs ha,Zl _,by rw[he];exact Lb _,by rw[he];exact Kt _,fun _=>⟨by rw[he],rfl⟩,hle⟩
 ·have hh:=decode_high (Aa l) k hs (by omega)
  have h2:128≤l[k].toNat:=by rw[←he];omega
  generalize Utf8.decode (Aa l) k=q at hh hle ⊢;exact⟨q.1,q.2,rfl,hh.2,by rw[Qg hh.1,Xi h2],by rw[Su hh.1,bY h2],fun h=>by omega,hle⟩
theorem Sw {r:Nat}(h:Gg r=true):r<128:=by simp [Gg]at h;omega
theorem Qa {r:Nat}(h:Hr r=true):r<128:=by simp [Hr]at h;omega
theorem mJ(l:Bs)(h20:l.length≤20)(h0:l.isEmpty=false)(hw:Hj l=false)(w:World):
  Calls Zb 112 #[.string (Aa l)] w fun e w'=>e= .returned (.bool (Gx true l))∧Below w.heap.size w w':=by
 go_enter Tryz.func112,Tryz.ntmps112
 go_wp2_with (go_at_call 144;refine(Wq _ _).mono ?_;rintro e w1 ⟨rfl,rfl⟩)
 go_loopw [3,4] (fun _ _ wr=> ∃k:Nat,k≤l.length∧wr=w.iter (Aa l) k∧Hid (Gx true l=Gx (decide (k=0)) (l.drop k))) (fun _ _ wr=>l.length - wr.iterPos w.heap.size)
 case atStart=>exact⟨0,Zo _,rfl,rfl⟩
 case round=>
  obtain⟨k,hk,rfl,HI⟩:=hrel
  by_cases hlt:k<l.length
  ·have hnx:=fun ty=>run_next_any (P:=Zb) w (Aa l) k ty hlt
   obtain⟨r,d,hd,h1,hl,hdg,hlow,hr⟩:=decode_at l k hlt;rw[hd]at hnx;have HL:=Za hl;have HD:=Za hdg;have HLOW:=Za hlow;have HE:Hid (Gx (decide (k=0)) (l.drop k)=((By l[k]||(!decide (k=0) && Bq l[k])) && Gx false (l.drop (k+1)))):=by
    show _=_
    rw[List.drop_eq_getElem_cons hlt];rfl
   clear hl hdg hlow hd
   by_cases q:Gg r=true
   ·go_wp2_with (go_at_call 89;refine(Ij _ _).mono ?_;rintro e w1 ⟨rfl,rfl⟩)
    have h3:=HLOW.out (Sw q);obtain rfl:=h3.2;go_roundw
    case rel=>exact⟨k+1,by omega,rfl,by show _=_;rw[HI.out,HE.out,←HL.out,q];simp⟩
    case measure=>simp;omega
   ·have q':Gg r=false:=by simpa using q
    clear q
    by_cases z:k=0
    ·subst z
     go_wp2_with (go_at_call 89;refine(Ij _ _).mono ?_;rintro e w1 ⟨rfl,rfl⟩)
     go_ret
     exact⟨Bw (by rw[HI.out,HE.out,←HL.out,q'];simp),bA⟩
    ·have z':((k:Int)==0)=false:=by simpa using z
     by_cases g:Hr r=true
     ·go_wp2_with (first|(go_at_call 89;refine(Ij _ _).mono ?_;rintro e w1 ⟨rfl,rfl⟩)|(go_at_call 91;refine(Md _ _).mono ?_;rintro e w1 ⟨rfl,rfl⟩))
      have h3:=HLOW.out (Qa g);obtain rfl:=h3.2;go_roundw
      case rel=>exact⟨k+1,by omega,rfl,by show _=_;rw[HI.out,HE.out,←HL.out,←HD.out,q',g];simp [z]⟩
      case measure=>simp;omega
     ·have g':Hr r=false:=by simpa using g
      clear g;go_wp2_with (first|(go_at_call 89;refine(Ij _ _).mono ?_;rintro e w1 ⟨rfl,rfl⟩)|(go_at_call 91;refine(Md _ _).mono ?_;rintro e w1 ⟨rfl,rfl⟩))
      go_ret
      exact⟨Bw (by rw[HI.out,HE.out,←HL.out,←HD.out,q',g'];simp),bA⟩
  ·have hnx:=fun ty=>run_next_end (P:=Zb) w (Aa l) k ty hlt
   go_wp2_with fail
   go_ret
   exact⟨Bw (by rw[HI.out,List.drop_eq_nil_of_le (by omega)];rfl),bA⟩
theorem Le(l:Bs)(w:World):
  Calls Zb 112 #[.string (Aa l)] w fun e w'=>e= .returned (.bool (Aq l))∧Below w.heap.size w w':=by
 by_cases h0:l=[]
 ·subst h0
  go_enter Tryz.func112,Tryz.ntmps112
  go_wp2_with fail
  go_ret
  exact⟨rfl,Zd _ _⟩
 ·have h0':l.isEmpty=false:=by simpa using h0
  by_cases h20:l.length≤20
  ·cases hw:Hj l
   ·have h:=mJ l h20 h0' hw w
    have e:Aq l=Gx true l:=by simp [Aq,h0,h20,hw]
    rw[e];exact h
   ·go_enter Tryz.func112,Tryz.ntmps112
    go_wp2_with (go_at_call 144;refine(Wq _ _).mono ?_;rintro e w1 ⟨rfl,rfl⟩)
    go_ret
    exact⟨Bw (by simp [Aq,hw]),Zd _ _⟩
  ·have h20':20<l.length:=by omega
   go_enter Tryz.func112,Tryz.ntmps112
   go_wp2_with fail
   go_ret
   exact⟨Bw (by simp [Aq,h20]),Zd _ _⟩
theorem row_eq {s:ByteArray}{l op:Int}{F1 F2:Value}(hs:s=Aa (Ap op))(hl:l=Al op):
  ∃f1 f2,Ending.returned (.agg #[.string s,.int .i64 l,F1,F2])= .returned (.agg #[.string (Aa (Ap op)),.int .i64 (Al op),f1,f2]):=by
 subst hs hl;exact⟨_,_,rfl⟩
theorem Yn(op:Int)(w:World):
  Calls Zb 128 #[.int .i64 op] w fun e w'=>(∃f1 f2,e= .returned (.agg #[.string (Aa (Ap op)),.int .i64 (Al op),f1,f2]))∧Below w.heap.size w w':=by
 go_enter Tryz.func128,Tryz.ntmps128
 go_wp2
 all_goals(refine bodyPost_ret (by simp [results,Tryz.results128,go_sem];rfl) rfl ?_)
 all_goals(refine⟨row_eq ?_ ?_,by repeat(first|exact Zd _ _|refine Zm ?_ (Zl _) _)⟩)
 all_goals(simp only[beq_iff_eq,beq_eq_false_iff_ne,ne_eq]at*;simp [Ap,Al,Aa, *])
@[go_sem] theorem field_row0 (a b c d:Value) (w:World):(Instr.field 157 (.agg #[a,b,c,d]) 0).run Zb w= .ok a w:=by kernel_rfl
@[go_sem] theorem field_row1 (a b c d:Value) (w:World):(Instr.field 157 (.agg #[a,b,c,d]) 1).run Zb w= .ok b w:=by kernel_rfl
theorem Jo(op:Int)(w:World):
  Calls Zb 74 #[.int .i64 op] w fun e w'=>e= .returned (.int .i64 (Al op))∧Below w.heap.size w w':=by
 go_enter Tryz.func74,Tryz.ntmps74
 go_wp2_with fail
 refine(Yn op _).mono ?_;rintro e w1 ⟨⟨f1,f2,rfl⟩,hb⟩;go_wp2_with fail
 go_ret
 exact⟨rfl,hb⟩
theorem Eb(op:Int)(w:World):
  Calls Zb 71 #[.int .i64 op] w fun e w'=>e= .returned (.tuple #[.string (Aa (Ap op)),.bool (!(Ap op).isEmpty)])∧Below w.heap.size w w':=by
 go_enter Tryz.func71,Tryz.ntmps71
 go_wp2_with fail
 refine(Yn op _).mono ?_;rintro e w1 ⟨⟨f1,f2,rfl⟩,hb⟩;go_wp2_with fail
 go_ret2
 exact⟨by simp [Aa],hb⟩
theorem kB(b off n cap:Nat)(k:FuncId)(caps:Array Value)(hk:∀args w,(callFunc k args).run Zb w= .ok (.enter k args) w)(w:World)(c0 c1 c2 c3 c4:Nat→Value)(p:Nat→Bool)(hn:n≤140737488355328)
  (hc:∀i,i<n→w.cell? ⟨b,off+i*5,none⟩=some (c0 i)∧w.cell? ⟨b,off+i*5+1,none⟩=some (c1 i)∧w.cell? ⟨b,off+i*5+2,none⟩=some (c2 i)∧w.cell? ⟨b,off+i*5+3,none⟩=some (c3 i)∧w.cell? ⟨b,off+i*5+4,none⟩=some (c4 i))
  (hf:∀i,i<n→∀w1,Below w.heap.size w w1→Calls Zb k (#[.agg #[c0 i,c1 i,c2 i,c3 i,c4 i]]++caps) w1 fun e w2=>e= .returned (.bool (p i))∧Below w1.heap.size w1 w2):
  Calls Zb 164 #[.slice (some ⟨b,off,none⟩) n cap,.func (.func k) #[] caps] w fun e w'=>e= .returned (.int .i64 (Eo p n))∧Below w.heap.size w w':=by
 have HF:=Za hf;clear hf;have HC:=Za hc;clear hc;have hn1:n<9223372036854775807:=by omega
 clear hn;go_enter Tryz.func164,Tryz.ntmps164
 go_wp2_with fail
 go_loopw [5,8] (fun _ i8 wr=> ∃j:Nat,j≤n∧i8= .int .i64 j∧(∀i,i<j→p i=false)∧Below w.heap.size w wr) (fun _ i8 _=>n - (intOf i8).toNat)
 case atStart=>exact⟨0,Zo _,rfl,fun i hi=>by omega,Zd _ _⟩
 case round=>
  obtain⟨j,hj,rfl,hno,hb⟩:=hrel;have HNO:=Za hno;clear hno
  by_cases hlt:j<n
  ·obtain⟨g0,g1,g2,g3,g4⟩:=HC.out j hlt
   have k0:=Ad hb g0;have k1:=Ad hb g1;have k2:=Ad hb g2;have k3:=Ad hb g3;have k4:=Ad hb g4;clear g0 g1 g2 g3 g4;have call:=HF.out j hlt wr hb;have HB:=Za hb;clear hb;have HCALL:=Za call;clear call;go_wp2_with fail
   refine HCALL.out.mono ?_
   cases hp:p j
   ·rintro e w2 ⟨rfl,hb2⟩
    have HP:=Za hp;clear hp;go_wp2_with fail
    go_roundw
    case rel=>exact⟨j+1,by omega,by go_num,fun i hi=>by rcases Zp.1 hi with h|rfl;exact HNO.out i h;exact HP.out,HB.out.trans (hb2.mono HB.out.size)⟩
    case measure=>simp [intOf];omega
   ·rintro e w2 ⟨rfl,hb2⟩
    have HP:=Za hp;clear hp;go_wp2_with fail
    go_ret
    exact⟨Ih (Ot p j HP.out HNO.out n hlt).symm,HB.out.trans (hb2.mono HB.out.size)⟩
  ·have hje:n≤j:=by omega
   have HB:=Za hb;clear hb;go_wp2_with fail
   go_ret
   exact⟨Ih (Kd p n (fun i hi=>HNO.out i (by omega))).symm,HB.out⟩
theorem fQ(a:Option Addr)(cap:Nat)(f:Value)(w:World):
  Calls Zb 164 #[.slice a 0 cap,f] w fun e w'=>e= .returned (.int .i64 (-1))∧Below w.heap.size w w':=by
 go_enter Tryz.func164,Tryz.ntmps164
 go_wp2_with fail
 refine wp_loop_rounds 1 ?_;rw[rounds_succ];go_wp2_with fail
 go_ret
 exact⟨rfl,Zd _ _⟩
theorem Xm(a:Option Addr)(n cap:Nat)(k:FuncId)(caps:Array Value)(hk:∀args w,(callFunc k args).run Zb w= .ok (.enter k args) w)(w:World)(c0 c1 c2 c3 c4:Nat→Value)(p:Nat→Bool)(hn:n≤140737488355328)
  (hc:n=0∨∃b off,a=some ⟨b,off,none⟩∧∀i,i<n→w.cell? ⟨b,off+i*5,none⟩=some (c0 i)∧w.cell? ⟨b,off+i*5+1,none⟩=some (c1 i)∧w.cell? ⟨b,off+i*5+2,none⟩=some (c2 i)∧w.cell? ⟨b,off+i*5+3,none⟩=some (c3 i)∧w.cell? ⟨b,off+i*5+4,none⟩=some (c4 i))
  (hf:∀i,i<n→∀w1,Below w.heap.size w w1→Calls Zb k (#[.agg #[c0 i,c1 i,c2 i,c3 i,c4 i]]++caps) w1 fun e w2=>e= .returned (.bool (p i))∧Below w1.heap.size w1 w2):
  Calls Zb 120 #[.slice a n cap,.func (.func k) #[] caps] w fun e w'=>e= .returned (.bool (Nw p n))∧Below w.heap.size w w':=by
 have H:Hid (Calls Zb 164 #[.slice a n cap,.func (.func k) #[] caps] w fun e w'=>e= .returned (.int .i64 (Eo p n))∧Below w.heap.size w w'):=by
  rcases hc with rfl|⟨b,off,rfl,hc⟩
  ·exact fQ _ _ _ _
  ·exact kB b off n cap k caps hk w c0 c1 c2 c3 c4 p hn hc hf
 clear hc hf hk hn;have E:Hid (decide (0≤Eo p n)=Nw p n):=Lr p n;generalize Eo p n=r at H E;generalize Nw p n=q at E;go_enter Tryz.func120,Tryz.ntmps120
 go_wp2_with fail
 refine H.out.mono ?_;rintro e w1 ⟨rfl,hb⟩;go_wp2_with fail
 go_ret
 exact⟨Bw E.out,hb⟩
theorem gZ(b off n cap:Nat)(k:FuncId)(caps:Array Value)(hk:∀args w,(callFunc k args).run Zb w= .ok (.enter k args) w)(w:World)(c0 c1 c2 c3 c4:Nat→Value)(p:Nat→Bool)(hn:n≤140737488355328)
  (hc:∀i,i<n→w.cell? ⟨b,off+i*5,none⟩=some (c0 i)∧w.cell? ⟨b,off+i*5+1,none⟩=some (c1 i)∧w.cell? ⟨b,off+i*5+2,none⟩=some (c2 i)∧w.cell? ⟨b,off+i*5+3,none⟩=some (c3 i)∧w.cell? ⟨b,off+i*5+4,none⟩=some (c4 i))
  (hf:∀i,i<n→∀w1,Below w.heap.size w w1→Calls Zb k (#[.agg #[c0 i,c1 i,c2 i,c3 i,c4 i]]++caps) w1 fun e w2=>e= .returned (.bool (p i))∧Below w1.heap.size w1 w2):
  Calls Zb 159 #[.slice (some ⟨b,off,none⟩) n cap,.func (.func k) #[] caps] w fun e w'=>e= .returned (.int .i64 (Eo p n))∧Below w.heap.size w w':=by
 have HF:=Za hf;clear hf;have HC:=Za hc;clear hc;have hn1:n<9223372036854775807:=by omega
 clear hn;go_enter Tryz.func159,Tryz.ntmps159
 go_wp2_with fail
 go_loopw [5,8] (fun _ i8 wr=> ∃j:Nat,j≤n∧i8= .int .i64 j∧(∀i,i<j→p i=false)∧Below w.heap.size w wr) (fun _ i8 _=>n - (intOf i8).toNat)
 case atStart=>exact⟨0,Zo _,rfl,fun i hi=>by omega,Zd _ _⟩
 case round=>
  obtain⟨j,hj,rfl,hno,hb⟩:=hrel;have HNO:=Za hno;clear hno
  by_cases hlt:j<n
  ·obtain⟨g0,g1,g2,g3,g4⟩:=HC.out j hlt
   have k0:=Ad hb g0;have k1:=Ad hb g1;have k2:=Ad hb g2;have k3:=Ad hb g3;have k4:=Ad hb g4;clear g0 g1 g2 g3 g4;have call:=HF.out j hlt wr hb;have HB:=Za hb;clear hb;have HCALL:=Za call;clear call;go_wp2_with fail
   refine HCALL.out.mono ?_
   cases hp:p j
   ·rintro e w2 ⟨rfl,hb2⟩
    have HP:=Za hp;clear hp;go_wp2_with fail
    go_roundw
    case rel=>exact⟨j+1,by omega,by go_num,fun i hi=>by rcases Zp.1 hi with h|rfl;exact HNO.out i h;exact HP.out,HB.out.trans (hb2.mono HB.out.size)⟩
    case measure=>simp [intOf];omega
   ·rintro e w2 ⟨rfl,hb2⟩
    have HP:=Za hp;clear hp;go_wp2_with fail
    go_ret
    exact⟨Ih (Ot p j HP.out HNO.out n hlt).symm,HB.out.trans (hb2.mono HB.out.size)⟩
  ·have hje:n≤j:=by omega
   have HB:=Za hb;clear hb;go_wp2_with fail
   go_ret
   exact⟨Ih (Kd p n (fun i hi=>HNO.out i (by omega))).symm,HB.out⟩
theorem fG(a:Option Addr)(cap:Nat)(f:Value)(w:World):
  Calls Zb 159 #[.slice a 0 cap,f] w fun e w'=>e= .returned (.int .i64 (-1))∧Below w.heap.size w w':=by
 go_enter Tryz.func159,Tryz.ntmps159
 go_wp2_with fail
 refine wp_loop_rounds 1 ?_;rw[rounds_succ];go_wp2_with fail
 go_ret
 exact⟨rfl,Zd _ _⟩
theorem Xc(a:Option Addr)(n cap:Nat)(k:FuncId)(caps:Array Value)(hk:∀args w,(callFunc k args).run Zb w= .ok (.enter k args) w)(w:World)(c0 c1 c2 c3 c4:Nat→Value)(p:Nat→Bool)(hn:n≤140737488355328)
  (hc:n=0∨∃b off,a=some ⟨b,off,none⟩∧∀i,i<n→w.cell? ⟨b,off+i*5,none⟩=some (c0 i)∧w.cell? ⟨b,off+i*5+1,none⟩=some (c1 i)∧w.cell? ⟨b,off+i*5+2,none⟩=some (c2 i)∧w.cell? ⟨b,off+i*5+3,none⟩=some (c3 i)∧w.cell? ⟨b,off+i*5+4,none⟩=some (c4 i))
  (hf:∀i,i<n→∀w1,Below w.heap.size w w1→Calls Zb k (#[.agg #[c0 i,c1 i,c2 i,c3 i,c4 i]]++caps) w1 fun e w2=>e= .returned (.bool (p i))∧Below w1.heap.size w1 w2):
  Calls Zb 113 #[.slice a n cap,.func (.func k) #[] caps] w fun e w'=>e= .returned (.bool (Nw p n))∧Below w.heap.size w w':=by
 have H:Hid (Calls Zb 159 #[.slice a n cap,.func (.func k) #[] caps] w fun e w'=>e= .returned (.int .i64 (Eo p n))∧Below w.heap.size w w'):=by
  rcases hc with rfl|⟨b,off,rfl,hc⟩
  ·exact fG _ _ _ _
  ·exact gZ b off n cap k caps hk w c0 c1 c2 c3 c4 p hn hc hf
 clear hc hf hk hn;have E:Hid (decide (0≤Eo p n)=Nw p n):=Lr p n;generalize Eo p n=r at H E;generalize Nw p n=q at E;go_enter Tryz.func113,Tryz.ntmps113
 go_wp2_with fail
 refine H.out.mono ?_;rintro e w1 ⟨rfl,hb⟩;go_wp2_with fail
 go_ret
 exact⟨Bw E.out,hb⟩
theorem gH(b off n cap:Nat)(k:FuncId)(caps:Array Value)(hk:∀args w,(callFunc k args).run Zb w= .ok (.enter k args) w)(w:World)(c0:Nat→Value)(p:Nat→Bool)(hn:n≤140737488355328)
  (hc:∀i,i<n→w.cell? ⟨b,off+i,none⟩=some (c0 i))
  (hf:∀i,i<n→∀w1,Below w.heap.size w w1→Calls Zb k (#[c0 i]++caps) w1 fun e w2=>e= .returned (.bool (p i))∧Below w1.heap.size w1 w2):
  Calls Zb 158 #[.slice (some ⟨b,off,none⟩) n cap,.func (.func k) #[] caps] w fun e w'=>e= .returned (.int .i64 (Eo p n))∧Below w.heap.size w w':=by
 have HF:=Za hf;clear hf;have HC:=Za hc;clear hc;have hn1:n<9223372036854775807:=by omega
 clear hn;go_enter Tryz.func158,Tryz.ntmps158
 go_wp2_with fail
 go_loopw [5,8] (fun _ i8 wr=> ∃j:Nat,j≤n∧i8= .int .i64 j∧(∀i,i<j→p i=false)∧Below w.heap.size w wr) (fun _ i8 _=>n - (intOf i8).toNat)
 case atStart=>exact⟨0,Zo _,rfl,fun i hi=>by omega,Zd _ _⟩
 case round=>
  obtain⟨j,hj,rfl,hno,hb⟩:=hrel;have HNO:=Za hno;clear hno
  by_cases hlt:j<n
  ·have g0:=HC.out j hlt
   have k0:=Ad hb g0;clear g0;have call:=HF.out j hlt wr hb;have HB:=Za hb;clear hb;have HCALL:=Za call;clear call;go_wp2_with fail
   refine HCALL.out.mono ?_
   cases hp:p j
   ·rintro e w2 ⟨rfl,hb2⟩
    have HP:=Za hp;clear hp;go_wp2_with fail
    go_roundw
    case rel=>exact⟨j+1,by omega,by go_num,fun i hi=>by rcases Zp.1 hi with h|rfl;exact HNO.out i h;exact HP.out,HB.out.trans (hb2.mono HB.out.size)⟩
    case measure=>simp [intOf];omega
   ·rintro e w2 ⟨rfl,hb2⟩
    have HP:=Za hp;clear hp;go_wp2_with fail
    go_ret
    exact⟨Ih (Ot p j HP.out HNO.out n hlt).symm,HB.out.trans (hb2.mono HB.out.size)⟩
  ·have hje:n≤j:=by omega
   have HB:=Za hb;clear hb;go_wp2_with fail
   go_ret
   exact⟨Ih (Kd p n (fun i hi=>HNO.out i (by omega))).symm,HB.out⟩
theorem fX(a:Option Addr)(cap:Nat)(f:Value)(w:World):
  Calls Zb 158 #[.slice a 0 cap,f] w fun e w'=>e= .returned (.int .i64 (-1))∧Below w.heap.size w w':=by
 go_enter Tryz.func158,Tryz.ntmps158
 go_wp2_with fail
 refine wp_loop_rounds 1 ?_;rw[rounds_succ];go_wp2_with fail
 go_ret
 exact⟨rfl,Zd _ _⟩
theorem Xk(a:Option Addr)(n cap:Nat)(k:FuncId)(caps:Array Value)(hk:∀args w,(callFunc k args).run Zb w= .ok (.enter k args) w)(w:World)(c0:Nat→Value)(p:Nat→Bool)(hn:n≤140737488355328)
  (hc:n=0∨∃b off,a=some ⟨b,off,none⟩∧∀i,i<n→w.cell? ⟨b,off+i,none⟩=some (c0 i))
  (hf:∀i,i<n→∀w1,Below w.heap.size w w1→Calls Zb k (#[c0 i]++caps) w1 fun e w2=>e= .returned (.bool (p i))∧Below w1.heap.size w1 w2):
  Calls Zb 110 #[.slice a n cap,.func (.func k) #[] caps] w fun e w'=>e= .returned (.bool (Nw p n))∧Below w.heap.size w w':=by
 have H:Hid (Calls Zb 158 #[.slice a n cap,.func (.func k) #[] caps] w fun e w'=>e= .returned (.int .i64 (Eo p n))∧Below w.heap.size w w'):=by
  rcases hc with rfl|⟨b,off,rfl,hc⟩
  ·exact fX _ _ _ _
  ·exact gH b off n cap k caps hk w c0 p hn hc hf
 clear hc hf hk hn;have E:Hid (decide (0≤Eo p n)=Nw p n):=Lr p n;generalize Eo p n=r at H E;generalize Nw p n=q at E;go_enter Tryz.func110,Tryz.ntmps110
 go_wp2_with fail
 refine H.out.mono ?_;rintro e w1 ⟨rfl,hb⟩;go_wp2_with fail
 go_ret
 exact⟨Bw E.out,hb⟩
theorem De {l:List Ex}{i:Nat}(h:i<l.length):Bz l i∈l:=by
 simp only[Bz,List.getD_eq_getElem?_getD,Zq h,Option.getD_some];exact List.getElem_mem h
theorem dG {l:List Ex}{i:Nat}(h:i<l.length):Bz l i=l[i]:=by
 simp [Bz,Zq h]
theorem gA {l:List St}{i:Nat}(h:i<l.length):Im l i∈l:=by
 simp only[Im,List.getD_eq_getElem?_getD,Zq h,Option.getD_some];exact List.getElem_mem h
theorem rX {l:List St}{i:Nat}(h:i<l.length):Im l i=l[i]:=by
 simp [Im,Zq h]
theorem Mv(k:FuncId)(caps:Array Value)(hk:∀args w,(callFunc k args).run Zb w= .ok (.enter k args) w)(l:List Ex)(s:Value)(D:Nat→Prop)(w:World)(h:Ag D w l s)(f:Ex→Bool)
  (hf:∀e s' w1,e∈l→Below w.heap.size w w1→Ag D w1 e.args s'→Calls Zb k (#[exV e s']++caps) w1 fun r w2=>r= .returned (.bool (f e))∧Below w1.heap.size w1 w2):
  Calls Zb 120 #[s,.func (.func k) #[] caps] w fun r w'=>r= .returned (.bool (l.any f))∧Below w.heap.size w w':=by
 cases h with
 |mk _ a cap b off sv hcap hfit ha h0 h1 h2 h3 h4 hs=>
  rw[←Sa f (fun i=>f (Bz l i)) l (fun i hi=>by rw[dG hi])];refine Xm a l.length cap k caps hk w (fun i=> .int .i64 (Bz l i).kind) (fun i=> .int .i64 (Bz l i).op) (fun i=> .int .i64 (Bz l i).n) (fun i=> .string (Aa (Bz l i).name)) sv (fun i=>f (Bz l i)) (hfit).out ?_ ?_
  ·rcases ha with ha|⟨ha,_⟩
   ·exact .inl ha
   ·exact .inr ⟨b,off,ha,fun i hi=>⟨h0 i hi,h1 i hi,h2 i hi,h3 i hi,h4 i hi⟩⟩
  ·intro i hi w1 hb
   exact hf (Bz l i) (sv i) w1 (De hi) hb ((hs i hi).old hb)
abbrev stV(x:St)(a t e:Value):Value:= .agg #[.int .i64 x.kind,.string (Aa x.name),a,t,e]
theorem bU(k:FuncId)(caps:Array Value)(hk:∀args w,(callFunc k args).run Zb w= .ok (.enter k args) w)(l:List St)(s:Value)(D:Nat→Prop)(w:World)(h:Az D w l s)(f:St→Bool)
  (hf:∀x a t e w1,x∈l→Below w.heap.size w w1→Ag D w1 x.args a→Az D w1 x.thn t→Az D w1 x.els e→Calls Zb k (#[stV x a t e]++caps) w1 fun r w2=>r= .returned (.bool (f x))∧Below w1.heap.size w1 w2):
  Calls Zb 113 #[s,.func (.func k) #[] caps] w fun r w'=>r= .returned (.bool (l.any f))∧Below w.heap.size w w':=by
 cases h with
 |mk _ a cap b off sa st se hcap hfit ha h0 h1 h2 h3 h4 ea et ee=>
  rw[←Sa f (fun i=>f (Im l i)) l (fun i hi=>by rw[rX hi])];refine Xc a l.length cap k caps hk w (fun i=> .int .i64 (Im l i).kind) (fun i=> .string (Aa (Im l i).name)) sa st se (fun i=>f (Im l i)) (hfit).out ?_ ?_
  ·rcases ha with ha|⟨ha,_⟩
   ·exact .inl ha
   ·exact .inr ⟨b,off,ha,fun i hi=>⟨h0 i hi,h1 i hi,h2 i hi,h3 i hi,h4 i hi⟩⟩
  ·intro i hi w1 hb
   exact hf (Im l i) (sa i) (st i) (se i) w1 (gA hi) hb ((ea i hi).old hb) ((et i hi).old hb) ((ee i hi).old hb)
def pN(m:Nat):Prop:= ∀(D:Nat→Prop) (e:Ex) (s:Value) (w:World),Ag D w e.args s→
 Calls Zb 61 #[exV e s,.int .i64 m] w fun r w'=>r= .returned (.bool (Iy m e))∧Below w.heap.size w w'
theorem deep_fn(m:Nat)(ih:pN m)(D:Nat→Prop)(e:Ex)(s:Value)(w:World)(h:Ag D w e.args s)(B:Nat)(hB:w.cell? ⟨B,0,none⟩=some (.int .i64 (m+1)))(hm:m≤1000):
  Calls Zb 121 #[exV e s,.pointer (some ⟨B,0,none⟩)] w fun r w'=>r= .returned (.bool (!Iy m e))∧Below w.heap.size w w':=by
 have H:=Za h;clear h;have hBl:B<w.heap.size:=World.block_lt_of_cell? _ _ hB;go_enter Tryz.func121,Tryz.ntmps121
 go_wp2_with fail
 refine(ih D e s _ (H.out.old (bA))).mono ?_;rintro r w1 ⟨rfl,hb⟩;go_wp2_with fail
 go_ret
 exact⟨rfl,(bA).trans (hb.mono (by simp))⟩
theorem eG:∀m,m≤1000→pN m
 |0,_=>by
  intro D e s w _;go_enter Tryz.func61,Tryz.ntmps61
  go_wp2_with fail
  go_ret
  exact⟨rfl,(bA).alloc (by simp) _⟩
 |m+1,hm=>by
  intro D e s w h;have ih:=Za (eG m (by omega));have H:=Za h;clear h;have hm':(0:Int)<(m:Int)+1:=by omega
  go_enter Tryz.func61,Tryz.ntmps61
  go_wp2_with fail
  refine(Mv 121 _ Tryz.call121 e.args s D _ (H.out.old ((bA).alloc (by simp) _)) (fun x=> !Iy m x) ?_).mono ?_
  ·intro x s' w1 _ hb hx
   exact deep_fn m ih.out D x s' w1 hx _ (Ad hb (by simp)) (by omega)
  ·rintro r w1 ⟨rfl,hb⟩
   go_wp2_with fail
   go_ret
   exact⟨Bw (by simp [Iy,Zr]),((bA).alloc (by simp) _).trans (hb.mono (by simp;omega))⟩
theorem qT(o n:Int)(nm:Bs)(s:Value)(w:World):
  Calls Zb 122 #[.agg #[.int .i64 1,.int .i64 o,.int .i64 n,.string (Aa nm),s]] w fun r w'=>r= .returned (.tuple #[.agg #[.int .i64 1,.int .i64 0,.int .i64 n,.string (Aa []),.slice none 0 0],.int .i64 0,.bool (decide (0≤n))])∧Below w.heap.size w w':=by
 go_enter Zi,Zj
 go_wp2_with fail
 go_region
 go_wp2_with fail
 all_goals(refine bodyPost_ret (v:= .tuple #[.agg #[.int .i64 1,.int .i64 0,.int .i64 n,.string (Aa []),.slice none 0 0],.int .i64 0,.bool (decide (0≤n))]) (by simp [results,Zk,go_sem]) rfl ⟨rfl,?_⟩)
 all_goals(repeat(first|exact Zd _ _|refine Zh ?_ (by simp) _|refine Zn ?_ |refine Zm ?_ (by simp) _))
theorem pO(o n:Int)(nm:Bs)(s:Value)(w:World):
  Calls Zb 122 #[.agg #[.int .i64 2,.int .i64 o,.int .i64 n,.string (Aa nm),s]] w fun r w'=>r= .returned (.tuple #[.agg #[.int .i64 2,.int .i64 0,.int .i64 0,.string (Aa nm),.slice none 0 0],.int .i64 0,.bool (Aq nm)])∧Below w.heap.size w w':=by
 go_enter Zi,Zj
 go_wp2_with fail
 go_region_held3 (fun w'=>w'.cell? ⟨w.heap.size,3,none⟩=some (.string (Aa nm))∧w'.cell? ⟨w.heap.size+1,0,none⟩=some (.int .i64 2)∧w'.cell? ⟨w.heap.size+1,1,none⟩=some (.int .i64 0)∧w'.cell? ⟨w.heap.size+1,2,none⟩=some (.int .i64 0)∧w'.cell? ⟨w.heap.size+1,3,none⟩=some (.string (Aa nm))∧w'.cell? ⟨w.heap.size+1,4,none⟩=some (.slice none 0 0)) (first|(simp [*,Bl,Zc];done)|go_keep) (first|(go_at_call 112;refine(Le _ _).mono ?_;rintro e w1 ⟨he,hb⟩;subst he;obtain⟨hc,hf⟩:=Te hb;have hz:w.heap.size+1<w1.heap.size:=(by have:=hb.size;simp at this;omega);have g03:w1.cell? ⟨w.heap.size,3,none⟩=some (.string (Aa nm)):=Ad hb (by simp [Zc]);have g10:w1.cell? ⟨w.heap.size+1,0,none⟩=some (.int .i64 2):=Ad hb (by simp [Zc]);have g11:w1.cell? ⟨w.heap.size+1,1,none⟩=some (.int .i64 0):=Ad hb (by simp [Zc]);have g12:w1.cell? ⟨w.heap.size+1,2,none⟩=some (.int .i64 0):=Ad hb (by simp [Zc]);have g13:w1.cell? ⟨w.heap.size+1,3,none⟩=some (.string (Aa nm)):=Ad hb (by simp [Zc]);have g14:w1.cell? ⟨w.heap.size+1,4,none⟩=some (.slice none 0 0):=Ad hb (by simp [Zc])))
 go_wp2_with fail
 all_goals(refine bodyPost_ret (v:= .tuple #[.agg #[.int .i64 2,.int .i64 0,.int .i64 0,.string (Aa nm),.slice none 0 0],.int .i64 0,.bool (Aq nm)]) (by simp [results,Zk,go_sem,hc]) rfl ⟨rfl,?_⟩)
 all_goals(repeat(refine Zh ?_ (by simp) _))
 all_goals(exact((bA).alloc (by simp) _).drew.trans (hb.mono (by simp;omega)))
theorem jF(n:Int)(nm:Bs)(s:Value)(w:World):
  Calls Zb 122 #[.agg #[.int .i64 3,.int .i64 17,.int .i64 n,.string (Aa nm),s]] w fun r w'=>r= .returned (.tuple #[.agg #[.int .i64 3,.int .i64 17,.int .i64 0,.string (Aa []),.slice none 0 0],.int .i64 1,.bool true])∧Below w.heap.size w w':=by
 go_enter Zi,Zj
 go_wp2_with fail
 go_region
 go_wp2_with fail
 all_goals(refine bodyPost_ret (v:= .tuple #[.agg #[.int .i64 3,.int .i64 17,.int .i64 0,.string (Aa []),.slice none 0 0],.int .i64 1,.bool true]) (by simp [results,Zk,go_sem]) rfl ⟨rfl,?_⟩)
 all_goals(repeat(first|exact Zd _ _|refine Zh ?_ (by simp) _|refine Zn ?_ |refine Zm ?_ (by simp) _))
theorem gO(n:Int)(nm:Bs)(s:Value)(w:World):
  Calls Zb 122 #[.agg #[.int .i64 3,.int .i64 18,.int .i64 n,.string (Aa nm),s]] w fun r w'=>r= .returned (.tuple #[.agg #[.int .i64 3,.int .i64 18,.int .i64 0,.string (Aa []),.slice none 0 0],.int .i64 1,.bool true])∧Below w.heap.size w w':=by
 go_enter Zi,Zj
 go_wp2_with fail
 go_region
 go_wp2_with fail
 all_goals(refine bodyPost_ret (v:= .tuple #[.agg #[.int .i64 3,.int .i64 18,.int .i64 0,.string (Aa []),.slice none 0 0],.int .i64 1,.bool true]) (by simp [results,Zk,go_sem]) rfl ⟨rfl,?_⟩)
 all_goals(repeat(first|exact Zd _ _|refine Zh ?_ (by simp) _|refine Zn ?_ |refine Zm ?_ (by simp) _))
theorem gW(n:Int)(nm:Bs)(s:Value)(w:World):
  Calls Zb 122 #[.agg #[.int .i64 3,.int .i64 19,.int .i64 n,.string (Aa nm),s]] w fun r w'=>r= .returned (.tuple #[.agg #[.int .i64 3,.int .i64 19,.int .i64 0,.string (Aa []),.slice none 0 0],.int .i64 1,.bool true])∧Below w.heap.size w w':=by
 go_enter Zi,Zj
 go_wp2_with fail
 go_region
 go_wp2_with fail
 all_goals(refine bodyPost_ret (v:= .tuple #[.agg #[.int .i64 3,.int .i64 19,.int .i64 0,.string (Aa []),.slice none 0 0],.int .i64 1,.bool true]) (by simp [results,Zk,go_sem]) rfl ⟨rfl,?_⟩)
 all_goals(repeat(first|exact Zd _ _|refine Zh ?_ (by simp) _|refine Zn ?_ |refine Zm ?_ (by simp) _))
theorem pT(o n:Int)(nm:Bs)(s:Value)(w:World)(h1:o≠17)(h2:o≠18)(h3:o≠19):
  Calls Zb 122 #[.agg #[.int .i64 3,.int .i64 o,.int .i64 n,.string (Aa nm),s]] w fun r w'=>r= .returned (.tuple #[.agg #[.int .i64 3,.int .i64 o,.int .i64 0,.string (Aa []),.slice none 0 0],.int .i64 1,.bool false])∧Below w.heap.size w w':=by
 have k1:(o==17)=false:=by simpa using h1
 have k2:(o==18)=false:=by simpa using h2
 have k3:(o==19)=false:=by simpa using h3
 clear h1 h2 h3;go_enter Zi,Zj
 go_wp2_with fail
 go_region
 go_wp2_with fail
 all_goals(refine bodyPost_ret (v:= .tuple #[.agg #[.int .i64 3,.int .i64 o,.int .i64 0,.string (Aa []),.slice none 0 0],.int .i64 1,.bool false]) (by simp [results,Zk,go_sem]) rfl ⟨rfl,?_⟩)
 all_goals(repeat(first|exact Zd _ _|refine Zh ?_ (by simp) _|refine Zn ?_ |refine Zm ?_ (by simp) _))
theorem qP(o n:Int)(nm:Bs)(s:Value)(w:World):
  Calls Zb 122 #[.agg #[.int .i64 4,.int .i64 o,.int .i64 n,.string (Aa nm),s]] w fun r w'=>r= .returned (.tuple #[.agg #[.int .i64 4,.int .i64 o,.int .i64 0,.string (Aa []),.slice none 0 0],.int .i64 2,.bool (decide (0<Al o))])∧Below w.heap.size w w':=by
 go_enter Zi,Zj
 go_wp2_with fail
 go_region_held3 (fun w'=>w'.cell? ⟨w.heap.size,1,none⟩=some (.int .i64 o)∧w'.cell? ⟨w.heap.size+1,0,none⟩=some (.int .i64 4)∧w'.cell? ⟨w.heap.size+1,1,none⟩=some (.int .i64 o)∧w'.cell? ⟨w.heap.size+1,2,none⟩=some (.int .i64 0)∧w'.cell? ⟨w.heap.size+1,3,none⟩=some (.string (Aa []))∧w'.cell? ⟨w.heap.size+1,4,none⟩=some (.slice none 0 0)) (first|(simp [*,Bl,Zc];done)|go_keep) (first|(go_at_call 74;refine(Jo _ _).mono ?_;rintro e w1 ⟨he,hb⟩;subst he;obtain⟨hc,hf⟩:=Te hb;have hz:w.heap.size+1<w1.heap.size:=(by have:=hb.size;simp at this;omega);have g01:w1.cell? ⟨w.heap.size,1,none⟩=some (.int .i64 o):=Ad hb (by simp [Zc]);have g10:w1.cell? ⟨w.heap.size+1,0,none⟩=some (.int .i64 4):=Ad hb (by simp [Zc]);have g11:w1.cell? ⟨w.heap.size+1,1,none⟩=some (.int .i64 o):=Ad hb (by simp [Zc]);have g12:w1.cell? ⟨w.heap.size+1,2,none⟩=some (.int .i64 0):=Ad hb (by simp [Zc]);have g13:w1.cell? ⟨w.heap.size+1,3,none⟩=some (.string (Aa [])):=Ad hb (by simp [Zc]);have g14:w1.cell? ⟨w.heap.size+1,4,none⟩=some (.slice none 0 0):=Ad hb (by simp [Zc])))
 go_wp2_with fail
 all_goals(refine bodyPost_ret (v:= .tuple #[.agg #[.int .i64 4,.int .i64 o,.int .i64 0,.string (Aa []),.slice none 0 0],.int .i64 2,.bool (decide (0<Al o))]) (by simp [results,Zk,go_sem,hc]) rfl ⟨rfl,?_⟩)
 all_goals(repeat(refine Zh ?_ (by simp) _))
 all_goals(exact((bA).alloc (by simp) _).drew.trans (hb.mono (by simp;omega)))
theorem oP(o n:Int)(nm:Bs)(a:Option Addr)(len cap:Nat)(hn:Aq nm=true)(w:World):
  Calls Zb 122 #[.agg #[.int .i64 5,.int .i64 o,.int .i64 n,.string (Aa nm),.slice a len cap]] w fun r w'=>r= .returned (.tuple #[.agg #[.int .i64 5,.int .i64 0,.int .i64 0,.string (Aa nm),.slice none 0 0],.int .i64 len,.bool (decide ((len:Int)≤6))])∧Below w.heap.size w w':=by
 go_enter Zi,Zj
 go_wp2_with fail
 go_region_held3 (fun w'=>w'.cell? ⟨w.heap.size,3,none⟩=some (.string (Aa nm))∧w'.cell? ⟨w.heap.size,4,none⟩=some (.slice a len cap)∧w'.cell? ⟨w.heap.size+1,0,none⟩=some (.int .i64 5)∧w'.cell? ⟨w.heap.size+1,1,none⟩=some (.int .i64 0)∧w'.cell? ⟨w.heap.size+1,2,none⟩=some (.int .i64 0)∧w'.cell? ⟨w.heap.size+1,3,none⟩=some (.string (Aa nm))∧w'.cell? ⟨w.heap.size+1,4,none⟩=some (.slice none 0 0)) (first|(simp [*,Bl,Zc];done)|go_keep) (first|(go_at_call 112;refine(Le _ _).mono ?_;rintro e w1 ⟨he,hb⟩;rw[hn]at he;subst he;obtain⟨hc,hf⟩:=Te hb;have hz:w.heap.size+1<w1.heap.size:=(by have:=hb.size;simp at this;omega);have g03:w1.cell? ⟨w.heap.size,3,none⟩=some (.string (Aa nm)):=Ad hb (by simp [Zc]);have g04:w1.cell? ⟨w.heap.size,4,none⟩=some (.slice a len cap):=Ad hb (by simp [Zc]);have g10:w1.cell? ⟨w.heap.size+1,0,none⟩=some (.int .i64 5):=Ad hb (by simp [Zc]);have g11:w1.cell? ⟨w.heap.size+1,1,none⟩=some (.int .i64 0):=Ad hb (by simp [Zc]);have g12:w1.cell? ⟨w.heap.size+1,2,none⟩=some (.int .i64 0):=Ad hb (by simp [Zc]);have g13:w1.cell? ⟨w.heap.size+1,3,none⟩=some (.string (Aa nm)):=Ad hb (by simp [Zc]);have g14:w1.cell? ⟨w.heap.size+1,4,none⟩=some (.slice none 0 0):=Ad hb (by simp [Zc])))
 go_wp2_with fail
 all_goals(refine bodyPost_ret (v:= .tuple #[.agg #[.int .i64 5,.int .i64 0,.int .i64 0,.string (Aa nm),.slice none 0 0],.int .i64 len,.bool (decide ((len:Int)≤6))]) (by simp [results,Zk,go_sem,hc]) rfl ⟨rfl,?_⟩)
 all_goals(repeat(refine Zh ?_ (by simp) _))
 all_goals(exact((bA).alloc (by simp) _).drew.trans (hb.mono (by simp;omega)))
theorem jW(o n:Int)(nm:Bs)(a:Option Addr)(len cap:Nat)(hn:Aq nm=false)(w:World):
  Calls Zb 122 #[.agg #[.int .i64 5,.int .i64 o,.int .i64 n,.string (Aa nm),.slice a len cap]] w fun r w'=>r= .returned (.tuple #[.agg #[.int .i64 5,.int .i64 0,.int .i64 0,.string (Aa nm),.slice none 0 0],.int .i64 len,.bool false])∧Below w.heap.size w w':=by
 go_enter Zi,Zj
 go_wp2_with fail
 refine wp_region_held_drew (S:=(fun w'=>w'.cell? ⟨w.heap.size,3,none⟩=some (.string (Aa nm))∧w'.cell? ⟨w.heap.size,4,none⟩=some (.slice a len cap)∧w'.cell? ⟨w.heap.size+1,0,none⟩=some (.int .i64 5)∧w'.cell? ⟨w.heap.size+1,1,none⟩=some (.int .i64 0)∧w'.cell? ⟨w.heap.size+1,2,none⟩=some (.int .i64 0)∧w'.cell? ⟨w.heap.size+1,3,none⟩=some (.string (Aa nm))∧w'.cell? ⟨w.heap.size+1,4,none⟩=some (.slice none 0 0))) (by kernel_rfl) ?_ (fun hHeld=> ?_)
 ·(first|(simp [*,Bl,Zc];done)|go_keep)
 refine wpAnyH_take (i:=0) (v:= ?_) rfl (by kernel_rfl) (by kernel_rfl) (by kernel_rfl) (fun _ _ _ h=>h) (Or.inl ⟨rfl,?_⟩) (by assumption) ?_;rotate_left 1
 ·intro w hSw;(try dsimp only at hSw);go_simp;(try with_reducible rfl)
 (try simp only[Act.put,Ze,Zf,Zg]);refine wpAnyH_take (i:=1) (v:= ?_) rfl (by kernel_rfl) (by kernel_rfl) (by kernel_rfl) (fun _ _ _ h=>h) (Or.inl ⟨rfl,?_⟩) (by assumption) ?_;rotate_left 1
 ·intro w hSw;(try dsimp only at hSw);go_simp;(try with_reducible rfl)
 (try simp only[Act.put,Ze,Zf,Zg]);refine wpAnyH_take (i:=2) (v:= ?_) rfl (by kernel_rfl) (by kernel_rfl) (by kernel_rfl) (fun _ _ _ h=>h) (Or.inl ⟨rfl,?_⟩) (by assumption) ?_;rotate_left 1
 ·intro w hSw;(try dsimp only at hSw);go_simp;(try with_reducible rfl)
 (try simp only[Act.put,Ze,Zf,Zg]);refine wpAnyH_take (i:=3) (v:= ?_) rfl (by kernel_rfl) (by kernel_rfl) (by kernel_rfl) (fun _ _ _ h=>h) (Or.inl ⟨rfl,?_⟩) (by assumption) ?_;rotate_left 1
 ·intro w hSw;(try dsimp only at hSw);go_simp;(try with_reducible rfl)
 (try simp only[Act.put,Ze,Zf,Zg]);refine wpAnyH_take (i:=4) (v:= ?_) rfl (by kernel_rfl) (by kernel_rfl) (by kernel_rfl) (fun _ _ _ h=>h) (Or.inl ⟨rfl,?_⟩) (by assumption) ?_;rotate_left 1
 ·intro w hSw;(try dsimp only at hSw);go_simp;(try with_reducible rfl)
 (try simp only[Act.put,Ze,Zf,Zg]);refine wpAnyH_take (i:=5) (v:= ?_) rfl (by kernel_rfl) (by kernel_rfl) (by kernel_rfl) (fun _ _ _ h=>h) (Or.inl ⟨rfl,?_⟩) (by assumption) ?_;rotate_left 1
 ·intro w hSw;(try dsimp only at hSw);go_simp;(try with_reducible rfl)
 (try simp only[Act.put,Ze,Zf,Zg]);refine wpAnyH_ready (rs:=[6]) (by kernel_rfl) (by simp) ?_;refine AllReadyH.cons rfl (fun K hK=> ?_) AllReadyH.nil;(try simp only[Zs,Zt,Zu]);go_simp;go_at_call 112;refine(Le _ _).mono ?_;rintro e w1 ⟨he,hb⟩;rw[hn]at he;subst he;obtain⟨hc,hf⟩:=Te hb;have hz:w.heap.size+1<w1.heap.size:=(by have:=hb.size;simp at this;omega);have g03:w1.cell? ⟨w.heap.size,3,none⟩=some (.string (Aa nm)):=Ad hb (by simp [Zc]);have g04:w1.cell? ⟨w.heap.size,4,none⟩=some (.slice a len cap):=Ad hb (by simp [Zc]);have g10:w1.cell? ⟨w.heap.size+1,0,none⟩=some (.int .i64 5):=Ad hb (by simp [Zc]);have g11:w1.cell? ⟨w.heap.size+1,1,none⟩=some (.int .i64 0):=Ad hb (by simp [Zc]);have g12:w1.cell? ⟨w.heap.size+1,2,none⟩=some (.int .i64 0):=Ad hb (by simp [Zc]);have g13:w1.cell? ⟨w.heap.size+1,3,none⟩=some (.string (Aa nm)):=Ad hb (by simp [Zc]);have g14:w1.cell? ⟨w.heap.size+1,4,none⟩=some (.slice none 0 0):=Ad hb (by simp [Zc])
 refine hK.out _ _ ?_ (fun hHeld=> ?_)
 ·(try dsimp only);(first|(simp [*,Bl,Zc];done)|go_keep)
 clear hK K;(try simp only[Act.put,Ze,Zf,Zg]);refine wpAnyH_take (i:=7) (v:= ?_) rfl (by kernel_rfl) (by kernel_rfl) (by kernel_rfl) (fun _ _ _ h=>h) (Or.inl ⟨rfl,?_⟩) (by assumption) ?_;rotate_left 1
 ·intro w hSw;(try dsimp only at hSw);go_simp;(try with_reducible rfl)
 (try simp only[Act.put,Ze,Zf,Zg]);refine wpAnyH_take (i:=8) rfl (by kernel_rfl) (by kernel_rfl) (by kernel_rfl) (fun _ _ _ h=>h) (Or.inr ⟨rfl,rfl⟩) (by assumption) ?_;(try simp only[Act.put,Ze,Zf,Zg]);refine wpAnyH_take (i:=9) rfl (by kernel_rfl) (by kernel_rfl) (by kernel_rfl) (fun _ _ _ h=>h) (Or.inr ⟨rfl,rfl⟩) (by assumption) ?_;(try simp only[Act.put,Ze,Zf,Zg]);refine wpAnyH_take (i:=10) rfl (by kernel_rfl) (by kernel_rfl) (by kernel_rfl) (fun _ _ _ h=>h) (Or.inr ⟨rfl,rfl⟩) (by assumption) ?_;(try simp only[Act.put,Ze,Zf,Zg]);refine wpAnyH_take (i:=11) rfl (by kernel_rfl) (by kernel_rfl) (by kernel_rfl) (fun _ _ _ h=>h) (Or.inr ⟨rfl,rfl⟩) (by assumption) ?_;(try simp only[Act.put,Ze,Zf,Zg]);refine wpAnyH_take (i:=12) (v:= ?_) rfl (by kernel_rfl) (by kernel_rfl) (by kernel_rfl) (fun _ _ _ h=>h) (Or.inl ⟨rfl,?_⟩) (by assumption) ?_;rotate_left 1
 ·intro w hSw;(try dsimp only at hSw);go_simp;(try with_reducible rfl)
 (try simp only[Act.put,Ze,Zf,Zg]);refine wpAnyH_ready (rs:=[13]) (by kernel_rfl) (by simp) ?_;refine AllReadyH.cons rfl (fun K hK=> ?_) AllReadyH.nil;(try simp only[Zs,Zt,Zu]);go_simp
 refine hK.out _ _ ?_ (fun hHeld=> ?_)
 ·(try dsimp only);(first|(simp [*,Bl,Zc];done)|go_keep)
 clear hK K;(try simp only[Act.put,Ze,Zf,Zg]);refine wpAnyH_ready (rs:=[14]) (by kernel_rfl) (by simp) ?_;refine AllReadyH.cons rfl (fun K hK=> ?_) AllReadyH.nil;(try simp only[Zs,Zt,Zu]);go_simp
 refine hK.out _ _ ?_ (fun hHeld=> ?_)
 ·(try dsimp only);(first|(simp [*,Bl,Zc];done)|go_keep)
 clear hK K;(try simp only[Act.put,Ze,Zf,Zg]);refine wpAnyH_ready (rs:=[15]) (by kernel_rfl) (by simp) ?_;refine AllReadyH.cons rfl (fun K hK=> ?_) AllReadyH.nil;(try simp only[Zs,Zt,Zu]);go_simp
 refine hK.out _ _ ?_ (fun hHeld=> ?_)
 ·(try dsimp only);(first|(simp [*,Bl,Zc];done)|go_keep)
 clear hK K;(try simp only[Act.put,Ze,Zf,Zg]);refine wpAnyH_done (by kernel_rfl) ?_ _;go_wp2_with fail
 all_goals(refine bodyPost_ret (v:= .tuple #[.agg #[.int .i64 5,.int .i64 0,.int .i64 0,.string (Aa nm),.slice none 0 0],.int .i64 len,.bool false]) (by simp [results,Zk,go_sem,hc]) rfl ⟨rfl,?_⟩)
 all_goals(repeat(refine Zh ?_ (by simp) _))
 all_goals(exact((bA).alloc (by simp) _).drew.trans (hb.mono (by simp;omega)))
theorem iQ(o n:Int)(nm:Bs)(s:Value)(w:World):
  Calls Zb 122 #[.agg #[.int .i64 6,.int .i64 o,.int .i64 n,.string (Aa nm),s]] w fun r w'=>r= .returned (.tuple #[.agg #[.int .i64 6,.int .i64 0,.int .i64 0,.string (Aa nm),.slice none 0 0],.int .i64 1,.bool (Aq nm)])∧Below w.heap.size w w':=by
 go_enter Zi,Zj
 go_wp2_with fail
 go_region_held3 (fun w'=>w'.cell? ⟨w.heap.size,3,none⟩=some (.string (Aa nm))∧w'.cell? ⟨w.heap.size+1,0,none⟩=some (.int .i64 6)∧w'.cell? ⟨w.heap.size+1,1,none⟩=some (.int .i64 0)∧w'.cell? ⟨w.heap.size+1,2,none⟩=some (.int .i64 0)∧w'.cell? ⟨w.heap.size+1,3,none⟩=some (.string (Aa nm))∧w'.cell? ⟨w.heap.size+1,4,none⟩=some (.slice none 0 0)) (first|(simp [*,Bl,Zc];done)|go_keep) (first|(go_at_call 112;refine(Le _ _).mono ?_;rintro e w1 ⟨he,hb⟩;subst he;obtain⟨hc,hf⟩:=Te hb;have hz:w.heap.size+1<w1.heap.size:=(by have:=hb.size;simp at this;omega);have g03:w1.cell? ⟨w.heap.size,3,none⟩=some (.string (Aa nm)):=Ad hb (by simp [Zc]);have g10:w1.cell? ⟨w.heap.size+1,0,none⟩=some (.int .i64 6):=Ad hb (by simp [Zc]);have g11:w1.cell? ⟨w.heap.size+1,1,none⟩=some (.int .i64 0):=Ad hb (by simp [Zc]);have g12:w1.cell? ⟨w.heap.size+1,2,none⟩=some (.int .i64 0):=Ad hb (by simp [Zc]);have g13:w1.cell? ⟨w.heap.size+1,3,none⟩=some (.string (Aa nm)):=Ad hb (by simp [Zc]);have g14:w1.cell? ⟨w.heap.size+1,4,none⟩=some (.slice none 0 0):=Ad hb (by simp [Zc])))
 go_wp2_with fail
 all_goals(refine bodyPost_ret (v:= .tuple #[.agg #[.int .i64 6,.int .i64 0,.int .i64 0,.string (Aa nm),.slice none 0 0],.int .i64 1,.bool (Aq nm)]) (by simp [results,Zk,go_sem,hc]) rfl ⟨rfl,?_⟩)
 all_goals(repeat(refine Zh ?_ (by simp) _))
 all_goals(exact((bA).alloc (by simp) _).drew.trans (hb.mono (by simp;omega)))
theorem nW(o n:Int)(nm:Bs)(s:Value)(w:World):
  Calls Zb 122 #[.agg #[.int .i64 7,.int .i64 o,.int .i64 n,.string (Aa nm),s]] w fun r w'=>r= .returned (.tuple #[.agg #[.int .i64 7,.int .i64 0,.int .i64 0,.string (Aa []),.slice none 0 0],.int .i64 0,.bool true])∧Below w.heap.size w w':=by
 go_enter Zi,Zj
 go_wp2_with fail
 all_goals(refine bodyPost_ret (v:= .tuple #[.agg #[.int .i64 7,.int .i64 0,.int .i64 0,.string (Aa []),.slice none 0 0],.int .i64 0,.bool true]) (by simp [results,Zk,go_sem]) rfl ⟨rfl,?_⟩)
 all_goals(repeat(first|exact Zd _ _|refine Zh ?_ (by simp) _|refine Zn ?_ |refine Zm ?_ (by simp) _))
theorem iE(k:Int)(h1:(k==1)=false)(h2:(k==2)=false)(h3:(k==3)=false)(h4:(k==4)=false)(h5:(k==5)=false)(h6:(k==6)=false)(h7:(k==7)=false)(o n:Int)(nm:Bs)(s:Value)(w:World):
  Calls Zb 122 #[.agg #[.int .i64 k,.int .i64 o,.int .i64 n,.string (Aa nm),s]] w fun r w'=>r= .returned (.tuple #[.agg #[.int .i64 k,.int .i64 0,.int .i64 0,.string (Aa []),.slice none 0 0],.int .i64 0,.bool false])∧Below w.heap.size w w':=by
 go_enter Zi,Zj
 go_wp2_with fail
 all_goals(refine bodyPost_ret (v:= .tuple #[.agg #[.int .i64 k,.int .i64 0,.int .i64 0,.string (Aa []),.slice none 0 0],.int .i64 0,.bool false]) (by simp [results,Zk,go_sem]) rfl ⟨rfl,?_⟩)
 all_goals(repeat(first|exact Zd _ _|refine Zh ?_ (by simp) _|refine Zn ?_ |refine Zm ?_ (by simp) _))
theorem sM(e:Ex)(a:Option Addr)(cap:Nat)(w:World):
  Calls Zb 122 #[exV e (.slice a e.args.length cap)] w fun r w'=>r= .returned (.tuple #[.agg #[.int .i64 e.kind,.int .i64 (Ic e),.int .i64 (Kk e),.string (Aa (Ek e)),.slice none 0 0],.int .i64 (Dr e),.bool (Ha e)])∧Below w.heap.size w w':=by
 obtain⟨k,o,n,nm,args⟩:=e;show Calls _ _ #[.agg #[.int .i64 k,.int .i64 o,.int .i64 n,.string (Aa nm),.slice a args.length cap]] _ _
 have key:∀ {R R':Ending→World→Prop},R=R'→Calls Zb 122 #[.agg #[.int .i64 k,.int .i64 o,.int .i64 n,.string (Aa nm),.slice a args.length cap]] w R→Calls Zb 122 #[.agg #[.int .i64 k,.int .i64 o,.int .i64 n,.string (Aa nm),.slice a args.length cap]] w R':=fun h=>h ▸ id
 by_cases h1:k=1
 ·subst h1;exact qT _ _ _ _ _
 by_cases h2:k=2
 ·subst h2;exact pO _ _ _ _ _
 by_cases h3:k=3
 ·subst h3
  by_cases q1:o=17
  ·subst q1;exact jF _ _ _ _
  by_cases q2:o=18
  ·subst q2;exact gO _ _ _ _
  by_cases q3:o=19
  ·subst q3;exact gW _ _ _ _
  refine key ?_ (pT o n nm _ w q1 q2 q3);simp [Ic,Kk,Ek,Dr,Ha,Ex.kind,Ex.op,q1,q2,q3]
 by_cases h4:k=4
 ·subst h4;exact qP _ _ _ _ _
 by_cases h5:k=5
 ·subst h5
  cases hn:Aq nm
  ·refine key ?_ (jW o n nm a args.length cap hn w)
   simp [Ic,Kk,Ek,Dr,Ha,Ex.kind,Ex.name,Ex.args,hn]
  ·refine key ?_ (oP o n nm a args.length cap hn w)
   simp [Ic,Kk,Ek,Dr,Ha,Ex.kind,Ex.name,Ex.args,hn];rfl
 by_cases h6:k=6
 ·subst h6;exact iQ _ _ _ _ _
 by_cases h7:k=7
 ·subst h7;exact nW _ _ _ _ _
 refine key ?_ (iE k (by simpa using h1) (by simpa using h2) (by simpa using h3) (by simpa using h4) (by simpa using h5) (by simpa using h6) (by simpa using h7) o n nm _ w);simp [Ic,Kk,Ek,Dr,Ha,Ex.kind,h1,h2,h3,h4,h5,h6,h7]
def bL(e:Ex):Prop:= ∀(D:Nat→Prop) (s:Value) (w:World),Ag D w e.args s→
 Calls Zb 62 #[exV e s] w fun r w'=>r= .returned (.bool (Ck e))∧Below w.heap.size w w'
theorem well_fn(e:Ex)(ih:bL e)(D:Nat→Prop)(s:Value)(w:World)(h:Ag D w e.args s):
  Calls Zb 123 #[exV e s] w fun r w'=>r= .returned (.bool (!Ck e))∧Below w.heap.size w w':=by
 have H:=Za h;clear h;have IH:=Za ih;clear ih;go_enter Tryz.func123,Tryz.ntmps123
 go_wp2_with fail
 refine(IH.out D s _ (H.out.old (bA))).mono ?_;rintro r w1 ⟨rfl,hb⟩;go_wp2_with fail
 go_ret
 exact⟨rfl,(bA).trans (hb.mono (by simp))⟩
theorem oF(e:Ex)(ih:∀x,x∈e.args→bL x):bL e:=by
 intro D s w h;have H:=Za h;have IH:=Za ih;clear ih;generalize hl:e.args=l at h
 cases h with
 |mk _ a cap b off sv hcap hfit ha h0 h1 h2 h3 h4 hs=>
  subst hl;clear hcap hfit ha h0 h1 h2 h3 h4 hs;have HO:=Za (sM e a cap ((w.alloc (.cells #[.int .i64 e.kind,.int .i64 e.op,.int .i64 e.n,.string (Aa e.name),.slice a e.args.length cap] 27))));go_enter Tryz.func62,Tryz.ntmps62
  go_wp2_with fail
  refine HO.out.mono ?_;rintro r w1 ⟨rfl,hb⟩;obtain⟨hc,hf⟩:=Te hb;have hz:w.heap.size<w1.heap.size:=by have:=hb.size;simp at this;omega
  go_wp2_with fail
  ·refine(Mv 123 #[] Tryz.call123 e.args _ D _ (((H.out.old (bA)).old hb).old (bA)) (fun x=> !Ck x) ?_).mono ?_
   ·intro x s' w2 hx _ hs
    exact well_fn x (IH.out x hx) D s' w2 hs
   ·rintro r w2 ⟨rfl,hb2⟩
    go_wp2_with fail
    go_ret
    refine⟨Bw ?_,(((bA).trans (hb.mono (by simp))).alloc (by omega) _).trans (hb2.mono (by simp;omega))⟩;rw[Kv];simp [Db, *,Zr]
  all_goals
   go_ret
   refine⟨Bw ?_,((bA).trans (hb.mono (by simp))).alloc (by omega) _⟩;rw[Kv];simp [Db, *]
theorem dE:∀(n:Nat) (e:Ex),SizeOf.sizeOf e≤n→bL e
 |0,e,h=>by cases e;simp at h
 |n+1,e,h=>oF e fun x hx=>dE n x (by have:=Ex.size_lt hx;omega)
theorem Pg(e:Ex)(D:Nat→Prop)(s:Value)(w:World)(h:Ag D w e.args s):
  Calls Zb 28 #[exV e s] w fun r w'=>r= .returned (.bool (Et e))∧Below w.heap.size w w':=by
 have H:=Za h;clear h;have E:Hid (Et e=(Iy 40 e && Ck e)):=rfl;go_enter Tryz.func28,Tryz.ntmps28
 go_wp2_with fail
 refine(eG 40 (by omega) D e s _ (H.out.old (bA))).mono ?_;rintro r w1 ⟨rfl,hb⟩;obtain⟨hc,hf⟩:=Te hb
 cases hd:Iy 40 e
 ·have HD:=Za hd;clear hd
  go_wp2_with fail
  go_ret
  exact⟨Bw (by rw[E.out,HD.out];rfl),(bA).trans (hb.mono (by simp))⟩
 ·have HD:=Za hd;clear hd
  go_wp2_with fail
  refine(dE _ e (Zl _) D s _ ((H.out.old (bA)).old hb)).mono ?_;rintro r w2 ⟨rfl,hb2⟩;go_wp2_with fail
  go_ret
  exact⟨Bw (by rw[E.out,HD.out];rfl),(bA).trans ((hb.mono (by simp)).trans (hb2.mono (by have:=hb.size;simp at this;omega)))⟩
theorem lV {Ix:Type}(F:Ix→World){P:Program}{id:Nat}{Q:Exit→Act→World→Prop}{a:Act}{w:World}{l:List Oper}(hm:P.follows .mixedOrders=true)(hB:Region.lexB .any l.toArray=true)(hC:∃n,w.drew=F n)
  (h:wpQuiet P l.toArray (fun w'=> ∃n,w'=F n) (fun a'=> ∀w',(∃n,w'=F n)→Q .normal a' w') l a):(Code.region id l.toArray true).wp P Q a w:=
 wp_region_quiet (C:=fun w'=> ∃n,w'=F n) hm hB hC (by simpa using h)
abbrev Lat(w:World):Type:= {w':World // Below w.heap.size w w'}
theorem lat_fun(wr:World):∃(Ix:Type) (_:Nonempty Ix) (F:Ix→World),Hid (∀n,Below wr.heap.size wr (F n))∧Hid (∀w',Below wr.heap.size wr w'→∃n,w'=F n):=⟨Lat wr,⟨⟨wr,Zd _ _⟩⟩,fun n=>n.1,fun n=>n.2,fun w' h=>⟨⟨w',h⟩,rfl⟩⟩
theorem sX {a b c d:Bool}{n:Int}{k:Int}(h1:a=Ei k)(h2:n=Dw k)(h3:b=Iq k)(h4:c=Iu k)(h5:d=fOk k):
  Ending.returned (.tuple #[.agg #[.bool a,.int .i64 n,.bool b,.bool c],.bool d])= .returned (.tuple #[.agg #[.bool (Ei k),.int .i64 (Dw k),.bool (Iq k),.bool (Iu k)],.bool (fOk k)]):=by
 subst h1 h2 h3 h4 h5;rfl
theorem gP(k:Int)(w:World):
  Calls Zb 160 #[.int .i64 k] w fun r w'=>r= .returned (.tuple #[.agg #[.bool (Ei k),.int .i64 (Dw k),.bool (Iq k),.bool (Iu k)],.bool (fOk k)])∧Below w.heap.size w w':=by
 go_enter Tryz.func160,Tryz.ntmps160
 go_wp2
 all_goals(refine bodyPost_ret (by simp [results,Tryz.results160,go_sem];rfl) rfl ?_)
 all_goals(refine⟨sX ?_ ?_ ?_ ?_ ?_,by repeat(first|exact Zd _ _|refine Zh ?_ (by simp) _|refine Zm ?_ (Zl _) _)⟩)
 all_goals(simp only[beq_iff_eq,beq_eq_false_iff_ne,ne_eq]at*;simp [Ei,Dw,Iq,Iu,fOk, *]<;>omega)
theorem head_eq {l:List Ex}(h:0<l.length):l[0]=l.headD (.mk 0 0 0 [] []):=by cases l with|nil=>simp at h|cons x l=>rfl
theorem kT {α:Type}(l:List α):decide (0<l.length)= !l.isEmpty:=by cases l<;>simp
theorem stmt_fn(e:Ex)(D:Nat→Prop)(s:Value)(w:World)(h:Ag D w e.args s):
  Calls Zb 161 #[exV e s] w fun r w'=>r= .returned (.bool (!Et e))∧Below w.heap.size w w':=by
 have H:=Za h;clear h;go_enter Tryz.func161,Tryz.ntmps161
 go_wp2_with fail
 refine(Pg e D s _ (H.out.old (bA))).mono ?_;rintro r w1 ⟨rfl,hb⟩;go_wp2_with fail
 go_ret
 exact⟨rfl,(bA).trans (hb.mono (by simp))⟩
def rR(m:Nat):Prop:= ∀(D:Nat→Prop) (l:List St) (v:Value) (w:World),Az D w l v→
 Calls Zb 50 #[v,.int .i64 m] w fun r w'=>r= .returned (.bool (l.all (Ed m)))∧Below w.heap.size w w'
def StOf(m:Nat):Prop:= ∀(D:Nat→Prop) (x:St) (a t e:Value) (w:World),Ag D w x.args a→Az D w x.thn t→Az D w x.els e→
 Calls Zb 115 #[stV x a t e,.int .i64 m] w fun r w'=>r= .returned (.bool (Ed m x))∧Below w.heap.size w w'
set_option maxHeartbeats 20000000 in
theorem Xt(m:Nat)(hm:m≤1000)(ih:0<m→rR (m - 1)):StOf m:=by
 intro D x a0 t0 e0 w ha ht he;have IH:=Za ih;clear ih;have HA:=Za ha;have HT:=Za ht;have HE:=Za he;clear ha ht he;obtain⟨aa,ca,rfl⟩:∃aa ca,a0= .slice aa x.args.length ca:=HA.out.shape;obtain⟨at',ct,rfl⟩:∃aa ca,t0= .slice aa x.thn.length ca:=HT.out.shape;obtain⟨ae,ce,rfl⟩:∃aa ca,e0= .slice aa x.els.length ca:=HE.out.shape;have hm1:(m:Int)≤1000:=by omega
 have hm0:(0:Int)≤m:=by omega
 go_enter Tryz.func115,Tryz.ntmps115
 go_upto_region 2 with(first|(go_at_call 160;refine(gP _ _).mono ?_;rintro e w1 ⟨rfl,hb⟩;obtain⟨hc,hf⟩:=Te hb;have hz:w.heap.size<w1.heap.size:=(by have:=hb.size;simp at this;omega)))
 go_cut [6,48] (fun _ s48 wx=>s48= .bool (Jb m x)∧wx=w1.alloc (.cells #[.bool (Ei x.kind),.int .i64 (Dw x.kind),.bool (Iq x.kind),.bool (Iu x.kind)] 184))
 case first=>
  cases b0:fOk x.kind
  ·go_wp2_with fail
   go_meet;exact⟨by simp [Jb,b0],rfl⟩
  cases b1:((m:Int)==0)
  case true=>
   go_wp2_with fail
   go_meet;exact⟨by simp [Jb,b1],rfl⟩
  cases b2:((x.args.length:Int)==Dw x.kind)
  ·have b2':((x.args.length:Int) !=Dw x.kind)=true:=by simp [bne,b2]
   go_wp2_with fail
   go_meet;exact⟨by simp [Jb,b2],rfl⟩
  have b2':((x.args.length:Int) !=Dw x.kind)=false:=by simp [bne,b2]
  have t1:=kT x.thn;have e1:=kT x.els
  cases b3:Iq x.kind<;>cases b4:x.thn.isEmpty<;>cases b5:Iu x.kind<;>cases b6:x.els.isEmpty
  all_goals
   rw[b4]at t1;rw[b6]at e1;have E:Hid (Jb m x=((!Iq x.kind && !x.thn.isEmpty)||(!Iu x.kind && !x.els.isEmpty))):=(by show _=_;simp [Jb,b0,b1,b2]);rw[b3,b4,b5,b6]at E;clear b4 b6;simp only[Bool.not_true,Bool.not_false]at t1 e1;go_wp2_with fail
   go_meet;exact⟨by rw[E.out];rfl,by rw[b3,b5]⟩
 case rest=>
  obtain⟨rfl,rfl⟩:=hcut;have hBW:Below w.heap.size w (w1.alloc (.cells #[.bool (Ei x.kind),.int .i64 (Dw x.kind),.bool (Iq x.kind),.bool (Iu x.kind)] 184)):=
   ((bA).trans (hb.mono (by simp))).alloc (by omega) _
  have f0:(w1.alloc (.cells #[.bool (Ei x.kind),.int .i64 (Dw x.kind),.bool (Iq x.kind),.bool (Iu x.kind)] 184)).cell? ⟨w1.heap.size,0,none⟩=some (.bool (Ei x.kind)):=by simp
  have k0:=Ad ((Zd w1.heap.size w1).alloc (Zl _) (.cells #[.bool (Ei x.kind),.int .i64 (Dw x.kind),.bool (Iq x.kind),.bool (Iu x.kind)] 184)) (a:=⟨w.heap.size,0,none⟩) (x:= .int .i64 x.kind) (Ad hb (by simp));have k1:=Ad ((Zd w1.heap.size w1).alloc (Zl _) (.cells #[.bool (Ei x.kind),.int .i64 (Dw x.kind),.bool (Iq x.kind),.bool (Iu x.kind)] 184)) (a:=⟨w.heap.size,1,none⟩) (x:= .string (Aa x.name)) (Ad hb (by simp));have k2:=Ad ((Zd w1.heap.size w1).alloc (Zl _) (.cells #[.bool (Ei x.kind),.int .i64 (Dw x.kind),.bool (Iq x.kind),.bool (Iu x.kind)] 184)) (a:=⟨w.heap.size,2,none⟩) (x:= .slice aa x.args.length ca) (Ad hb (by simp));have k3:=Ad ((Zd w1.heap.size w1).alloc (Zl _) (.cells #[.bool (Ei x.kind),.int .i64 (Dw x.kind),.bool (Iq x.kind),.bool (Iu x.kind)] 184)) (a:=⟨w.heap.size,3,none⟩) (x:= .slice at' x.thn.length ct) (Ad hb (by simp));have k4:=Ad ((Zd w1.heap.size w1).alloc (Zl _) (.cells #[.bool (Ei x.kind),.int .i64 (Dw x.kind),.bool (Iq x.kind),.bool (Iu x.kind)] 184)) (a:=⟨w.heap.size,4,none⟩) (x:= .slice ae x.els.length ce) (Ad hb (by simp));have hz2:w1.heap.size<(w1.alloc (.cells #[.bool (Ei x.kind),.int .i64 (Dw x.kind),.bool (Iq x.kind),.bool (Iu x.kind)] 184)).heap.size:=by simp
  clear hb hc hf;generalize w1.alloc (.cells #[.bool (Ei x.kind),.int .i64 (Dw x.kind),.bool (Iq x.kind),.bool (Iu x.kind)] 184)=W2 at hBW f0 k0 k1 k2 k3 k4 hz2 ⊢;have HBW:=Za hBW;clear hBW
  cases q1:Jb m x
  case true=>
   have Q1:=Za q1;clear q1;go_wp2_with fail
   go_ret
   refine⟨Bw ?_,HBW.out⟩
   cases m with
   |zero=>rfl
   |succ m=>
    have q:=Q1.out;rw[show((m+1:Nat):Int)=(m:Int)+1 from by omega]at q;simp only[Ed,q];rfl
  have Q1:=Za q1;clear q1;go_upto_region 4 with(fail)
  go_cut [77] (fun s77 wx=>s77= .bool (Pq x)∧Below W2.heap.size W2 wx)
  case first=>
   have E:Hid (Pq x=(!(Ei x.kind==Aq x.name)||(!Ei x.kind && !(x.name==[]))||(x.kind==10 && !((x.args.headD (.mk 0 0 0 [] [])).kind==5)))):=rfl;obtain⟨Ix,hIx,F,HFB,HFI⟩:=lat_fun W2;have HCL:Hid (∀n,Calls Zb 112 #[.string (Aa x.name)] (F n) fun e w'=>e= .returned (.bool (Aq x.name))∧∃m,w'=F m):=fun n=>by
    refine(Le x.name (F n)).mono ?_;rintro e w' ⟨he,hb⟩;exact⟨he,HFI.out w' ((HFB.out n).trans (hb.mono (HFB.out n).size))⟩
   have g0:∀n,(F n).cell? ⟨w1.heap.size,0,none⟩=some (.bool (Ei x.kind)):=fun n=>Ad (HFB.out n) f0
   have g1:∀n,(F n).cell? ⟨w.heap.size,0,none⟩=some (.int .i64 x.kind):=fun n=>Ad (HFB.out n) k0
   have g2:∀n,(F n).cell? ⟨w.heap.size,1,none⟩=some (.string (Aa x.name)):=fun n=>Ad (HFB.out n) k1
   have g3:∀n,(F n).cell? ⟨w.heap.size,2,none⟩=some (.slice aa x.args.length ca):=fun n=>Ad (HFB.out n) k2
   have HST:Hid (∃n,W2.drew=F n):=HFI.out _ (Zd _ _).drew;refine lV F (by kernel_rfl) (by kernel_rfl) HST.out ?_;have fin:∀ {K:Act→World→Prop} {a:Act},(∀n,K a (F n))→∀w',(∃n,w'=F n)→K a w':=fun h w' ⟨n,e⟩=>e ▸ h n
   cases n1:Ei x.kind<;>cases n2:Aq x.name
   all_goals
    rw[n1,n2]at E;rw[n1]at g0;rw[n2]at HCL;clear k0 k1 k2 k3 k4 f0
   case false.false=>
    cases n4:(x.name==[])
    ·rw[n4]at E
     have n5:x.name.isEmpty=false:=by simpa using n4
     repeat(go_big_quiet_step ((go_at_call 112;exact HCL.out _)))
     refine wpQuiet_nil (fin fun nq=> ?_);go_wp2_with fail
     go_meet;exact⟨by rw[E.out];rfl,HFB.out nq⟩
    ·have n5:x.name.isEmpty=true:=by simpa using n4
     rw[n4]at E;clear n4
     cases n3:(x.kind==10)
     ·rw[n3]at E
      repeat(go_big_quiet_step ((go_at_call 112;exact HCL.out _)))
      refine wpQuiet_nil (fin fun nq=> ?_);go_wp2_with fail
      go_meet;exact⟨by rw[E.out];rfl,HFB.out nq⟩
     ·rw[n3]at E
      have hlen:x.args.length=1:=by
       have q:=Q1.out;simp [Jb,show x.kind=10 by simpa using n3,Dw,fOk,Iq,Iu]at q;omega
      obtain⟨b,off,rfl,z⟩:=HA.out.cell0 (by omega);have g4:∀n,(F n).cell? ⟨b,off,none⟩=some (.int .i64 (Bz x.args 0).kind):=fun n=>Ad (HFB.out n) (Ad HBW.out z)
      have hl0:0<x.args.length:=by omega
      clear hlen z
      repeat(go_big_quiet_step ((go_at_call 112;exact HCL.out _)))
      refine wpQuiet_nil (fin fun nq=> ?_);go_wp2_with fail
      go_meet;exact⟨by rw[E.out,←head_eq hl0];simp [bne],HFB.out nq⟩
   case true.true=>
    have n3:(x.kind==10)=false:=by simp [Ei]at n1;simp;omega
    rw[n3]at E
    repeat(go_big_quiet_step ((go_at_call 112;exact HCL.out _)))
    refine wpQuiet_nil (fin fun nq=> ?_);go_wp2_with fail
    go_meet;exact⟨by rw[E.out];rfl,HFB.out nq⟩
   all_goals
    repeat(go_big_quiet_step ((go_at_call 112;exact HCL.out _)))
    refine wpQuiet_nil (fin fun nq=> ?_);go_wp2_with fail
    go_meet;exact⟨by rw[E.out];rfl,HFB.out nq⟩
  case rest=>
   obtain⟨rfl,hb2⟩:=hcut;have HB2:=Za (HBW.out.trans (hb2.mono (by have:=HBW.out.size;omega)));have j2:=Ad hb2 k2;have j3:=Ad hb2 k3;have j4:=Ad hb2 k4;have hs2:=hb2.size;clear f0 k0 k1 k2 k3 k4 hb2
   cases q2:Pq x
   case true=>
    have Q2:=Za q2;clear q2;go_wp2_with fail
    go_ret
    refine⟨Bw ?_,HB2.out⟩
    cases m with
    |zero=>rfl
    |succ m=>simp [Ed,Q2.out]
   have Q2:=Za q2;clear q2;have hmp:Hid (0<m):=by
    cases m with
    |zero=>have q:=Q1.out;simp [Jb]at q
    |succ m=>exact Nat.succ_pos m
   obtain⟨m',hm'⟩:∃m',m=m'+1:=⟨m - 1,by have:=hmp.out;omega⟩;have EM:Hid (Ed m x=(!Jb m x && !Pq x && x.args.all Et && x.thn.all (Ed (m - 1)) && x.els.all (Ed (m - 1)))):=by
    show _=_
    subst hm';simp only[Ed,Nat.add_sub_cancel];rw[show((m'+1:Nat):Int)=(m':Int)+1 from by omega]
   clear hm';have hsub:Hid (((m - 1:Nat):Int)=(m:Int) - 1):=by show _=_;have:=hmp.out;omega
   have hm2:1≤(m:Int):=by have:=hmp.out;omega
   go_wp2_with fail
   refine(Mv 161 #[] Tryz.call161 x.args _ D _ (HA.out.old HB2.out) (fun e=> !Et e) (fun e s' w3 _ _ hs=>stmt_fn e D s' w3 hs)).mono ?_;rintro r w3 ⟨rfl,hb3⟩;have l3:=Ad hb3 j3;have l4:=Ad hb3 j4;have HB3:=Za (HB2.out.trans (hb3.mono (by omega)));have hs3:=hb3.size;clear j2 j3 j4 hb3;have A1:x.args.any (fun e=> !Et e)= !x.args.all Et:=by simp [Zr]
   rw[A1];clear A1
   cases qa:x.args.all Et
   ·have QA:=Za qa;clear qa
    go_wp2_with fail
    go_ret
    exact⟨Bw (by rw[EM.out,QA.out];simp),HB3.out⟩
   have QA:=Za qa;clear qa;go_wp2_with fail
   rw[←hsub.out];refine(IH.out hmp.out D x.thn _ _ (HT.out.old HB3.out)).mono ?_;rintro r w4 ⟨rfl,hb4⟩;have m4:=Ad hb4 l4;have HB4:=Za (HB3.out.trans (hb4.mono (by omega)));have hs4:=hb4.size;clear l3 l4 hb4
   cases qt:x.thn.all (Ed (m - 1))
   ·have QT:=Za qt;clear qt
    go_wp2_with fail
    go_ret
    exact⟨Bw (by rw[EM.out,QA.out,QT.out];simp),HB4.out⟩
   have QT:=Za qt;clear qt;go_wp2_with fail
   rw[←hsub.out];refine(IH.out hmp.out D x.els _ _ (HE.out.old HB4.out)).mono ?_;rintro r w5 ⟨rfl,hb5⟩;have HB5:=Za (HB4.out.trans (hb5.mono (by omega)));clear m4 hb5;go_wp2_with fail
   go_ret
   exact⟨Bw (by rw[EM.out,QA.out,QT.out,Q1.out,Q2.out];simp),HB5.out⟩
theorem pQ(m:Nat)(hm:m≤1000)(ih:StOf m)(D:Nat→Prop)(x:St)(a t e:Value)(w:World)(ha:Ag D w x.args a)(ht:Az D w x.thn t)(he:Az D w x.els e)(B:Nat)(hB:w.cell? ⟨B,0,none⟩=some (.int .i64 m)):
  Calls Zb 114 #[stV x a t e,.pointer (some ⟨B,0,none⟩)] w fun r w'=>r= .returned (.bool (!Ed m x))∧Below w.heap.size w w':=by
 have HA:=Za ha;have HT:=Za ht;have HE:=Za he;clear ha ht he;have hBl:B<w.heap.size:=World.block_lt_of_cell? _ _ hB;go_enter Tryz.func114,Tryz.ntmps114
 go_wp2_with fail
 refine(ih D x a t e _ (HA.out.old (bA)) (HT.out.old (bA)) (HE.out.old (bA))).mono ?_;rintro r w1 ⟨rfl,hb⟩;go_wp2_with fail
 go_ret
 exact⟨rfl,(bA).trans (hb.mono (by simp))⟩
theorem Wl(m:Nat)(hm:m≤1000)(ih:StOf m):rR m:=by
 intro D l v w h;have H:=Za h;clear h;have IH:=Za ih;clear ih;go_enter Tryz.func50,Tryz.ntmps50
 go_wp2_with fail
 refine(bU 114 _ Tryz.call114 l v D _ (H.out.old (bA)) (fun x=> !Ed m x) ?_).mono ?_
 ·intro x a t e w1 _ hb ha ht he
  exact pQ m hm IH.out D x a t e w1 ha ht he _ (Ad hb (by simp))
 ·rintro r w1 ⟨rfl,hb⟩
  go_wp2_with fail
  go_ret
  exact⟨Bw (by simp [Zr]),(bA).trans (hb.mono (by simp))⟩
theorem eP:∀m,m≤1000→StOf m∧rR m
 |0,h=>have a:=Xt 0 h (fun h=>by omega);⟨a,Wl 0 h a⟩
 |m+1,h=>have a:=Xt (m+1) h (fun _=>(eP m (by omega)).2);⟨a,Wl (m+1) h a⟩
theorem qI(s:Bs)(w:World):
  Calls Zb 111 #[.string (Aa s)] w fun r w'=>r= .returned (.bool (!Aq s))∧Below w.heap.size w w':=by
 go_enter Tryz.func111,Tryz.ntmps111
 go_wp2_with fail
 refine(Le s _).mono ?_;rintro r w1 ⟨rfl,hb⟩;go_wp2_with fail
 go_ret
 exact⟨rfl,hb⟩
theorem On(l:List Bs)(v:Value)(D:Nat→Prop)(w:World)(h:Be D w l v):
  Calls Zb 49 #[v] w fun r w'=>r= .returned (.bool (l.all Aq))∧Below w.heap.size w w':=by
 obtain⟨a,cap,b,off,rfl,h1,h2,h3,h4⟩:=h;have HC:=Za (Xk a l.length cap 111 #[] Tryz.call111 w (fun i=> .string (Aa (l.getD i []))) (fun i=> !Aq (l.getD i [])) (h2).out
  (h3.imp id fun h=>⟨b,off,h.1,h4⟩) (fun i _ w1 _=>qI _ w1))
 clear h1 h2 h3 h4;have E:Hid ((!Nw (fun i=> !Aq (l.getD i [])) l.length)=l.all Aq):=by
  show _=_
  rw[Sa (fun s=> !Aq s) _ l (fun i hi=>by simp [Zq hi])];simp [Zr]
 go_enter Tryz.func49,Tryz.ntmps49
 go_wp2_with fail
 refine HC.out.mono ?_;rintro r w1 ⟨rfl,hb⟩;go_wp2_with fail
 go_ret
 exact⟨Bw E.out,hb⟩
theorem Yt(p:Pr)(D:Nat→Prop)(sa sf:Value)(w:World)(ha:Ci D w p.arrays sa)(hf:Cf D w p.funcs sf):
  Calls Zb 24 #[.agg #[sa,sf]] w fun r w'=>r= .returned (.bool (Ff p))∧Below w.heap.size w w':=by
 obtain⟨aa,ca,ba,oa,rfl,a1,a2,a3,a4⟩:=ha;obtain⟨af,cf,bf,of',pv,lv,bv,rfl,f1,f2,f3,f4⟩:=hf;have la:=a2.lt;have lf:=f2.lt;have A3:=Za a3;have A4:=Za a4;have F3:=Za f3;have F4:=Za f4;have E:Hid (Ff p=(p.arrays.all Ds && p.funcs.all Ga)):=rfl;clear a1 a2 a3 a4 f1 f2 f3 f4;go_enter Tryz.func24,Tryz.ntmps24
 go_wp2_with fail
 have HW:Hid (Below w.heap.size w (w.alloc (.cells #[.slice aa p.arrays.length ca,.slice af p.funcs.length cf] 34))):=bA;have c1:(w.alloc (.cells #[.slice aa p.arrays.length ca,.slice af p.funcs.length cf] 34)).cell? ⟨w.heap.size,1,none⟩=some (.slice af p.funcs.length cf):=by simp
 have hz0:w.heap.size<(w.alloc (.cells #[.slice aa p.arrays.length ca,.slice af p.funcs.length cf] 34)).heap.size:=by simp
 generalize w.alloc (.cells #[.slice aa p.arrays.length ca,.slice af p.funcs.length cf] 34)=W at HW c1 hz0 ⊢
 go_loopw [2,4,10] (fun s2 _ s10 wr=> ∃k:Nat,k≤p.arrays.length∧s10= .int .i64 k∧s2= .bool false∧(∀i,i<k→Ds (Mq p.arrays i)=true)∧Below W.heap.size W wr) (fun _ _ s10 _=>p.arrays.length - (intOf s10).toNat)
 case atStart=>exact⟨0,Zo _,rfl,rfl,fun i hi=>by omega,Zd _ _⟩
 case round=>
  obtain⟨k,hk,rfl,rfl,hall,hb⟩:=hrel;have ALL:=Za hall;clear hall;have HB:=Za (HW.out.trans (hb.mono (by omega)));have HBW:=Za hb;have hzr:w.heap.size<wr.heap.size:=by have:=hb.size;omega
  have c2:=Ad hb c1;clear hb
  by_cases hlt:k<p.arrays.length
  ·obtain⟨rfl,_⟩:aa=some ⟨ba,oa,none⟩∧D ba:=by rcases A3.out with h|h;omega;exact h
   obtain⟨g0,g1⟩:=A4.out k hlt;have e0:=Ad HB.out g0;have e1:=Ad HB.out g1;clear g0 g1;generalize hAk:Mq p.arrays k=A at e0 e1;have HAK:=Za hAk;clear hAk;have RA:Hid (Ds A=(Aq A.name && decide (1≤A.size∧A.size≤1048576))):=rfl;go_wp2_with fail
   refine(On [A.name] _ (fun _=>True) _ ⟨some ⟨wr.heap.size+1,0,none⟩,1,wr.heap.size+1,0,rfl,Zl _,by show _≤_;simp,.inr ⟨rfl,trivial⟩,fun i hi=>by obtain rfl:i=0:=(by simp at hi;omega);simp⟩).mono ?_;rintro r w3 ⟨rfl,hb3⟩;have hbr:Below wr.heap.size wr w3:=((bA).alloc (by simp) _).trans (hb3.mono (by simp;omega));have d1:w3.cell? ⟨wr.heap.size,1,none⟩=some (.int .i64 A.size):=Ad hb3 (by simp [Zc]);have HBR:=Za hbr;have HB3:=Za (HB.out.trans (hbr.mono (by omega)));clear hb3 hbr;rw[show([A.name].all Aq)=Aq A.name from by simp];have bad:Hid (Ds A=false→Ff p=false):=fun h=>by
    rw[E.out,Qm p.arrays Ar.nil Ds k hlt (by rw[show p.arrays.getD k Ar.nil=A from HAK.out];exact h)];rfl
   cases q1:Aq A.name
   ·have Q1:=Za q1;clear q1
    go_wp2_with fail
    go_ret
    exact⟨Bw (bad.out (by rw[RA.out,Q1.out];rfl)).symm,HB3.out⟩
   have Q1:=Za q1;clear q1
   by_cases q2:1≤A.size
   ·by_cases q3:A.size≤1048576
    ·go_wp2_with fail
     go_roundw
     case rel=>
      refine⟨k+1,by omega,by go_num,rfl,fun i hi=> ?_,HBW.out.trans (HBR.out.mono HBW.out.size)⟩;rcases Zp.1 hi with h|rfl
      ·exact ALL.out i h
      ·rw[HAK.out,RA.out,Q1.out];simp [q2,q3]
     case measure=>simp [intOf];omega
    ·go_wp2_with fail
     go_ret
     exact⟨Bw (bad.out (by rw[RA.out,Q1.out];simp;omega)).symm,HB3.out⟩
   ·go_wp2_with fail
    go_ret
    exact⟨Bw (bad.out (by rw[RA.out,Q1.out];simp;omega)).symm,HB3.out⟩
  ·have hkn:k=p.arrays.length:=by omega
   have EA:Hid (p.arrays.all Ds=true):=Xp p.arrays Ar.nil Ds (fun i hi=>ALL.out i (by omega));clear hkn;go_wp2_with fail
   go_loopw [2,6,33] (fun s2 _ s33 wx=> ∃j:Nat,j≤p.funcs.length∧s33= .int .i64 j∧s2= .bool false∧(∀i,i<j→Ga (Ee p.funcs i)=true)∧Below wr.heap.size wr wx) (fun _ _ s33 _=>p.funcs.length - (intOf s33).toNat)
   case atStart=>exact⟨0,Zo _,rfl,rfl,fun i hi=>by omega,Zd _ _⟩
   case round=>
    clear c1 c2;obtain⟨j,hj,rfl,rfl,hall,hb⟩:=hrel;have ALF:=Za hall;clear hall
    rename World=>wx
    have HBX:=Za (HB.out.trans (hb.mono (by omega)));have HBY:=Za hb;clear hb
    by_cases hlj:j<p.funcs.length
    ·obtain⟨rfl,_⟩:af=some ⟨bf,of',none⟩∧D bf:=by rcases F3.out with h|h;omega;exact h
     obtain⟨⟨g0,g1,g2,g3⟩,gp,gl,gb⟩:=F4.out j hlj;have e0:=Ad HBX.out g0;have e1:=Ad HBX.out g1;have e2:=Ad HBX.out g2;have e3:=Ad HBX.out g3;have GP:=Za (gp.old HBX.out);have GL:=Za (gl.old HBX.out);have GB:=Za (gb.old HBX.out);clear g0 g1 g2 g3 gp gl gb;generalize hAk:Ee p.funcs j=A at e0 GP GL GB;generalize pv j=P1 at e1 GP;generalize lv j=L1 at e2 GL;generalize bv j=B1 at e3 GB;have HAK:=Za hAk;clear hAk;obtain⟨pa,pc,hpv⟩:∃a cap,P1= .slice a A.params.length cap:=by obtain⟨a,cap,_,_,h,_⟩:=GP.out;exact⟨a,cap,h⟩
     subst hpv;obtain⟨qa,qc,hqv⟩:∃a cap,L1= .slice a A.locals.length cap:=by obtain⟨a,cap,_,_,h,_⟩:=GL.out;exact⟨a,cap,h⟩
     subst hqv;obtain⟨ra,rc,hrv⟩:∃a cap,B1= .slice a A.body.length cap:=GB.out.shape;subst hrv;have RA:Hid (Ga A=(Aq A.name && A.params.all Aq && A.locals.all Aq && decide (A.params.length≤6) && A.body.all (Ed 40))):=rfl;have bad:Hid (Ga A=false→Ff p=false):=fun h=>by
      rw[E.out,EA.out,Qm p.funcs Fu.nil Ga j hlj (by rw[show p.funcs.getD j Fu.nil=A from HAK.out];exact h)];rfl
     go_wp2_with fail
     refine(On [A.name] _ (fun _=>True) _ ⟨some ⟨wx.heap.size+1,0,none⟩,1,wx.heap.size+1,0,rfl,Zl _,by show _≤_;simp,.inr ⟨rfl,trivial⟩,fun i hi=>by obtain rfl:i=0:=(by simp at hi;omega);simp⟩).mono ?_;rintro r w3 ⟨rfl,hb3⟩;have hbr:Below wx.heap.size wx w3:=((bA).alloc (by simp) _).trans (hb3.mono (by simp;omega));have d1:w3.cell? ⟨wx.heap.size,1,none⟩=some (.slice pa A.params.length pc):=Ad hb3 (by simp [Zc]);have d2:w3.cell? ⟨wx.heap.size,2,none⟩=some (.slice qa A.locals.length qc):=Ad hb3 (by simp [Zc]);have d3:w3.cell? ⟨wx.heap.size,3,none⟩=some (.slice ra A.body.length rc):=Ad hb3 (by simp [Zc]);have HBR:=Za hbr;have hs3:=hbr.size;clear hb3 hbr e0 e1 e2 e3;rw[show([A.name].all Aq)=Aq A.name from by simp];have HBZ:=Za (HBX.out.trans (HBR.out.mono (by have:=HBX.out.size;omega)))
     cases q1:Aq A.name
     ·have Q1:=Za q1;clear q1
      go_wp2_with fail
      go_ret
      exact⟨Bw (bad.out (by rw[RA.out,Q1.out];rfl)).symm,HBZ.out⟩
     have Q1:=Za q1;clear q1;go_wp2_with fail
     refine(On A.params _ D _ (GP.out.old HBR.out)).mono ?_;rintro r w4 ⟨rfl,hb4⟩;have HB4:=Za (HBR.out.trans (hb4.mono hs3));have k1:=Ad hb4 d1;have k2:=Ad hb4 d2;have k3:=Ad hb4 d3;have hs4:=hb4.size;clear hb4 d1 d2 d3;have HBZ4:=Za (HBX.out.trans (HB4.out.mono (by have:=HBX.out.size;omega)))
     cases q2:A.params.all Aq
     ·have Q2:=Za q2;clear q2
      go_wp2_with fail
      go_ret
      exact⟨Bw (bad.out (by rw[RA.out,Q2.out];simp)).symm,HBZ4.out⟩
     have Q2:=Za q2;clear q2;go_wp2_with fail
     refine(On A.locals _ D _ (GL.out.old HB4.out)).mono ?_;rintro r w5 ⟨rfl,hb5⟩;have HB5:=Za (HB4.out.trans (hb5.mono (by omega)));have m1:=Ad hb5 k1;have m3:=Ad hb5 k3;have hs5:=hb5.size;clear hb5 k1 k2 k3;have HBZ5:=Za (HBX.out.trans (HB5.out.mono (by have:=HBX.out.size;omega)))
     cases q3:A.locals.all Aq
     ·have Q3:=Za q3;clear q3
      go_wp2_with fail
      go_ret
      exact⟨Bw (bad.out (by rw[RA.out,Q3.out];simp)).symm,HBZ5.out⟩
     have Q3:=Za q3;clear q3
     by_cases q4:A.params.length≤6
     ·go_wp2_with fail
      refine((eP 40 (by omega)).2 D A.body _ _ (GB.out.old HB5.out)).mono ?_;rintro r w6 ⟨rfl,hb6⟩;have HB6:=Za (HB5.out.trans (hb6.mono (by omega)));clear hb6 m1 m3;have HBZ6:=Za (HBX.out.trans (HB6.out.mono (by have:=HBX.out.size;omega)))
      cases q5:A.body.all (Ed 40)
      ·have Q5:=Za q5;clear q5
       go_wp2_with fail
       go_ret
       exact⟨Bw (bad.out (by rw[RA.out,Q5.out];simp)).symm,HBZ6.out⟩
      ·have Q5:=Za q5;clear q5
       go_wp2_with fail
       go_roundw
       case rel=>
        refine⟨j+1,by omega,by go_num,rfl,fun i hi=> ?_,HBY.out.trans (HB6.out.mono HBY.out.size)⟩;rcases Zp.1 hi with h|rfl
        ·exact ALF.out i h
        ·rw[HAK.out,RA.out,Q1.out,Q2.out,Q3.out,Q5.out];simp [q4]
       case measure=>simp [intOf];omega
     ·have q4':6<A.params.length:=by omega
      go_wp2_with fail
      go_ret
      exact⟨Bw (bad.out (by rw[RA.out];simp [q4])).symm,HBZ5.out⟩
    ·have hjn:j=p.funcs.length:=by omega
     have EF:Hid (p.funcs.all Ga=true):=Xp p.funcs Fu.nil Ga (fun i hi=>ALF.out i (by omega));clear hjn;go_wp2_with fail
     go_ret
     exact⟨Bw (by rw[E.out,EA.out,EF.out];rfl),HBX.out⟩
end Go.Proofs.YtcfpfnoldgnloaaGreatDoor
