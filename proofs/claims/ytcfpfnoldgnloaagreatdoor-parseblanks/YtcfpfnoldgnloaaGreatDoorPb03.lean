/-
  tree.named and tree.Right: which programs may be. No condition beside the cells.
-/
import Derived.Test.YtcfpfnoldgnloaaGreatDoorPb00
import Derived.Laws.RangeAny
set_option linter.unusedVariables false
set_option linter.unusedSimpArgs false
namespace Go.Proofs.YtcfpfnoldgnloaaGreatDoor
open Go.RowKit Go.Proofs.Tryz
set_option maxHeartbeats 20000000
set_option maxRecDepth 100000
open Go.Lib renaming hid→Za
open Go.Proofs.Tryz renaming prog→Zb,func122→Zi,ntmps122→Zj,results122→Zk
open World renaming cell?_alloc_lt→Zc
open Below renaming refl→Zd,setCell→Zh,alloc→Zm,drew→Zn
open List renaming setIfInBounds_toArray→Ze,set_cons_zero→Zf,set_cons_succ→Zg,getElem?_eq_getElem→Zq,any_eq_not_all_not→Zr,getElem_toArray→Zs,getElem_cons_succ→Zt,getElem_cons_zero→Zu
open Nat renaming le_refl→Zl,zero_le→Zo,lt_succ_iff_lt_or_eq→Zp
def Gk(r:Int):Bool:=decide (r=95∨(97≤r∧r≤122)∨(65≤r∧r≤90))
def Hw(r:Int):Bool:=decide (48≤r∧r≤57)
theorem Iz(r:Int)(w:World):
  Calls Zb 89 #[.int .i32 r] w fun e w'=>e=.returned (.bool (Gk r))∧w=w':=by
 go_enter func89,ntmps89
 go_wp2
 all_goals go_ret
 all_goals(refine⟨Au ?_,rfl⟩;rw[Bool.eq_iff_iff];simp [Gk];omega)
theorem Mv(r:Int)(w:World):
  Calls Zb 91 #[.int .i32 r] w fun e w'=>e=.returned (.bool (Hw r))∧w=w':=by
 go_enter func91,ntmps91
 go_wp2
 all_goals go_ret
 all_goals(refine⟨Au ?_,rfl⟩;rw[Bool.eq_iff_iff];simp [Hw];omega)
theorem Wi(l:Bs)(w:World):
  Calls Zb 144 #[.string (Aa l)] w fun e w'=>e=.returned (.bool (Ia l))∧w=w':=by
 go_enter func144,ntmps144
 go_wp2
 all_goals go_ret
 all_goals(refine⟨Au ?_,rfl⟩;simp_all [Ia,gX])
theorem Lx(c:UInt8):Gk (c.toNat:Nat)=Cc c:=by
 rw[Bool.eq_iff_iff];simp [Gk,Cc,UInt8.le_iff_toNat_le,←UInt8.toNat_inj];omega
theorem Lm(c:UInt8):Hw (c.toNat:Nat)=Bn c:=by
 rw[Bool.eq_iff_iff];simp [Hw,Bn,UInt8.le_iff_toNat_le];omega
theorem Rl {r:Nat}(h:128≤r):Gk r=false:=by simp [Gk];omega
theorem Vf {r:Nat}(h:128≤r):Hw r=false:=by simp [Hw];omega
theorem Yt {c:UInt8}(h:128≤c.toNat):Cc c=false:=by rw[←Lx];exact Rl h
theorem eN {c:UInt8}(h:128≤c.toNat):Bn c=false:=by rw[←Lm];exact Vf h
theorem decode_at(l:Bs)(k:Nat)(h:k<l.length):∃r d,Utf8.decode (Aa l) k=(r,d)∧1≤d∧Gk r=Cc l[k]∧Hw r=Bn l[k]∧(r<128→r=l[k].toNat∧d=1)∧r≤2147483647:=by
 have hs:k<(Aa l).size:=h;have he:(Aa l)[k]'hs=l[k]:=rfl;have hle:=decode_le (Aa l) k
 by_cases ha:((Aa l)[k]'hs).toNat<128
 ·rw[decode_ascii _ _ hs ha]at hle
  exact⟨_,_,decode_ascii _ _ hs ha,Zl _,by rw[he];exact Lx _,by rw[he];exact Lm _,fun _=>⟨by rw[he],rfl⟩,hle⟩
 ·have hh:=decode_high (Aa l) k hs (by omega)
  have h2:128≤l[k].toNat:=by rw[←he];omega
  generalize Utf8.decode (Aa l) k=q at hh hle ⊢;exact⟨q.1,q.2,rfl,hh.2,by rw[Rl hh.1,Yt h2],by rw[Vf hh.1,eN h2],fun h=>by omega,hle⟩
theorem Uv {r:Nat}(h:Gk r=true):r<128:=by simp [Gk]at h;omega
theorem Rf {r:Nat}(h:Hw r=true):r<128:=by simp [Hw]at h;omega
theorem rF(l:Bs)(h20:l.length≤20)(h0:l.isEmpty=false)(hw:Ia l=false)(w:World):
  Calls Zb 112 #[.string (Aa l)] w fun e w'=>e=.returned (.bool (Hi true l))∧Below w.heap.size w w':=by
 go_enter func112,ntmps112
 go_wp2_with (go_at_call 144;refine(Wi _ _).mono ?_;rintro e w1 ⟨rfl,rfl⟩)
 go_loopw [3,4] (fun _ _ wr=> ∃k:Nat,k≤l.length∧wr=w.iter (Aa l) k∧Hid (Hi true l=Hi (decide (k=0)) (l.drop k))) (fun _ _ wr=>l.length-wr.iterPos w.heap.size)
 case atStart=>exact⟨0,Zo _,rfl,rfl⟩
 case round=>
  obtain⟨k,hk,rfl,HI⟩:=hrel
  by_cases hlt:k<l.length
  ·have hnx:=fun ty=>run_next_any (P:=Zb) w (Aa l) k ty hlt
   obtain⟨r,d,hd,h1,hl,hdg,hlow,hr⟩:=decode_at l k hlt;rw[hd]at hnx;have HL:=Za hl;have HD:=Za hdg;have HLOW:=Za hlow;have HE:Hid (Hi (decide (k=0)) (l.drop k)=((Cc l[k]||(!decide (k=0) && Bn l[k])) && Hi false (l.drop (k+1)))):=by
    show _=_
    rw[List.drop_eq_getElem_cons hlt];rfl
   clear hl hdg hlow hd
   by_cases q:Gk r=true
   ·go_wp2_with (go_at_call 89;refine(Iz _ _).mono ?_;rintro e w1 ⟨rfl,rfl⟩)
    have h3:=HLOW.o (Uv q);obtain rfl:=h3.2;go_roundw
    case rel=>exact⟨k+1,by omega,rfl,by show _=_;rw[HI.o,HE.o,←HL.o,q];simp⟩
    case measure=>simp;omega
   ·have q':Gk r=false:=by simpa using q
    clear q
    by_cases z:k=0
    ·subst z
     go_wp2_with (go_at_call 89;refine(Iz _ _).mono ?_;rintro e w1 ⟨rfl,rfl⟩)
     go_ret
     exact⟨Au (by rw[HI.o,HE.o,←HL.o,q'];simp),bA⟩
    ·have z':((k:Int)==0)=false:=by simpa using z
     by_cases g:Hw r=true
     ·go_wp2_with (first|(go_at_call 89;refine(Iz _ _).mono ?_;rintro e w1 ⟨rfl,rfl⟩)|(go_at_call 91;refine(Mv _ _).mono ?_;rintro e w1 ⟨rfl,rfl⟩))
      have h3:=HLOW.o (Rf g);obtain rfl:=h3.2;go_roundw
      case rel=>exact⟨k+1,by omega,rfl,by show _=_;rw[HI.o,HE.o,←HL.o,←HD.o,q',g];simp [z]⟩
      case measure=>simp;omega
     ·have g':Hw r=false:=by simpa using g
      clear g;go_wp2_with (first|(go_at_call 89;refine(Iz _ _).mono ?_;rintro e w1 ⟨rfl,rfl⟩)|(go_at_call 91;refine(Mv _ _).mono ?_;rintro e w1 ⟨rfl,rfl⟩))
      go_ret
      exact⟨Au (by rw[HI.o,HE.o,←HL.o,←HD.o,q',g'];simp),bA⟩
  ·have hnx:=fun ty=>run_next_end (P:=Zb) w (Aa l) k ty hlt
   go_wp2_with fail
   go_ret
   exact⟨Au (by rw[HI.o,List.drop_eq_nil_of_le (by omega)];rfl),bA⟩
theorem Lu(l:Bs)(w:World):
  Calls Zb 112 #[.string (Aa l)] w fun e w'=>e=.returned (.bool (Am l))∧Below w.heap.size w w':=by
 by_cases h0:l=[]
 ·subst h0
  go_enter func112,ntmps112
  go_wp2_with fail
  go_ret
  exact⟨rfl,Zd _ _⟩
 ·have h0':l.isEmpty=false:=by simpa using h0
  by_cases h20:l.length≤20
  ·cases hw:Ia l
   ·have h:=rF l h20 h0' hw w
    have e:Am l=Hi true l:=by simp [Am,h0,h20,hw]
    rw[e];exact h
   ·go_enter func112,ntmps112
    go_wp2_with (go_at_call 144;refine(Wi _ _).mono ?_;rintro e w1 ⟨rfl,rfl⟩)
    go_ret
    exact⟨Au (by simp [Am,hw]),Zd _ _⟩
  ·have h20':20<l.length:=by omega
   go_enter func112,ntmps112
   go_wp2_with fail
   go_ret
   exact⟨Au (by simp [Am,h20]),Zd _ _⟩
theorem row_eq {s:ByteArray}{l op:Int}{F1 F2:Value}(hs:s=Aa (Aw op))(hl:l=Al op):
  ∃f1 f2,Ending.returned (.agg #[.string s,.int .i64 l,F1,F2])=.returned (.agg #[.string (Aa (Aw op)),.int .i64 (Al op),f1,f2]):=by
 subst hs hl;exact⟨_,_,rfl⟩
theorem cD(op:Int)(w:World):
  Calls Zb 128 #[.int .i64 op] w fun e w'=>(∃f1 f2,e=.returned (.agg #[.string (Aa (Aw op)),.int .i64 (Al op),f1,f2]))∧Below w.heap.size w w':=by
 go_enter func128,ntmps128
 go_wp2
 all_goals(refine bodyPost_ret (by simp [results,results128,go_sem];rfl) rfl ?_)
 all_goals(refine⟨row_eq ?_ ?_,by repeat(first|exact Zd _ _|refine Zm ?_ (Zl _) _)⟩)
 all_goals(simp only[beq_iff_eq,beq_eq_false_iff_ne,ne_eq]at*;simp [Aw,Al,Aa, *])
@[go_sem] theorem field_row0 (a b c d:Value) (w:World):(Instr.field 157 (.agg #[a,b,c,d]) 0).run Zb w=.ok a w:=by kernel_rfl
@[go_sem] theorem field_row1 (a b c d:Value) (w:World):(Instr.field 157 (.agg #[a,b,c,d]) 1).run Zb w=.ok b w:=by kernel_rfl
theorem Km(op:Int)(w:World):
  Calls Zb 74 #[.int .i64 op] w fun e w'=>e=.returned (.int .i64 (Al op))∧Below w.heap.size w w':=by
 go_enter func74,ntmps74
 go_wp2_with fail
 refine(cD op _).mono ?_;rintro e w1 ⟨⟨f1,f2,rfl⟩,hb⟩;go_wp2_with fail
 go_ret
 exact⟨rfl,hb⟩
theorem Ee(op:Int)(w:World):
  Calls Zb 71 #[.int .i64 op] w fun e w'=>e=.returned (.tuple #[.string (Aa (Aw op)),.bool (!(Aw op).isEmpty)])∧Below w.heap.size w w':=by
 go_enter func71,ntmps71
 go_wp2_with fail
 refine(cD op _).mono ?_;rintro e w1 ⟨⟨f1,f2,rfl⟩,hb⟩;go_wp2_with fail
 go_ret2
 exact⟨by simp [Aa],hb⟩
theorem mJ(b off n cap:Nat)(k:FuncId)(caps:Array Value)(hk:∀args w,(callFunc k args).run Zb w=.ok (.enter k args) w)(w:World)(c0 c1 c2 c3 c4:Nat→Value)(p:Nat→Bool)(hn:n≤140737488355328)
  (hc:∀i,i<n→w.cell? ⟨b,off+i*5,none⟩=some (c0 i)∧w.cell? ⟨b,off+i*5+1,none⟩=some (c1 i)∧w.cell? ⟨b,off+i*5+2,none⟩=some (c2 i)∧w.cell? ⟨b,off+i*5+3,none⟩=some (c3 i)∧w.cell? ⟨b,off+i*5+4,none⟩=some (c4 i))
  (hf:∀i,i<n→∀w1,Below w.heap.size w w1→Calls Zb k (#[.agg #[c0 i,c1 i,c2 i,c3 i,c4 i]]++caps) w1 fun e w2=>e=.returned (.bool (p i))∧Below w1.heap.size w1 w2):
  Calls Zb 164 #[.slice (some ⟨b,off,none⟩) n cap,.func (.func k) #[] caps] w fun e w'=>e=.returned (.int .i64 (Er p n))∧Below w.heap.size w w':=by
 have HF:=Za hf;clear hf;have HC:=Za hc;clear hc;have hn1:n<9223372036854775807:=by omega
 clear hn;go_enter func164,ntmps164
 go_wp2_with fail
 go_loopw [5,8] (fun _ i8 wr=> ∃j:Nat,j≤n∧i8=.int .i64 j∧(∀i,i<j→p i=false)∧Below w.heap.size w wr) (fun _ i8 _=>n-(intOf i8).toNat)
 case atStart=>exact⟨0,Zo _,rfl,fun i hi=>by omega,Zd _ _⟩
 case round=>
  obtain⟨j,hj,rfl,hno,hb⟩:=hrel;have HNO:=Za hno;clear hno
  by_cases hlt:j<n
  ·obtain⟨g0,g1,g2,g3,g4⟩:=HC.o j hlt
   have k0:=Ad hb g0;have k1:=Ad hb g1;have k2:=Ad hb g2;have k3:=Ad hb g3;have k4:=Ad hb g4;clear g0 g1 g2 g3 g4;have call:=HF.o j hlt wr hb;have HB:=Za hb;clear hb;have HCALL:=Za call;clear call;go_wp2_with fail
   refine HCALL.o.mono ?_
   cases hp:p j
   ·rintro e w2 ⟨rfl,hb2⟩
    have HP:=Za hp;clear hp;go_wp2_with fail
    go_roundw
    case rel=>exact⟨j+1,by omega,by go_num,fun i hi=>by rcases Zp.1 hi with h|rfl;exact HNO.o i h;exact HP.o,HB.o.trans (hb2.mono HB.o.size)⟩
    case measure=>simp [intOf];omega
   ·rintro e w2 ⟨rfl,hb2⟩
    have HP:=Za hp;clear hp;go_wp2_with fail
    go_ret
    exact⟨Iv (Pp p j HP.o HNO.o n hlt).symm,HB.o.trans (hb2.mono HB.o.size)⟩
  ·have hje:n≤j:=by omega
   have HB:=Za hb;clear hb;go_wp2_with fail
   go_ret
   exact⟨Iv (Kq p n (fun i hi=>HNO.o i (by omega))).symm,HB.o⟩
theorem gT(a:Option Addr)(cap:Nat)(f:Value)(w:World):
  Calls Zb 164 #[.slice a 0 cap,f] w fun e w'=>e=.returned (.int .i64 (-1))∧Below w.heap.size w w':=by
 go_enter func164,ntmps164
 go_wp2_with fail
 refine wp_loop_rounds 1 ?_;rw[rounds_succ];go_wp2_with fail
 go_ret
 exact⟨rfl,Zd _ _⟩
theorem aK(a:Option Addr)(n cap:Nat)(k:FuncId)(caps:Array Value)(hk:∀args w,(callFunc k args).run Zb w=.ok (.enter k args) w)(w:World)(c0 c1 c2 c3 c4:Nat→Value)(p:Nat→Bool)(hn:n≤140737488355328)
  (hc:n=0∨∃b off,a=some ⟨b,off,none⟩∧∀i,i<n→w.cell? ⟨b,off+i*5,none⟩=some (c0 i)∧w.cell? ⟨b,off+i*5+1,none⟩=some (c1 i)∧w.cell? ⟨b,off+i*5+2,none⟩=some (c2 i)∧w.cell? ⟨b,off+i*5+3,none⟩=some (c3 i)∧w.cell? ⟨b,off+i*5+4,none⟩=some (c4 i))
  (hf:∀i,i<n→∀w1,Below w.heap.size w w1→Calls Zb k (#[.agg #[c0 i,c1 i,c2 i,c3 i,c4 i]]++caps) w1 fun e w2=>e=.returned (.bool (p i))∧Below w1.heap.size w1 w2):
  Calls Zb 120 #[.slice a n cap,.func (.func k) #[] caps] w fun e w'=>e=.returned (.bool (Pi p n))∧Below w.heap.size w w':=by
 have H:Hid (Calls Zb 164 #[.slice a n cap,.func (.func k) #[] caps] w fun e w'=>e=.returned (.int .i64 (Er p n))∧Below w.heap.size w w'):=by
  rcases hc with rfl|⟨b,off,rfl,hc⟩
  ·exact gT _ _ _ _
  ·exact mJ b off n cap k caps hk w c0 c1 c2 c3 c4 p hn hc hf
 clear hc hf hk hn;have E:Hid (decide (0≤Er p n)=Pi p n):=Ml p n;generalize Er p n=r at H E;generalize Pi p n=q at E;go_enter func120,ntmps120
 go_wp2_with fail
 refine H.out.mono ?_;rintro e w1 ⟨rfl,hb⟩;go_wp2_with fail
 go_ret
 exact⟨Au E.out,hb⟩
theorem lV(b off n cap:Nat)(k:FuncId)(caps:Array Value)(hk:∀args w,(callFunc k args).run Zb w=.ok (.enter k args) w)(w:World)(c0 c1 c2 c3 c4:Nat→Value)(p:Nat→Bool)(hn:n≤140737488355328)
  (hc:∀i,i<n→w.cell? ⟨b,off+i*5,none⟩=some (c0 i)∧w.cell? ⟨b,off+i*5+1,none⟩=some (c1 i)∧w.cell? ⟨b,off+i*5+2,none⟩=some (c2 i)∧w.cell? ⟨b,off+i*5+3,none⟩=some (c3 i)∧w.cell? ⟨b,off+i*5+4,none⟩=some (c4 i))
  (hf:∀i,i<n→∀w1,Below w.heap.size w w1→Calls Zb k (#[.agg #[c0 i,c1 i,c2 i,c3 i,c4 i]]++caps) w1 fun e w2=>e=.returned (.bool (p i))∧Below w1.heap.size w1 w2):
  Calls Zb 159 #[.slice (some ⟨b,off,none⟩) n cap,.func (.func k) #[] caps] w fun e w'=>e=.returned (.int .i64 (Er p n))∧Below w.heap.size w w':=by
 have HF:=Za hf;clear hf;have HC:=Za hc;clear hc;have hn1:n<9223372036854775807:=by omega
 clear hn;go_enter func159,ntmps159
 go_wp2_with fail
 go_loopw [5,8] (fun _ i8 wr=> ∃j:Nat,j≤n∧i8=.int .i64 j∧(∀i,i<j→p i=false)∧Below w.heap.size w wr) (fun _ i8 _=>n-(intOf i8).toNat)
 case atStart=>exact⟨0,Zo _,rfl,fun i hi=>by omega,Zd _ _⟩
 case round=>
  obtain⟨j,hj,rfl,hno,hb⟩:=hrel;have HNO:=Za hno;clear hno
  by_cases hlt:j<n
  ·obtain⟨g0,g1,g2,g3,g4⟩:=HC.o j hlt
   have k0:=Ad hb g0;have k1:=Ad hb g1;have k2:=Ad hb g2;have k3:=Ad hb g3;have k4:=Ad hb g4;clear g0 g1 g2 g3 g4;have call:=HF.o j hlt wr hb;have HB:=Za hb;clear hb;have HCALL:=Za call;clear call;go_wp2_with fail
   refine HCALL.o.mono ?_
   cases hp:p j
   ·rintro e w2 ⟨rfl,hb2⟩
    have HP:=Za hp;clear hp;go_wp2_with fail
    go_roundw
    case rel=>exact⟨j+1,by omega,by go_num,fun i hi=>by rcases Zp.1 hi with h|rfl;exact HNO.o i h;exact HP.o,HB.o.trans (hb2.mono HB.o.size)⟩
    case measure=>simp [intOf];omega
   ·rintro e w2 ⟨rfl,hb2⟩
    have HP:=Za hp;clear hp;go_wp2_with fail
    go_ret
    exact⟨Iv (Pp p j HP.o HNO.o n hlt).symm,HB.o.trans (hb2.mono HB.o.size)⟩
  ·have hje:n≤j:=by omega
   have HB:=Za hb;clear hb;go_wp2_with fail
   go_ret
   exact⟨Iv (Kq p n (fun i hi=>HNO.o i (by omega))).symm,HB.o⟩
theorem fX(a:Option Addr)(cap:Nat)(f:Value)(w:World):
  Calls Zb 159 #[.slice a 0 cap,f] w fun e w'=>e=.returned (.int .i64 (-1))∧Below w.heap.size w w':=by
 go_enter func159,ntmps159
 go_wp2_with fail
 refine wp_loop_rounds 1 ?_;rw[rounds_succ];go_wp2_with fail
 go_ret
 exact⟨rfl,Zd _ _⟩
theorem aH(a:Option Addr)(n cap:Nat)(k:FuncId)(caps:Array Value)(hk:∀args w,(callFunc k args).run Zb w=.ok (.enter k args) w)(w:World)(c0 c1 c2 c3 c4:Nat→Value)(p:Nat→Bool)(hn:n≤140737488355328)
  (hc:n=0∨∃b off,a=some ⟨b,off,none⟩∧∀i,i<n→w.cell? ⟨b,off+i*5,none⟩=some (c0 i)∧w.cell? ⟨b,off+i*5+1,none⟩=some (c1 i)∧w.cell? ⟨b,off+i*5+2,none⟩=some (c2 i)∧w.cell? ⟨b,off+i*5+3,none⟩=some (c3 i)∧w.cell? ⟨b,off+i*5+4,none⟩=some (c4 i))
  (hf:∀i,i<n→∀w1,Below w.heap.size w w1→Calls Zb k (#[.agg #[c0 i,c1 i,c2 i,c3 i,c4 i]]++caps) w1 fun e w2=>e=.returned (.bool (p i))∧Below w1.heap.size w1 w2):
  Calls Zb 113 #[.slice a n cap,.func (.func k) #[] caps] w fun e w'=>e=.returned (.bool (Pi p n))∧Below w.heap.size w w':=by
 have H:Hid (Calls Zb 159 #[.slice a n cap,.func (.func k) #[] caps] w fun e w'=>e=.returned (.int .i64 (Er p n))∧Below w.heap.size w w'):=by
  rcases hc with rfl|⟨b,off,rfl,hc⟩
  ·exact fX _ _ _ _
  ·exact lV b off n cap k caps hk w c0 c1 c2 c3 c4 p hn hc hf
 clear hc hf hk hn;have E:Hid (decide (0≤Er p n)=Pi p n):=Ml p n;generalize Er p n=r at H E;generalize Pi p n=q at E;go_enter func113,ntmps113
 go_wp2_with fail
 refine H.out.mono ?_;rintro e w1 ⟨rfl,hb⟩;go_wp2_with fail
 go_ret
 exact⟨Au E.out,hb⟩
theorem jW(b off n cap:Nat)(k:FuncId)(caps:Array Value)(hk:∀args w,(callFunc k args).run Zb w=.ok (.enter k args) w)(w:World)(c0:Nat→Value)(p:Nat→Bool)(hn:n≤140737488355328)
  (hc:∀i,i<n→w.cell? ⟨b,off+i,none⟩=some (c0 i))
  (hf:∀i,i<n→∀w1,Below w.heap.size w w1→Calls Zb k (#[c0 i]++caps) w1 fun e w2=>e=.returned (.bool (p i))∧Below w1.heap.size w1 w2):
  Calls Zb 158 #[.slice (some ⟨b,off,none⟩) n cap,.func (.func k) #[] caps] w fun e w'=>e=.returned (.int .i64 (Er p n))∧Below w.heap.size w w':=by
 have HF:=Za hf;clear hf;have HC:=Za hc;clear hc;have hn1:n<9223372036854775807:=by omega
 clear hn;go_enter func158,ntmps158
 go_wp2_with fail
 go_loopw [5,8] (fun _ i8 wr=> ∃j:Nat,j≤n∧i8=.int .i64 j∧(∀i,i<j→p i=false)∧Below w.heap.size w wr) (fun _ i8 _=>n-(intOf i8).toNat)
 case atStart=>exact⟨0,Zo _,rfl,fun i hi=>by omega,Zd _ _⟩
 case round=>
  obtain⟨j,hj,rfl,hno,hb⟩:=hrel;have HNO:=Za hno;clear hno
  by_cases hlt:j<n
  ·have g0:=HC.o j hlt
   have k0:=Ad hb g0;clear g0;have call:=HF.o j hlt wr hb;have HB:=Za hb;clear hb;have HCALL:=Za call;clear call;go_wp2_with fail
   refine HCALL.o.mono ?_
   cases hp:p j
   ·rintro e w2 ⟨rfl,hb2⟩
    have HP:=Za hp;clear hp;go_wp2_with fail
    go_roundw
    case rel=>exact⟨j+1,by omega,by go_num,fun i hi=>by rcases Zp.1 hi with h|rfl;exact HNO.o i h;exact HP.o,HB.o.trans (hb2.mono HB.o.size)⟩
    case measure=>simp [intOf];omega
   ·rintro e w2 ⟨rfl,hb2⟩
    have HP:=Za hp;clear hp;go_wp2_with fail
    go_ret
    exact⟨Iv (Pp p j HP.o HNO.o n hlt).symm,HB.o.trans (hb2.mono HB.o.size)⟩
  ·have hje:n≤j:=by omega
   have HB:=Za hb;clear hb;go_wp2_with fail
   go_ret
   exact⟨Iv (Kq p n (fun i hi=>HNO.o i (by omega))).symm,HB.o⟩
theorem fZ(a:Option Addr)(cap:Nat)(f:Value)(w:World):
  Calls Zb 158 #[.slice a 0 cap,f] w fun e w'=>e=.returned (.int .i64 (-1))∧Below w.heap.size w w':=by
 go_enter func158,ntmps158
 go_wp2_with fail
 refine wp_loop_rounds 1 ?_;rw[rounds_succ];go_wp2_with fail
 go_ret
 exact⟨rfl,Zd _ _⟩
theorem aG(a:Option Addr)(n cap:Nat)(k:FuncId)(caps:Array Value)(hk:∀args w,(callFunc k args).run Zb w=.ok (.enter k args) w)(w:World)(c0:Nat→Value)(p:Nat→Bool)(hn:n≤140737488355328)
  (hc:n=0∨∃b off,a=some ⟨b,off,none⟩∧∀i,i<n→w.cell? ⟨b,off+i,none⟩=some (c0 i))
  (hf:∀i,i<n→∀w1,Below w.heap.size w w1→Calls Zb k (#[c0 i]++caps) w1 fun e w2=>e=.returned (.bool (p i))∧Below w1.heap.size w1 w2):
  Calls Zb 110 #[.slice a n cap,.func (.func k) #[] caps] w fun e w'=>e=.returned (.bool (Pi p n))∧Below w.heap.size w w':=by
 have H:Hid (Calls Zb 158 #[.slice a n cap,.func (.func k) #[] caps] w fun e w'=>e=.returned (.int .i64 (Er p n))∧Below w.heap.size w w'):=by
  rcases hc with rfl|⟨b,off,rfl,hc⟩
  ·exact fZ _ _ _ _
  ·exact jW b off n cap k caps hk w c0 p hn hc hf
 clear hc hf hk hn;have E:Hid (decide (0≤Er p n)=Pi p n):=Ml p n;generalize Er p n=r at H E;generalize Pi p n=q at E;go_enter func110,ntmps110
 go_wp2_with fail
 refine H.out.mono ?_;rintro e w1 ⟨rfl,hb⟩;go_wp2_with fail
 go_ret
 exact⟨Au E.out,hb⟩
theorem Cz {l:List Ex}{i:Nat}(h:i<l.length):Bx l i∈l:=by
 simp only[Bx,List.getD_eq_getElem?_getD,Zq h,Option.getD_some];exact List.getElem_mem h
theorem fU {l:List Ex}{i:Nat}(h:i<l.length):Bx l i=l[i]:=by
 simp [Bx,Zq h]
theorem Xu {l:List St}{i:Nat}(h:i<l.length):Ht l i∈l:=by
 simp only[Ht,List.getD_eq_getElem?_getD,Zq h,Option.getD_some];exact List.getElem_mem h
theorem vS {l:List St}{i:Nat}(h:i<l.length):Ht l i=l[i]:=by
 simp [Ht,Zq h]
theorem Nh(k:FuncId)(caps:Array Value)(hk:∀args w,(callFunc k args).run Zb w=.ok (.enter k args) w)(l:List Ex)(s:Value)(D:Nat→Prop)(w:World)(h:Ag D w l s)(f:Ex→Bool)
  (hf:∀e s' w1,e∈l→Below w.heap.size w w1→Ag D w1 e.args s'→Calls Zb k (#[exV e s']++caps) w1 fun r w2=>r=.returned (.bool (f e))∧Below w1.heap.size w1 w2):
  Calls Zb 120 #[s,.func (.func k) #[] caps] w fun r w'=>r=.returned (.bool (l.any f))∧Below w.heap.size w w':=by
 cases h with
 |mk _ a cap b off sv hcap hfit ha h0 h1 h2 h3 h4 hs=>
  rw[←Tw f (fun i=>f (Bx l i)) l (fun i hi=>by rw[fU hi])];refine aK a l.length cap k caps hk w (fun i=>.int .i64 (Bx l i).kind) (fun i=>.int .i64 (Bx l i).op) (fun i=>.int .i64 (Bx l i).n) (fun i=>.string (Aa (Bx l i).name)) sv (fun i=>f (Bx l i)) (hfit).out ?_ ?_
  ·rcases ha with ha|⟨ha,_⟩
   ·exact .inl ha
   ·exact .inr ⟨b,off,ha,fun i hi=>⟨h0 i hi,h1 i hi,h2 i hi,h3 i hi,h4 i hi⟩⟩
  ·intro i hi w1 hb
   exact hf (Bx l i) (sv i) w1 (Cz hi) hb ((hs i hi).old hb)
abbrev stV(x:St)(a t e:Value):Value:=.agg #[.int .i64 x.kind,.string (Aa x.name),a,t,e]
theorem cI(k:FuncId)(caps:Array Value)(hk:∀args w,(callFunc k args).run Zb w=.ok (.enter k args) w)(l:List St)(s:Value)(D:Nat→Prop)(w:World)(h:Ax D w l s)(f:St→Bool)
  (hf:∀x a t e w1,x∈l→Below w.heap.size w w1→Ag D w1 x.args a→Ax D w1 x.thn t→Ax D w1 x.els e→Calls Zb k (#[stV x a t e]++caps) w1 fun r w2=>r=.returned (.bool (f x))∧Below w1.heap.size w1 w2):
  Calls Zb 113 #[s,.func (.func k) #[] caps] w fun r w'=>r=.returned (.bool (l.any f))∧Below w.heap.size w w':=by
 cases h with
 |mk _ a cap b off sa st se hcap hfit ha h0 h1 h2 h3 h4 ea et ee=>
  rw[←Tw f (fun i=>f (Ht l i)) l (fun i hi=>by rw[vS hi])];refine aH a l.length cap k caps hk w (fun i=>.int .i64 (Ht l i).kind) (fun i=>.string (Aa (Ht l i).name)) sa st se (fun i=>f (Ht l i)) (hfit).out ?_ ?_
  ·rcases ha with ha|⟨ha,_⟩
   ·exact .inl ha
   ·exact .inr ⟨b,off,ha,fun i hi=>⟨h0 i hi,h1 i hi,h2 i hi,h3 i hi,h4 i hi⟩⟩
  ·intro i hi w1 hb
   exact hf (Ht l i) (sa i) (st i) (se i) w1 (Xu hi) hb ((ea i hi).old hb) ((et i hi).old hb) ((ee i hi).old hb)
def rO(m:Nat):Prop:= ∀(D:Nat→Prop) (e:Ex) (s:Value) (w:World),Ag D w e.args s→
 Calls Zb 61 #[exV e s,.int .i64 m] w fun r w'=>r=.returned (.bool (Jr m e))∧Below w.heap.size w w'
theorem deep_fn(m:Nat)(ih:rO m)(D:Nat→Prop)(e:Ex)(s:Value)(w:World)(h:Ag D w e.args s)(B:Nat)(hB:w.cell? ⟨B,0,none⟩=some (.int .i64 (m+1)))(hm:m≤1000):
  Calls Zb 121 #[exV e s,.pointer (some ⟨B,0,none⟩)] w fun r w'=>r=.returned (.bool (!Jr m e))∧Below w.heap.size w w':=by
 have H:=Za h;clear h;have hBl:B<w.heap.size:=World.block_lt_of_cell? _ _ hB;go_enter func121,ntmps121
 go_wp2_with fail
 refine(ih D e s _ (H.out.old (bA))).mono ?_;rintro r w1 ⟨rfl,hb⟩;go_wp2_with fail
 go_ret
 exact⟨rfl,(bA).trans (hb.mono (by simp))⟩
theorem fN:∀m,m≤1000→rO m
 |0,_=>by
  intro D e s w _;go_enter func61,ntmps61
  go_wp2_with fail
  go_ret
  exact⟨rfl,(bA).alloc (by simp) _⟩
 |m+1,hm=>by
  intro D e s w h;have ih:=Za (fN m (by omega));have H:=Za h;clear h;have hm':(0:Int)<(m:Int)+1:=by omega
  go_enter func61,ntmps61
  go_wp2_with fail
  refine(Nh 121 _ Tryz.call121 e.args s D _ (H.out.old ((bA).alloc (by simp) _)) (fun x=> !Jr m x) ?_).mono ?_
  ·intro x s' w1 _ hb hx
   exact deep_fn m ih.out D x s' w1 hx _ (Ad hb (by simp)) (by omega)
  ·rintro r w1 ⟨rfl,hb⟩
   go_wp2_with fail
   go_ret
   exact⟨Au (by simp [Jr,Zr]),((bA).alloc (by simp) _).trans (hb.mono (by simp;omega))⟩
theorem sK(o n:Int)(nm:Bs)(s:Value)(w:World):
  Calls Zb 122 #[.agg #[.int .i64 1,.int .i64 o,.int .i64 n,.string (Aa nm),s]] w fun r w'=>r=.returned (.tuple #[.agg #[.int .i64 1,.int .i64 0,.int .i64 n,.string (Aa []),.slice none 0 0],.int .i64 0,.bool (decide (0≤n))])∧Below w.heap.size w w':=by
 go_enter Zi,Zj
 go_wp2_with fail
 go_region
 go_wp2_with fail
 all_goals(refine bodyPost_ret (v:=.tuple #[.agg #[.int .i64 1,.int .i64 0,.int .i64 n,.string (Aa []),.slice none 0 0],.int .i64 0,.bool (decide (0≤n))]) (by simp [results,Zk,go_sem]) rfl ⟨rfl,?_⟩)
 all_goals(repeat(first|exact Zd _ _|refine Zh ?_ (by simp) _|refine Zn ?_ |refine Zm ?_ (by simp) _))
theorem sJ(o n:Int)(nm:Bs)(s:Value)(w:World):
  Calls Zb 122 #[.agg #[.int .i64 2,.int .i64 o,.int .i64 n,.string (Aa nm),s]] w fun r w'=>r=.returned (.tuple #[.agg #[.int .i64 2,.int .i64 0,.int .i64 0,.string (Aa nm),.slice none 0 0],.int .i64 0,.bool (Am nm)])∧Below w.heap.size w w':=by
 go_enter Zi,Zj
 go_wp2_with fail
 go_region_held3 (fun w'=>w'.cell? ⟨w.heap.size,3,none⟩=some (.string (Aa nm))∧w'.cell? ⟨w.heap.size+1,0,none⟩=some (.int .i64 2)∧w'.cell? ⟨w.heap.size+1,1,none⟩=some (.int .i64 0)∧w'.cell? ⟨w.heap.size+1,2,none⟩=some (.int .i64 0)∧w'.cell? ⟨w.heap.size+1,3,none⟩=some (.string (Aa nm))∧w'.cell? ⟨w.heap.size+1,4,none⟩=some (.slice none 0 0)) (first|(simp [*,Bj,Zc];done)|go_keep) (first|(go_at_call 112;refine(Lu _ _).mono ?_;rintro e w1 ⟨he,hb⟩;subst he;obtain⟨hc,hf⟩:=Uy hb;have hz:w.heap.size+1<w1.heap.size:=(by have:=hb.size;simp at this;omega);have g03:w1.cell? ⟨w.heap.size,3,none⟩=some (.string (Aa nm)):=Ad hb (by simp [Zc]);have g10:w1.cell? ⟨w.heap.size+1,0,none⟩=some (.int .i64 2):=Ad hb (by simp [Zc]);have g11:w1.cell? ⟨w.heap.size+1,1,none⟩=some (.int .i64 0):=Ad hb (by simp [Zc]);have g12:w1.cell? ⟨w.heap.size+1,2,none⟩=some (.int .i64 0):=Ad hb (by simp [Zc]);have g13:w1.cell? ⟨w.heap.size+1,3,none⟩=some (.string (Aa nm)):=Ad hb (by simp [Zc]);have g14:w1.cell? ⟨w.heap.size+1,4,none⟩=some (.slice none 0 0):=Ad hb (by simp [Zc])))
 go_wp2_with fail
 all_goals(refine bodyPost_ret (v:=.tuple #[.agg #[.int .i64 2,.int .i64 0,.int .i64 0,.string (Aa nm),.slice none 0 0],.int .i64 0,.bool (Am nm)]) (by simp [results,Zk,go_sem,hc]) rfl ⟨rfl,?_⟩)
 all_goals(repeat(refine Zh ?_ (by simp) _))
 all_goals(exact((bA).alloc (by simp) _).drew.trans (hb.mono (by simp;omega)))
theorem kI(n:Int)(nm:Bs)(s:Value)(w:World):
  Calls Zb 122 #[.agg #[.int .i64 3,.int .i64 17,.int .i64 n,.string (Aa nm),s]] w fun r w'=>r=.returned (.tuple #[.agg #[.int .i64 3,.int .i64 17,.int .i64 0,.string (Aa []),.slice none 0 0],.int .i64 1,.bool true])∧Below w.heap.size w w':=by
 go_enter Zi,Zj
 go_wp2_with fail
 go_region
 go_wp2_with fail
 all_goals(refine bodyPost_ret (v:=.tuple #[.agg #[.int .i64 3,.int .i64 17,.int .i64 0,.string (Aa []),.slice none 0 0],.int .i64 1,.bool true]) (by simp [results,Zk,go_sem]) rfl ⟨rfl,?_⟩)
 all_goals(repeat(first|exact Zd _ _|refine Zh ?_ (by simp) _|refine Zn ?_ |refine Zm ?_ (by simp) _))
theorem lF(n:Int)(nm:Bs)(s:Value)(w:World):
  Calls Zb 122 #[.agg #[.int .i64 3,.int .i64 18,.int .i64 n,.string (Aa nm),s]] w fun r w'=>r=.returned (.tuple #[.agg #[.int .i64 3,.int .i64 18,.int .i64 0,.string (Aa []),.slice none 0 0],.int .i64 1,.bool true])∧Below w.heap.size w w':=by
 go_enter Zi,Zj
 go_wp2_with fail
 go_region
 go_wp2_with fail
 all_goals(refine bodyPost_ret (v:=.tuple #[.agg #[.int .i64 3,.int .i64 18,.int .i64 0,.string (Aa []),.slice none 0 0],.int .i64 1,.bool true]) (by simp [results,Zk,go_sem]) rfl ⟨rfl,?_⟩)
 all_goals(repeat(first|exact Zd _ _|refine Zh ?_ (by simp) _|refine Zn ?_ |refine Zm ?_ (by simp) _))
theorem lS(n:Int)(nm:Bs)(s:Value)(w:World):
  Calls Zb 122 #[.agg #[.int .i64 3,.int .i64 19,.int .i64 n,.string (Aa nm),s]] w fun r w'=>r=.returned (.tuple #[.agg #[.int .i64 3,.int .i64 19,.int .i64 0,.string (Aa []),.slice none 0 0],.int .i64 1,.bool true])∧Below w.heap.size w w':=by
 go_enter Zi,Zj
 go_wp2_with fail
 go_region
 go_wp2_with fail
 all_goals(refine bodyPost_ret (v:=.tuple #[.agg #[.int .i64 3,.int .i64 19,.int .i64 0,.string (Aa []),.slice none 0 0],.int .i64 1,.bool true]) (by simp [results,Zk,go_sem]) rfl ⟨rfl,?_⟩)
 all_goals(repeat(first|exact Zd _ _|refine Zh ?_ (by simp) _|refine Zn ?_ |refine Zm ?_ (by simp) _))
theorem sM(o n:Int)(nm:Bs)(s:Value)(w:World)(h1:o≠17)(h2:o≠18)(h3:o≠19):
  Calls Zb 122 #[.agg #[.int .i64 3,.int .i64 o,.int .i64 n,.string (Aa nm),s]] w fun r w'=>r=.returned (.tuple #[.agg #[.int .i64 3,.int .i64 o,.int .i64 0,.string (Aa []),.slice none 0 0],.int .i64 1,.bool false])∧Below w.heap.size w w':=by
 have k1:(o==17)=false:=by simpa using h1
 have k2:(o==18)=false:=by simpa using h2
 have k3:(o==19)=false:=by simpa using h3
 clear h1 h2 h3;go_enter Zi,Zj
 go_wp2_with fail
 go_region
 go_wp2_with fail
 all_goals(refine bodyPost_ret (v:=.tuple #[.agg #[.int .i64 3,.int .i64 o,.int .i64 0,.string (Aa []),.slice none 0 0],.int .i64 1,.bool false]) (by simp [results,Zk,go_sem]) rfl ⟨rfl,?_⟩)
 all_goals(repeat(first|exact Zd _ _|refine Zh ?_ (by simp) _|refine Zn ?_ |refine Zm ?_ (by simp) _))
theorem vL(o n:Int)(nm:Bs)(s:Value)(w:World):
  Calls Zb 122 #[.agg #[.int .i64 4,.int .i64 o,.int .i64 n,.string (Aa nm),s]] w fun r w'=>r=.returned (.tuple #[.agg #[.int .i64 4,.int .i64 o,.int .i64 0,.string (Aa []),.slice none 0 0],.int .i64 2,.bool (decide (0<Al o))])∧Below w.heap.size w w':=by
 go_enter Zi,Zj
 go_wp2_with fail
 go_region_held3 (fun w'=>w'.cell? ⟨w.heap.size,1,none⟩=some (.int .i64 o)∧w'.cell? ⟨w.heap.size+1,0,none⟩=some (.int .i64 4)∧w'.cell? ⟨w.heap.size+1,1,none⟩=some (.int .i64 o)∧w'.cell? ⟨w.heap.size+1,2,none⟩=some (.int .i64 0)∧w'.cell? ⟨w.heap.size+1,3,none⟩=some (.string (Aa []))∧w'.cell? ⟨w.heap.size+1,4,none⟩=some (.slice none 0 0)) (first|(simp [*,Bj,Zc];done)|go_keep) (first|(go_at_call 74;refine(Km _ _).mono ?_;rintro e w1 ⟨he,hb⟩;subst he;obtain⟨hc,hf⟩:=Uy hb;have hz:w.heap.size+1<w1.heap.size:=(by have:=hb.size;simp at this;omega);have g01:w1.cell? ⟨w.heap.size,1,none⟩=some (.int .i64 o):=Ad hb (by simp [Zc]);have g10:w1.cell? ⟨w.heap.size+1,0,none⟩=some (.int .i64 4):=Ad hb (by simp [Zc]);have g11:w1.cell? ⟨w.heap.size+1,1,none⟩=some (.int .i64 o):=Ad hb (by simp [Zc]);have g12:w1.cell? ⟨w.heap.size+1,2,none⟩=some (.int .i64 0):=Ad hb (by simp [Zc]);have g13:w1.cell? ⟨w.heap.size+1,3,none⟩=some (.string (Aa [])):=Ad hb (by simp [Zc]);have g14:w1.cell? ⟨w.heap.size+1,4,none⟩=some (.slice none 0 0):=Ad hb (by simp [Zc])))
 go_wp2_with fail
 all_goals(refine bodyPost_ret (v:=.tuple #[.agg #[.int .i64 4,.int .i64 o,.int .i64 0,.string (Aa []),.slice none 0 0],.int .i64 2,.bool (decide (0<Al o))]) (by simp [results,Zk,go_sem,hc]) rfl ⟨rfl,?_⟩)
 all_goals(repeat(refine Zh ?_ (by simp) _))
 all_goals(exact((bA).alloc (by simp) _).drew.trans (hb.mono (by simp;omega)))
theorem oX(o n:Int)(nm:Bs)(a:Option Addr)(len cap:Nat)(hn:Am nm=true)(w:World):
  Calls Zb 122 #[.agg #[.int .i64 5,.int .i64 o,.int .i64 n,.string (Aa nm),.slice a len cap]] w fun r w'=>r=.returned (.tuple #[.agg #[.int .i64 5,.int .i64 0,.int .i64 0,.string (Aa nm),.slice none 0 0],.int .i64 len,.bool (decide ((len:Int)≤6))])∧Below w.heap.size w w':=by
 go_enter Zi,Zj
 go_wp2_with fail
 go_region_held3 (fun w'=>w'.cell? ⟨w.heap.size,3,none⟩=some (.string (Aa nm))∧w'.cell? ⟨w.heap.size,4,none⟩=some (.slice a len cap)∧w'.cell? ⟨w.heap.size+1,0,none⟩=some (.int .i64 5)∧w'.cell? ⟨w.heap.size+1,1,none⟩=some (.int .i64 0)∧w'.cell? ⟨w.heap.size+1,2,none⟩=some (.int .i64 0)∧w'.cell? ⟨w.heap.size+1,3,none⟩=some (.string (Aa nm))∧w'.cell? ⟨w.heap.size+1,4,none⟩=some (.slice none 0 0)) (first|(simp [*,Bj,Zc];done)|go_keep) (first|(go_at_call 112;refine(Lu _ _).mono ?_;rintro e w1 ⟨he,hb⟩;rw[hn]at he;subst he;obtain⟨hc,hf⟩:=Uy hb;have hz:w.heap.size+1<w1.heap.size:=(by have:=hb.size;simp at this;omega);have g03:w1.cell? ⟨w.heap.size,3,none⟩=some (.string (Aa nm)):=Ad hb (by simp [Zc]);have g04:w1.cell? ⟨w.heap.size,4,none⟩=some (.slice a len cap):=Ad hb (by simp [Zc]);have g10:w1.cell? ⟨w.heap.size+1,0,none⟩=some (.int .i64 5):=Ad hb (by simp [Zc]);have g11:w1.cell? ⟨w.heap.size+1,1,none⟩=some (.int .i64 0):=Ad hb (by simp [Zc]);have g12:w1.cell? ⟨w.heap.size+1,2,none⟩=some (.int .i64 0):=Ad hb (by simp [Zc]);have g13:w1.cell? ⟨w.heap.size+1,3,none⟩=some (.string (Aa nm)):=Ad hb (by simp [Zc]);have g14:w1.cell? ⟨w.heap.size+1,4,none⟩=some (.slice none 0 0):=Ad hb (by simp [Zc])))
 go_wp2_with fail
 all_goals(refine bodyPost_ret (v:=.tuple #[.agg #[.int .i64 5,.int .i64 0,.int .i64 0,.string (Aa nm),.slice none 0 0],.int .i64 len,.bool (decide ((len:Int)≤6))]) (by simp [results,Zk,go_sem,hc]) rfl ⟨rfl,?_⟩)
 all_goals(repeat(refine Zh ?_ (by simp) _))
 all_goals(exact((bA).alloc (by simp) _).drew.trans (hb.mono (by simp;omega)))
theorem kF(o n:Int)(nm:Bs)(a:Option Addr)(len cap:Nat)(hn:Am nm=false)(w:World):
  Calls Zb 122 #[.agg #[.int .i64 5,.int .i64 o,.int .i64 n,.string (Aa nm),.slice a len cap]] w fun r w'=>r=.returned (.tuple #[.agg #[.int .i64 5,.int .i64 0,.int .i64 0,.string (Aa nm),.slice none 0 0],.int .i64 len,.bool false])∧Below w.heap.size w w':=by
 go_enter Zi,Zj
 go_wp2_with fail
 refine wp_region_held_drew (S:=(fun w'=>w'.cell? ⟨w.heap.size,3,none⟩=some (.string (Aa nm))∧w'.cell? ⟨w.heap.size,4,none⟩=some (.slice a len cap)∧w'.cell? ⟨w.heap.size+1,0,none⟩=some (.int .i64 5)∧w'.cell? ⟨w.heap.size+1,1,none⟩=some (.int .i64 0)∧w'.cell? ⟨w.heap.size+1,2,none⟩=some (.int .i64 0)∧w'.cell? ⟨w.heap.size+1,3,none⟩=some (.string (Aa nm))∧w'.cell? ⟨w.heap.size+1,4,none⟩=some (.slice none 0 0))) (by kernel_rfl) ?_ (fun hHeld=>?_)
 ·(first|(simp [*,Bj,Zc];done)|go_keep)
 refine wpAnyH_take (i:=0) (v:= ?_) rfl (by kernel_rfl) (by kernel_rfl) (by kernel_rfl) (fun _ _ _ h=>h) (Or.inl ⟨rfl,?_⟩) (by assumption) ?_;rotate_left 1
 ·intro w hSw;(try dsimp only at hSw);go_simp;(try with_reducible rfl)
 (try simp only[Act.put,Ze,Zf,Zg]);refine wpAnyH_take (i:=1) (v:= ?_) rfl (by kernel_rfl) (by kernel_rfl) (by kernel_rfl) (fun _ _ _ h=>h) (Or.inl ⟨rfl,?_⟩) (by assumption) ?_;rotate_left 1
 ·intro w hSw;(try dsimp only at hSw);go_simp;(try with_reducible rfl)
 (try simp only[Act.put,Ze,Zf,Zg]);refine wpAnyH_take (i:=2) (v:= ?_) rfl (by kernel_rfl) (by kernel_rfl) (by kernel_rfl) (fun _ _ _ h=>h) (Or.inl ⟨rfl,?_⟩) (by assumption) ?_;rotate_left 1
 ·intro w hSw;(try dsimp only at hSw);go_simp;(try with_reducible rfl)
 (try simp only[Act.put,Ze,Zf,Zg]);refine wpAnyH_take (i:=3) (v:= ?_) rfl (by kernel_rfl) (by kernel_rfl) (by kernel_rfl) (fun _ _ _ h=>h) (Or.inl ⟨rfl,?_⟩) (by assumption) ?_;rotate_left 1
 ·intro w hSw;(try dsimp only at hSw);go_simp;(try with_reducible rfl)
 (try simp only[Act.put,Ze,Zf,Zg]);refine wpAnyH_take (i:=4) (v:= ?_) rfl (by kernel_rfl) (by kernel_rfl) (by kernel_rfl) (fun _ _ _ h=>h) (Or.inl ⟨rfl,?_⟩) (by assumption) ?_;rotate_left 1
 ·intro w hSw;(try dsimp only at hSw);go_simp;(try with_reducible rfl)
 (try simp only[Act.put,Ze,Zf,Zg]);refine wpAnyH_take (i:=5) (v:= ?_) rfl (by kernel_rfl) (by kernel_rfl) (by kernel_rfl) (fun _ _ _ h=>h) (Or.inl ⟨rfl,?_⟩) (by assumption) ?_;rotate_left 1
 ·intro w hSw;(try dsimp only at hSw);go_simp;(try with_reducible rfl)
 (try simp only[Act.put,Ze,Zf,Zg]);refine wpAnyH_ready (rs:=[6]) (by kernel_rfl) (by simp) ?_;refine AllReadyH.cons rfl (fun K hK=>?_) AllReadyH.nil;(try simp only[Zs,Zt,Zu]);go_simp;go_at_call 112;refine(Lu _ _).mono ?_;rintro e w1 ⟨he,hb⟩;rw[hn]at he;subst he;obtain⟨hc,hf⟩:=Uy hb;have hz:w.heap.size+1<w1.heap.size:=(by have:=hb.size;simp at this;omega);have g03:w1.cell? ⟨w.heap.size,3,none⟩=some (.string (Aa nm)):=Ad hb (by simp [Zc]);have g04:w1.cell? ⟨w.heap.size,4,none⟩=some (.slice a len cap):=Ad hb (by simp [Zc]);have g10:w1.cell? ⟨w.heap.size+1,0,none⟩=some (.int .i64 5):=Ad hb (by simp [Zc]);have g11:w1.cell? ⟨w.heap.size+1,1,none⟩=some (.int .i64 0):=Ad hb (by simp [Zc]);have g12:w1.cell? ⟨w.heap.size+1,2,none⟩=some (.int .i64 0):=Ad hb (by simp [Zc]);have g13:w1.cell? ⟨w.heap.size+1,3,none⟩=some (.string (Aa nm)):=Ad hb (by simp [Zc]);have g14:w1.cell? ⟨w.heap.size+1,4,none⟩=some (.slice none 0 0):=Ad hb (by simp [Zc])
 refine hK.out _ _ ?_ (fun hHeld=>?_)
 ·(try dsimp only);(first|(simp [*,Bj,Zc];done)|go_keep)
 clear hK K;(try simp only[Act.put,Ze,Zf,Zg]);refine wpAnyH_take (i:=7) (v:= ?_) rfl (by kernel_rfl) (by kernel_rfl) (by kernel_rfl) (fun _ _ _ h=>h) (Or.inl ⟨rfl,?_⟩) (by assumption) ?_;rotate_left 1
 ·intro w hSw;(try dsimp only at hSw);go_simp;(try with_reducible rfl)
 (try simp only[Act.put,Ze,Zf,Zg]);refine wpAnyH_take (i:=8) rfl (by kernel_rfl) (by kernel_rfl) (by kernel_rfl) (fun _ _ _ h=>h) (Or.inr ⟨rfl,rfl⟩) (by assumption) ?_;(try simp only[Act.put,Ze,Zf,Zg]);refine wpAnyH_take (i:=9) rfl (by kernel_rfl) (by kernel_rfl) (by kernel_rfl) (fun _ _ _ h=>h) (Or.inr ⟨rfl,rfl⟩) (by assumption) ?_;(try simp only[Act.put,Ze,Zf,Zg]);refine wpAnyH_take (i:=10) rfl (by kernel_rfl) (by kernel_rfl) (by kernel_rfl) (fun _ _ _ h=>h) (Or.inr ⟨rfl,rfl⟩) (by assumption) ?_;(try simp only[Act.put,Ze,Zf,Zg]);refine wpAnyH_take (i:=11) rfl (by kernel_rfl) (by kernel_rfl) (by kernel_rfl) (fun _ _ _ h=>h) (Or.inr ⟨rfl,rfl⟩) (by assumption) ?_;(try simp only[Act.put,Ze,Zf,Zg]);refine wpAnyH_take (i:=12) (v:= ?_) rfl (by kernel_rfl) (by kernel_rfl) (by kernel_rfl) (fun _ _ _ h=>h) (Or.inl ⟨rfl,?_⟩) (by assumption) ?_;rotate_left 1
 ·intro w hSw;(try dsimp only at hSw);go_simp;(try with_reducible rfl)
 (try simp only[Act.put,Ze,Zf,Zg]);refine wpAnyH_ready (rs:=[13]) (by kernel_rfl) (by simp) ?_;refine AllReadyH.cons rfl (fun K hK=>?_) AllReadyH.nil;(try simp only[Zs,Zt,Zu]);go_simp
 refine hK.out _ _ ?_ (fun hHeld=>?_)
 ·(try dsimp only);(first|(simp [*,Bj,Zc];done)|go_keep)
 clear hK K;(try simp only[Act.put,Ze,Zf,Zg]);refine wpAnyH_ready (rs:=[14]) (by kernel_rfl) (by simp) ?_;refine AllReadyH.cons rfl (fun K hK=>?_) AllReadyH.nil;(try simp only[Zs,Zt,Zu]);go_simp
 refine hK.out _ _ ?_ (fun hHeld=>?_)
 ·(try dsimp only);(first|(simp [*,Bj,Zc];done)|go_keep)
 clear hK K;(try simp only[Act.put,Ze,Zf,Zg]);refine wpAnyH_ready (rs:=[15]) (by kernel_rfl) (by simp) ?_;refine AllReadyH.cons rfl (fun K hK=>?_) AllReadyH.nil;(try simp only[Zs,Zt,Zu]);go_simp
 refine hK.out _ _ ?_ (fun hHeld=>?_)
 ·(try dsimp only);(first|(simp [*,Bj,Zc];done)|go_keep)
 clear hK K;(try simp only[Act.put,Ze,Zf,Zg]);refine wpAnyH_done (by kernel_rfl) ?_ _;go_wp2_with fail
 all_goals(refine bodyPost_ret (v:=.tuple #[.agg #[.int .i64 5,.int .i64 0,.int .i64 0,.string (Aa nm),.slice none 0 0],.int .i64 len,.bool false]) (by simp [results,Zk,go_sem,hc]) rfl ⟨rfl,?_⟩)
 all_goals(repeat(refine Zh ?_ (by simp) _))
 all_goals(exact((bA).alloc (by simp) _).drew.trans (hb.mono (by simp;omega)))
theorem lD(o n:Int)(nm:Bs)(s:Value)(w:World):
  Calls Zb 122 #[.agg #[.int .i64 6,.int .i64 o,.int .i64 n,.string (Aa nm),s]] w fun r w'=>r=.returned (.tuple #[.agg #[.int .i64 6,.int .i64 0,.int .i64 0,.string (Aa nm),.slice none 0 0],.int .i64 1,.bool (Am nm)])∧Below w.heap.size w w':=by
 go_enter Zi,Zj
 go_wp2_with fail
 go_region_held3 (fun w'=>w'.cell? ⟨w.heap.size,3,none⟩=some (.string (Aa nm))∧w'.cell? ⟨w.heap.size+1,0,none⟩=some (.int .i64 6)∧w'.cell? ⟨w.heap.size+1,1,none⟩=some (.int .i64 0)∧w'.cell? ⟨w.heap.size+1,2,none⟩=some (.int .i64 0)∧w'.cell? ⟨w.heap.size+1,3,none⟩=some (.string (Aa nm))∧w'.cell? ⟨w.heap.size+1,4,none⟩=some (.slice none 0 0)) (first|(simp [*,Bj,Zc];done)|go_keep) (first|(go_at_call 112;refine(Lu _ _).mono ?_;rintro e w1 ⟨he,hb⟩;subst he;obtain⟨hc,hf⟩:=Uy hb;have hz:w.heap.size+1<w1.heap.size:=(by have:=hb.size;simp at this;omega);have g03:w1.cell? ⟨w.heap.size,3,none⟩=some (.string (Aa nm)):=Ad hb (by simp [Zc]);have g10:w1.cell? ⟨w.heap.size+1,0,none⟩=some (.int .i64 6):=Ad hb (by simp [Zc]);have g11:w1.cell? ⟨w.heap.size+1,1,none⟩=some (.int .i64 0):=Ad hb (by simp [Zc]);have g12:w1.cell? ⟨w.heap.size+1,2,none⟩=some (.int .i64 0):=Ad hb (by simp [Zc]);have g13:w1.cell? ⟨w.heap.size+1,3,none⟩=some (.string (Aa nm)):=Ad hb (by simp [Zc]);have g14:w1.cell? ⟨w.heap.size+1,4,none⟩=some (.slice none 0 0):=Ad hb (by simp [Zc])))
 go_wp2_with fail
 all_goals(refine bodyPost_ret (v:=.tuple #[.agg #[.int .i64 6,.int .i64 0,.int .i64 0,.string (Aa nm),.slice none 0 0],.int .i64 1,.bool (Am nm)]) (by simp [results,Zk,go_sem,hc]) rfl ⟨rfl,?_⟩)
 all_goals(repeat(refine Zh ?_ (by simp) _))
 all_goals(exact((bA).alloc (by simp) _).drew.trans (hb.mono (by simp;omega)))
theorem oC(o n:Int)(nm:Bs)(s:Value)(w:World):
  Calls Zb 122 #[.agg #[.int .i64 7,.int .i64 o,.int .i64 n,.string (Aa nm),s]] w fun r w'=>r=.returned (.tuple #[.agg #[.int .i64 7,.int .i64 0,.int .i64 0,.string (Aa []),.slice none 0 0],.int .i64 0,.bool true])∧Below w.heap.size w w':=by
 go_enter Zi,Zj
 go_wp2_with fail
 all_goals(refine bodyPost_ret (v:=.tuple #[.agg #[.int .i64 7,.int .i64 0,.int .i64 0,.string (Aa []),.slice none 0 0],.int .i64 0,.bool true]) (by simp [results,Zk,go_sem]) rfl ⟨rfl,?_⟩)
 all_goals(repeat(first|exact Zd _ _|refine Zh ?_ (by simp) _|refine Zn ?_ |refine Zm ?_ (by simp) _))
theorem kO(k:Int)(h1:(k==1)=false)(h2:(k==2)=false)(h3:(k==3)=false)(h4:(k==4)=false)(h5:(k==5)=false)(h6:(k==6)=false)(h7:(k==7)=false)(o n:Int)(nm:Bs)(s:Value)(w:World):
  Calls Zb 122 #[.agg #[.int .i64 k,.int .i64 o,.int .i64 n,.string (Aa nm),s]] w fun r w'=>r=.returned (.tuple #[.agg #[.int .i64 k,.int .i64 0,.int .i64 0,.string (Aa []),.slice none 0 0],.int .i64 0,.bool false])∧Below w.heap.size w w':=by
 go_enter Zi,Zj
 go_wp2_with fail
 all_goals(refine bodyPost_ret (v:=.tuple #[.agg #[.int .i64 k,.int .i64 0,.int .i64 0,.string (Aa []),.slice none 0 0],.int .i64 0,.bool false]) (by simp [results,Zk,go_sem]) rfl ⟨rfl,?_⟩)
 all_goals(repeat(first|exact Zd _ _|refine Zh ?_ (by simp) _|refine Zn ?_ |refine Zm ?_ (by simp) _))
theorem sN(e:Ex)(a:Option Addr)(cap:Nat)(w:World):
  Calls Zb 122 #[exV e (.slice a e.args.length cap)] w fun r w'=>r=.returned (.tuple #[.agg #[.int .i64 e.kind,.int .i64 (Ir e),.int .i64 (Le e),.string (Aa (En e)),.slice none 0 0],.int .i64 (Dm e),.bool (Hn e)])∧Below w.heap.size w w':=by
 obtain⟨k,o,n,nm,args⟩:=e;show Calls _ _ #[.agg #[.int .i64 k,.int .i64 o,.int .i64 n,.string (Aa nm),.slice a args.length cap]] _ _
 have key:∀ {R R':Ending→World→Prop},R=R'→Calls Zb 122 #[.agg #[.int .i64 k,.int .i64 o,.int .i64 n,.string (Aa nm),.slice a args.length cap]] w R→Calls Zb 122 #[.agg #[.int .i64 k,.int .i64 o,.int .i64 n,.string (Aa nm),.slice a args.length cap]] w R':=fun h=>h ▸ id
 by_cases h1:k=1
 ·subst h1;exact sK _ _ _ _ _
 by_cases h2:k=2
 ·subst h2;exact sJ _ _ _ _ _
 by_cases h3:k=3
 ·subst h3
  by_cases q1:o=17
  ·subst q1;exact kI _ _ _ _
  by_cases q2:o=18
  ·subst q2;exact lF _ _ _ _
  by_cases q3:o=19
  ·subst q3;exact lS _ _ _ _
  refine key ?_ (sM o n nm _ w q1 q2 q3);simp [Ir,Le,En,Dm,Hn,Ex.kind,Ex.op,q1,q2,q3]
 by_cases h4:k=4
 ·subst h4;exact vL _ _ _ _ _
 by_cases h5:k=5
 ·subst h5
  cases hn:Am nm
  ·refine key ?_ (kF o n nm a args.length cap hn w)
   simp [Ir,Le,En,Dm,Hn,Ex.kind,Ex.name,Ex.args,hn]
  ·refine key ?_ (oX o n nm a args.length cap hn w)
   simp [Ir,Le,En,Dm,Hn,Ex.kind,Ex.name,Ex.args,hn];rfl
 by_cases h6:k=6
 ·subst h6;exact lD _ _ _ _ _
 by_cases h7:k=7
 ·subst h7;exact oC _ _ _ _ _
 refine key ?_ (kO k (by simpa using h1) (by simpa using h2) (by simpa using h3) (by simpa using h4) (by simpa using h5) (by simpa using h6) (by simpa using h7) o n nm _ w);simp [Ir,Le,En,Dm,Hn,Ex.kind,h1,h2,h3,h4,h5,h6,h7]
def cU(e:Ex):Prop:= ∀(D:Nat→Prop) (s:Value) (w:World),Ag D w e.args s→
 Calls Zb 62 #[exV e s] w fun r w'=>r=.returned (.bool (Cn e))∧Below w.heap.size w w'
theorem well_fn(e:Ex)(ih:cU e)(D:Nat→Prop)(s:Value)(w:World)(h:Ag D w e.args s):
  Calls Zb 123 #[exV e s] w fun r w'=>r=.returned (.bool (!Cn e))∧Below w.heap.size w w':=by
 have H:=Za h;clear h;have IH:=Za ih;clear ih;go_enter func123,ntmps123
 go_wp2_with fail
 refine(IH.out D s _ (H.out.old (bA))).mono ?_;rintro r w1 ⟨rfl,hb⟩;go_wp2_with fail
 go_ret
 exact⟨rfl,(bA).trans (hb.mono (by simp))⟩
theorem nX(e:Ex)(ih:∀x,x∈e.args→cU x):cU e:=by
 intro D s w h;have H:=Za h;have IH:=Za ih;clear ih;generalize hl:e.args=l at h
 cases h with
 |mk _ a cap b off sv hcap hfit ha h0 h1 h2 h3 h4 hs=>
  subst hl;clear hcap hfit ha h0 h1 h2 h3 h4 hs;have HO:=Za (sN e a cap ((w.alloc (.cells #[.int .i64 e.kind,.int .i64 e.op,.int .i64 e.n,.string (Aa e.name),.slice a e.args.length cap] 27))));go_enter func62,ntmps62
  go_wp2_with fail
  refine HO.o.mono ?_;rintro r w1 ⟨rfl,hb⟩;obtain⟨hc,hf⟩:=Uy hb;have hz:w.heap.size<w1.heap.size:=by have:=hb.size;simp at this;omega
  go_wp2_with fail
  ·refine(Nh 123 #[] Tryz.call123 e.args _ D _ (((H.out.old (bA)).old hb).old (bA)) (fun x=> !Cn x) ?_).mono ?_
   ·intro x s' w2 hx _ hs
    exact well_fn x (IH.out x hx) D s' w2 hs
   ·rintro r w2 ⟨rfl,hb2⟩
    go_wp2_with fail
    go_ret
    refine⟨Au ?_,(((bA).trans (hb.mono (by simp))).alloc (by omega) _).trans (hb2.mono (by simp;omega))⟩;rw[Ll];simp [Cy, *,Zr]
  all_goals
   go_ret
   refine⟨Au ?_,((bA).trans (hb.mono (by simp))).alloc (by omega) _⟩;rw[Ll];simp [Cy, *]
theorem jB:∀(n:Nat) (e:Ex),SizeOf.sizeOf e≤n→cU e
 |0,e,h=>by cases e;simp at h
 |n+1,e,h=>nX e fun x hx=>jB n x (by have:=Ex.size_lt hx;omega)
theorem Qk(e:Ex)(D:Nat→Prop)(s:Value)(w:World)(h:Ag D w e.args s):
  Calls Zb 28 #[exV e s] w fun r w'=>r=.returned (.bool (Ew e))∧Below w.heap.size w w':=by
 have H:=Za h;clear h;have E:Hid (Ew e=(Jr 40 e && Cn e)):=rfl;go_enter func28,ntmps28
 go_wp2_with fail
 refine(fN 40 (by omega) D e s _ (H.out.old (bA))).mono ?_;rintro r w1 ⟨rfl,hb⟩;obtain⟨hc,hf⟩:=Uy hb
 cases hd:Jr 40 e
 ·have HD:=Za hd;clear hd
  go_wp2_with fail
  go_ret
  exact⟨Au (by rw[E.out,HD.o];rfl),(bA).trans (hb.mono (by simp))⟩
 ·have HD:=Za hd;clear hd
  go_wp2_with fail
  refine(jB _ e (Zl _) D s _ ((H.out.old (bA)).old hb)).mono ?_;rintro r w2 ⟨rfl,hb2⟩;go_wp2_with fail
  go_ret
  exact⟨Au (by rw[E.out,HD.o];rfl),(bA).trans ((hb.mono (by simp)).trans (hb2.mono (by have:=hb.size;simp at this;omega)))⟩
theorem pI {Ix:Type}(F:Ix→World){P:Program}{id:Nat}{Q:Exit→Act→World→Prop}{a:Act}{w:World}{l:List Oper}(hm:P.follows .mixedOrders=true)(hB:Region.lexB .any l.toArray=true)(hC:∃n,w.drew=F n)
  (h:wpQuiet P l.toArray (fun w'=> ∃n,w'=F n) (fun a'=> ∀w',(∃n,w'=F n)→Q .normal a' w') l a):(Code.region id l.toArray true).wp P Q a w:=
 wp_region_quiet (C:=fun w'=> ∃n,w'=F n) hm hB hC (by simpa using h)
abbrev Lat(w:World):Type:= {w':World // Below w.heap.size w w'}
theorem lat_fun(wr:World):∃(Ix:Type) (_:Nonempty Ix) (F:Ix→World),Hid (∀n,Below wr.heap.size wr (F n))∧Hid (∀w',Below wr.heap.size wr w'→∃n,w'=F n):=⟨Lat wr,⟨⟨wr,Zd _ _⟩⟩,fun n=>n.1,fun n=>n.2,fun w' h=>⟨⟨w',h⟩,rfl⟩⟩
theorem tM {a b c d:Bool}{n:Int}{k:Int}(h1:a=Eh k)(h2:n=Dz k)(h3:b=Ji k)(h4:c=Je k)(h5:d=fOk k):
  Ending.returned (.tuple #[.agg #[.bool a,.int .i64 n,.bool b,.bool c],.bool d])=.returned (.tuple #[.agg #[.bool (Eh k),.int .i64 (Dz k),.bool (Ji k),.bool (Je k)],.bool (fOk k)]):=by
 subst h1 h2 h3 h4 h5;rfl
theorem jL(k:Int)(w:World):
  Calls Zb 160 #[.int .i64 k] w fun r w'=>r=.returned (.tuple #[.agg #[.bool (Eh k),.int .i64 (Dz k),.bool (Ji k),.bool (Je k)],.bool (fOk k)])∧Below w.heap.size w w':=by
 go_enter func160,ntmps160
 go_wp2
 all_goals(refine bodyPost_ret (by simp [results,results160,go_sem];rfl) rfl ?_)
 all_goals(refine⟨tM ?_ ?_ ?_ ?_ ?_,by repeat(first|exact Zd _ _|refine Zh ?_ (by simp) _|refine Zm ?_ (Zl _) _)⟩)
 all_goals(simp only[beq_iff_eq,beq_eq_false_iff_ne,ne_eq]at*;simp [Eh,Dz,Ji,Je,fOk, *]<;>omega)
theorem head_eq {l:List Ex}(h:0<l.length):l[0]=l.headD (.mk 0 0 0 [] []):=by cases l with|nil=>simp at h|cons x l=>rfl
theorem mQ {α:Type}(l:List α):decide (0<l.length)= !l.isEmpty:=by cases l<;>simp
theorem stmt_fn(e:Ex)(D:Nat→Prop)(s:Value)(w:World)(h:Ag D w e.args s):
  Calls Zb 161 #[exV e s] w fun r w'=>r=.returned (.bool (!Ew e))∧Below w.heap.size w w':=by
 have H:=Za h;clear h;go_enter func161,ntmps161
 go_wp2_with fail
 refine(Qk e D s _ (H.out.old (bA))).mono ?_;rintro r w1 ⟨rfl,hb⟩;go_wp2_with fail
 go_ret
 exact⟨rfl,(bA).trans (hb.mono (by simp))⟩
def vC(m:Nat):Prop:= ∀(D:Nat→Prop) (l:List St) (v:Value) (w:World),Ax D w l v→
 Calls Zb 50 #[v,.int .i64 m] w fun r w'=>r=.returned (.bool (l.all (Ef m)))∧Below w.heap.size w w'
def StOf(m:Nat):Prop:= ∀(D:Nat→Prop) (x:St) (a t e:Value) (w:World),Ag D w x.args a→Ax D w x.thn t→Ax D w x.els e→
 Calls Zb 115 #[stV x a t e,.int .i64 m] w fun r w'=>r=.returned (.bool (Ef m x))∧Below w.heap.size w w'
set_option maxHeartbeats 20000000 in
theorem bO(m:Nat)(hm:m≤1000)(ih:0<m→vC (m-1)):StOf m:=by
 intro D x a0 t0 e0 w ha ht he;have IH:=Za ih;clear ih;have HA:=Za ha;have HT:=Za ht;have HE:=Za he;clear ha ht he;obtain⟨aa,ca,rfl⟩:∃aa ca,a0=.slice aa x.args.length ca:=HA.o.shape;obtain⟨at',ct,rfl⟩:∃aa ca,t0=.slice aa x.thn.length ca:=HT.o.shape;obtain⟨ae,ce,rfl⟩:∃aa ca,e0=.slice aa x.els.length ca:=HE.o.shape;have hm1:(m:Int)≤1000:=by omega
 have hm0:(0:Int)≤m:=by omega
 go_enter func115,ntmps115
 go_upto_region 2 with(first|(go_at_call 160;refine(jL _ _).mono ?_;rintro e w1 ⟨rfl,hb⟩;obtain⟨hc,hf⟩:=Uy hb;have hz:w.heap.size<w1.heap.size:=(by have:=hb.size;simp at this;omega)))
 go_cut [6,48] (fun _ s48 wx=>s48=.bool (Jo m x)∧wx=w1.alloc (.cells #[.bool (Eh x.kind),.int .i64 (Dz x.kind),.bool (Ji x.kind),.bool (Je x.kind)] 184))
 case first=>
  cases b0:fOk x.kind
  ·go_wp2_with fail
   go_meet;exact⟨by simp [Jo,b0],rfl⟩
  cases b1:((m:Int)==0)
  case true=>
   go_wp2_with fail
   go_meet;exact⟨by simp [Jo,b1],rfl⟩
  cases b2:((x.args.length:Int)==Dz x.kind)
  ·have b2':((x.args.length:Int) !=Dz x.kind)=true:=by simp [bne,b2]
   go_wp2_with fail
   go_meet;exact⟨by simp [Jo,b2],rfl⟩
  have b2':((x.args.length:Int) !=Dz x.kind)=false:=by simp [bne,b2]
  have t1:=mQ x.thn;have e1:=mQ x.els
  cases b3:Ji x.kind<;>cases b4:x.thn.isEmpty<;>cases b5:Je x.kind<;>cases b6:x.els.isEmpty
  all_goals
   rw[b4]at t1;rw[b6]at e1;have E:Hid (Jo m x=((!Ji x.kind && !x.thn.isEmpty)||(!Je x.kind && !x.els.isEmpty))):=(by show _=_;simp [Jo,b0,b1,b2]);rw[b3,b4,b5,b6]at E;clear b4 b6;simp only[Bool.not_true,Bool.not_false]at t1 e1;go_wp2_with fail
   go_meet;exact⟨by rw[E.out];rfl,by rw[b3,b5]⟩
 case rest=>
  obtain⟨rfl,rfl⟩:=hcut;have hBW:Below w.heap.size w (w1.alloc (.cells #[.bool (Eh x.kind),.int .i64 (Dz x.kind),.bool (Ji x.kind),.bool (Je x.kind)] 184)):=
   ((bA).trans (hb.mono (by simp))).alloc (by omega) _
  have f0:(w1.alloc (.cells #[.bool (Eh x.kind),.int .i64 (Dz x.kind),.bool (Ji x.kind),.bool (Je x.kind)] 184)).cell? ⟨w1.heap.size,0,none⟩=some (.bool (Eh x.kind)):=by simp
  have k0:=Ad ((Zd w1.heap.size w1).alloc (Zl _) (.cells #[.bool (Eh x.kind),.int .i64 (Dz x.kind),.bool (Ji x.kind),.bool (Je x.kind)] 184)) (a:=⟨w.heap.size,0,none⟩) (x:=.int .i64 x.kind) (Ad hb (by simp));have k1:=Ad ((Zd w1.heap.size w1).alloc (Zl _) (.cells #[.bool (Eh x.kind),.int .i64 (Dz x.kind),.bool (Ji x.kind),.bool (Je x.kind)] 184)) (a:=⟨w.heap.size,1,none⟩) (x:=.string (Aa x.name)) (Ad hb (by simp));have k2:=Ad ((Zd w1.heap.size w1).alloc (Zl _) (.cells #[.bool (Eh x.kind),.int .i64 (Dz x.kind),.bool (Ji x.kind),.bool (Je x.kind)] 184)) (a:=⟨w.heap.size,2,none⟩) (x:=.slice aa x.args.length ca) (Ad hb (by simp));have k3:=Ad ((Zd w1.heap.size w1).alloc (Zl _) (.cells #[.bool (Eh x.kind),.int .i64 (Dz x.kind),.bool (Ji x.kind),.bool (Je x.kind)] 184)) (a:=⟨w.heap.size,3,none⟩) (x:=.slice at' x.thn.length ct) (Ad hb (by simp));have k4:=Ad ((Zd w1.heap.size w1).alloc (Zl _) (.cells #[.bool (Eh x.kind),.int .i64 (Dz x.kind),.bool (Ji x.kind),.bool (Je x.kind)] 184)) (a:=⟨w.heap.size,4,none⟩) (x:=.slice ae x.els.length ce) (Ad hb (by simp));have hz2:w1.heap.size<(w1.alloc (.cells #[.bool (Eh x.kind),.int .i64 (Dz x.kind),.bool (Ji x.kind),.bool (Je x.kind)] 184)).heap.size:=by simp
  clear hb hc hf;generalize w1.alloc (.cells #[.bool (Eh x.kind),.int .i64 (Dz x.kind),.bool (Ji x.kind),.bool (Je x.kind)] 184)=W2 at hBW f0 k0 k1 k2 k3 k4 hz2 ⊢;have HBW:=Za hBW;clear hBW
  cases q1:Jo m x
  case true=>
   have Q1:=Za q1;clear q1;go_wp2_with fail
   go_ret
   refine⟨Au ?_,HBW.o⟩
   cases m with
   |zero=>rfl
   |succ m=>
    have q:=Q1.out;rw[show((m+1:Nat):Int)=(m:Int)+1 from by omega]at q;simp only[Ef,q];rfl
  have Q1:=Za q1;clear q1;go_upto_region 4 with(fail)
  go_cut [77] (fun s77 wx=>s77=.bool (Qs x)∧Below W2.heap.size W2 wx)
  case first=>
   have E:Hid (Qs x=(!(Eh x.kind==Am x.name)||(!Eh x.kind && !(x.name==[]))||(x.kind==10 && !((x.args.headD (.mk 0 0 0 [] [])).kind==5)))):=rfl;obtain⟨Ix,hIx,F,HFB,HFI⟩:=lat_fun W2;have HCL:Hid (∀n,Calls Zb 112 #[.string (Aa x.name)] (F n) fun e w'=>e=.returned (.bool (Am x.name))∧∃m,w'=F m):=fun n=>by
    refine(Lu x.name (F n)).mono ?_;rintro e w' ⟨he,hb⟩;exact⟨he,HFI.o w' ((HFB.o n).trans (hb.mono (HFB.o n).size))⟩
   have g0:∀n,(F n).cell? ⟨w1.heap.size,0,none⟩=some (.bool (Eh x.kind)):=fun n=>Ad (HFB.o n) f0
   have g1:∀n,(F n).cell? ⟨w.heap.size,0,none⟩=some (.int .i64 x.kind):=fun n=>Ad (HFB.o n) k0
   have g2:∀n,(F n).cell? ⟨w.heap.size,1,none⟩=some (.string (Aa x.name)):=fun n=>Ad (HFB.o n) k1
   have g3:∀n,(F n).cell? ⟨w.heap.size,2,none⟩=some (.slice aa x.args.length ca):=fun n=>Ad (HFB.o n) k2
   have HST:Hid (∃n,W2.drew=F n):=HFI.o _ (Zd _ _).drew;refine pI F (by kernel_rfl) (by kernel_rfl) HST.o ?_;have fin:∀ {K:Act→World→Prop} {a:Act},(∀n,K a (F n))→∀w',(∃n,w'=F n)→K a w':=fun h w' ⟨n,e⟩=>e ▸ h n
   cases n1:Eh x.kind<;>cases n2:Am x.name
   all_goals
    rw[n1,n2]at E;rw[n1]at g0;rw[n2]at HCL;clear k0 k1 k2 k3 k4 f0
   case false.false=>
    cases n4:(x.name==[])
    ·rw[n4]at E
     have n5:x.name.isEmpty=false:=by simpa using n4
     repeat(go_big_quiet_step ((go_at_call 112;exact HCL.o _)))
     refine wpQuiet_nil (fin fun nq=>?_);go_wp2_with fail
     go_meet;exact⟨by rw[E.out];rfl,HFB.o nq⟩
    ·have n5:x.name.isEmpty=true:=by simpa using n4
     rw[n4]at E;clear n4
     cases n3:(x.kind==10)
     ·rw[n3]at E
      repeat(go_big_quiet_step ((go_at_call 112;exact HCL.o _)))
      refine wpQuiet_nil (fin fun nq=>?_);go_wp2_with fail
      go_meet;exact⟨by rw[E.out];rfl,HFB.o nq⟩
     ·rw[n3]at E
      have hlen:x.args.length=1:=by
       have q:=Q1.out;simp [Jo,show x.kind=10 by simpa using n3,Dz,fOk,Ji,Je]at q;omega
      obtain⟨b,off,rfl,z⟩:=HA.o.cell0 (by omega);have g4:∀n,(F n).cell? ⟨b,off,none⟩=some (.int .i64 (Bx x.args 0).kind):=fun n=>Ad (HFB.o n) (Ad HBW.o z)
      have hl0:0<x.args.length:=by omega
      clear hlen z
      repeat(go_big_quiet_step ((go_at_call 112;exact HCL.o _)))
      refine wpQuiet_nil (fin fun nq=>?_);go_wp2_with fail
      go_meet;exact⟨by rw[E.out,←head_eq hl0];simp [bne],HFB.o nq⟩
   case true.true=>
    have n3:(x.kind==10)=false:=by simp [Eh]at n1;simp;omega
    rw[n3]at E
    repeat(go_big_quiet_step ((go_at_call 112;exact HCL.o _)))
    refine wpQuiet_nil (fin fun nq=>?_);go_wp2_with fail
    go_meet;exact⟨by rw[E.out];rfl,HFB.o nq⟩
   all_goals
    repeat(go_big_quiet_step ((go_at_call 112;exact HCL.o _)))
    refine wpQuiet_nil (fin fun nq=>?_);go_wp2_with fail
    go_meet;exact⟨by rw[E.out];rfl,HFB.o nq⟩
  case rest=>
   obtain⟨rfl,hb2⟩:=hcut;have HB2:=Za (HBW.o.trans (hb2.mono (by have:=HBW.o.size;omega)));have j2:=Ad hb2 k2;have j3:=Ad hb2 k3;have j4:=Ad hb2 k4;have hs2:=hb2.size;clear f0 k0 k1 k2 k3 k4 hb2
   cases q2:Qs x
   case true=>
    have Q2:=Za q2;clear q2;go_wp2_with fail
    go_ret
    refine⟨Au ?_,HB2.o⟩
    cases m with
    |zero=>rfl
    |succ m=>simp [Ef,Q2.out]
   have Q2:=Za q2;clear q2;have hmp:Hid (0<m):=by
    cases m with
    |zero=>have q:=Q1.out;simp [Jo]at q
    |succ m=>exact Nat.succ_pos m
   obtain⟨m',hm'⟩:∃m',m=m'+1:=⟨m-1,by have:=hmp.out;omega⟩;have EM:Hid (Ef m x=(!Jo m x && !Qs x && x.args.all Ew && x.thn.all (Ef (m-1)) && x.els.all (Ef (m-1)))):=by
    show _=_
    subst hm';simp only[Ef,Nat.add_sub_cancel];rw[show((m'+1:Nat):Int)=(m':Int)+1 from by omega]
   clear hm';have hsub:Hid (((m-1:Nat):Int)=(m:Int)-1):=by show _=_;have:=hmp.out;omega
   have hm2:1≤(m:Int):=by have:=hmp.out;omega
   go_wp2_with fail
   refine(Nh 161 #[] Tryz.call161 x.args _ D _ (HA.o.old HB2.o) (fun e=> !Ew e) (fun e s' w3 _ _ hs=>stmt_fn e D s' w3 hs)).mono ?_;rintro r w3 ⟨rfl,hb3⟩;have l3:=Ad hb3 j3;have l4:=Ad hb3 j4;have HB3:=Za (HB2.o.trans (hb3.mono (by omega)));have hs3:=hb3.size;clear j2 j3 j4 hb3;have A1:x.args.any (fun e=> !Ew e)= !x.args.all Ew:=by simp [Zr]
   rw[A1];clear A1
   cases qa:x.args.all Ew
   ·have QA:=Za qa;clear qa
    go_wp2_with fail
    go_ret
    exact⟨Au (by rw[EM.out,QA.out];simp),HB3.o⟩
   have QA:=Za qa;clear qa;go_wp2_with fail
   rw[←hsub.out];refine(IH.out hmp.out D x.thn _ _ (HT.o.old HB3.o)).mono ?_;rintro r w4 ⟨rfl,hb4⟩;have m4:=Ad hb4 l4;have HB4:=Za (HB3.o.trans (hb4.mono (by omega)));have hs4:=hb4.size;clear l3 l4 hb4
   cases qt:x.thn.all (Ef (m-1))
   ·have QT:=Za qt;clear qt
    go_wp2_with fail
    go_ret
    exact⟨Au (by rw[EM.out,QA.out,QT.out];simp),HB4.o⟩
   have QT:=Za qt;clear qt;go_wp2_with fail
   rw[←hsub.out];refine(IH.out hmp.out D x.els _ _ (HE.o.old HB4.o)).mono ?_;rintro r w5 ⟨rfl,hb5⟩;have HB5:=Za (HB4.o.trans (hb5.mono (by omega)));clear m4 hb5;go_wp2_with fail
   go_ret
   exact⟨Au (by rw[EM.out,QA.out,QT.out,Q1.out,Q2.out];simp),HB5.o⟩
theorem sU(m:Nat)(hm:m≤1000)(ih:StOf m)(D:Nat→Prop)(x:St)(a t e:Value)(w:World)(ha:Ag D w x.args a)(ht:Ax D w x.thn t)(he:Ax D w x.els e)(B:Nat)(hB:w.cell? ⟨B,0,none⟩=some (.int .i64 m)):
  Calls Zb 114 #[stV x a t e,.pointer (some ⟨B,0,none⟩)] w fun r w'=>r=.returned (.bool (!Ef m x))∧Below w.heap.size w w':=by
 have HA:=Za ha;have HT:=Za ht;have HE:=Za he;clear ha ht he;have hBl:B<w.heap.size:=World.block_lt_of_cell? _ _ hB;go_enter func114,ntmps114
 go_wp2_with fail
 refine(ih D x a t e _ (HA.o.old (bA)) (HT.o.old (bA)) (HE.o.old (bA))).mono ?_;rintro r w1 ⟨rfl,hb⟩;go_wp2_with fail
 go_ret
 exact⟨rfl,(bA).trans (hb.mono (by simp))⟩
theorem Xx(m:Nat)(hm:m≤1000)(ih:StOf m):vC m:=by
 intro D l v w h;have H:=Za h;clear h;have IH:=Za ih;clear ih;go_enter func50,ntmps50
 go_wp2_with fail
 refine(cI 114 _ Tryz.call114 l v D _ (H.out.old (bA)) (fun x=> !Ef m x) ?_).mono ?_
 ·intro x a t e w1 _ hb ha ht he
  exact sU m hm IH.out D x a t e w1 ha ht he _ (Ad hb (by simp))
 ·rintro r w1 ⟨rfl,hb⟩
  go_wp2_with fail
  go_ret
  exact⟨Au (by simp [Zr]),(bA).trans (hb.mono (by simp))⟩
theorem iV:∀m,m≤1000→StOf m∧vC m
 |0,h=>have a:=bO 0 h (fun h=>by omega);⟨a,Xx 0 h a⟩
 |m+1,h=>have a:=bO (m+1) h (fun _=>(iV m (by omega)).2);⟨a,Xx (m+1) h a⟩
theorem tX(s:Bs)(w:World):
  Calls Zb 111 #[.string (Aa s)] w fun r w'=>r=.returned (.bool (!Am s))∧Below w.heap.size w w':=by
 go_enter func111,ntmps111
 go_wp2_with fail
 refine(Lu s _).mono ?_;rintro r w1 ⟨rfl,hb⟩;go_wp2_with fail
 go_ret
 exact⟨rfl,hb⟩
theorem Po(l:List Bs)(v:Value)(D:Nat→Prop)(w:World)(h:Ba D w l v):
  Calls Zb 49 #[v] w fun r w'=>r=.returned (.bool (l.all Am))∧Below w.heap.size w w':=by
 obtain⟨a,cap,b,off,rfl,h1,h2,h3,h4⟩:=h;have HC:=Za (aG a l.length cap 111 #[] Tryz.call111 w (fun i=>.string (Aa (l.getD i []))) (fun i=> !Am (l.getD i [])) (h2).out
  (h3.imp id fun h=>⟨b,off,h.1,h4⟩) (fun i _ w1 _=>tX _ w1))
 clear h1 h2 h3 h4;have E:Hid ((!Pi (fun i=> !Am (l.getD i [])) l.length)=l.all Am):=by
  show _=_
  rw[Tw (fun s=> !Am s) _ l (fun i hi=>by simp [Zq hi])];simp [Zr]
 go_enter func49,ntmps49
 go_wp2_with fail
 refine HC.o.mono ?_;rintro r w1 ⟨rfl,hb⟩;go_wp2_with fail
 go_ret
 exact⟨Au E.out,hb⟩
theorem bI(p:Pr)(D:Nat→Prop)(sa sf:Value)(w:World)(ha:Bt D w p.arrays sa)(hf:Bw D w p.funcs sf):
  Calls Zb 24 #[.agg #[sa,sf]] w fun r w'=>r=.returned (.bool (Eb p))∧Below w.heap.size w w':=by
 obtain⟨aa,ca,ba,oa,rfl,a1,a2,a3,a4⟩:=ha;obtain⟨af,cf,bf,of',pv,lv,bv,rfl,f1,f2,f3,f4⟩:=hf;have la:=a2.lt;have lf:=f2.lt;have A3:=Za a3;have A4:=Za a4;have F3:=Za f3;have F4:=Za f4;have E:Hid (Eb p=(p.arrays.all Dk && p.funcs.all Gh)):=rfl;clear a1 a2 a3 a4 f1 f2 f3 f4;go_enter func24,ntmps24
 go_wp2_with fail
 have HW:Hid (Below w.heap.size w (w.alloc (.cells #[.slice aa p.arrays.length ca,.slice af p.funcs.length cf] 34))):=bA;have c1:(w.alloc (.cells #[.slice aa p.arrays.length ca,.slice af p.funcs.length cf] 34)).cell? ⟨w.heap.size,1,none⟩=some (.slice af p.funcs.length cf):=by simp
 have hz0:w.heap.size<(w.alloc (.cells #[.slice aa p.arrays.length ca,.slice af p.funcs.length cf] 34)).heap.size:=by simp
 generalize w.alloc (.cells #[.slice aa p.arrays.length ca,.slice af p.funcs.length cf] 34)=W at HW c1 hz0 ⊢
 go_loopw [2,4,10] (fun s2 _ s10 wr=> ∃k:Nat,k≤p.arrays.length∧s10=.int .i64 k∧s2=.bool false∧(∀i,i<k→Dk (Kz p.arrays i)=true)∧Below W.heap.size W wr) (fun _ _ s10 _=>p.arrays.length-(intOf s10).toNat)
 case atStart=>exact⟨0,Zo _,rfl,rfl,fun i hi=>by omega,Zd _ _⟩
 case round=>
  obtain⟨k,hk,rfl,rfl,hall,hb⟩:=hrel;have ALL:=Za hall;clear hall;have HB:=Za (HW.o.trans (hb.mono (by omega)));have HBW:=Za hb;have hzr:w.heap.size<wr.heap.size:=by have:=hb.size;omega
  have c2:=Ad hb c1;clear hb
  by_cases hlt:k<p.arrays.length
  ·obtain⟨rfl,_⟩:aa=some ⟨ba,oa,none⟩∧D ba:=by rcases A3.out with h|h;omega;exact h
   obtain⟨g0,g1⟩:=A4.out k hlt;have e0:=Ad HB.o g0;have e1:=Ad HB.o g1;clear g0 g1;generalize hAk:Kz p.arrays k=A at e0 e1;have HAK:=Za hAk;clear hAk;have RA:Hid (Dk A=(Am A.name && decide (1≤A.size∧A.size≤1048576))):=rfl;go_wp2_with fail
   refine(Po [A.name] _ (fun _=>True) _ ⟨some ⟨wr.heap.size+1,0,none⟩,1,wr.heap.size+1,0,rfl,Zl _,by show _≤_;simp,.inr ⟨rfl,trivial⟩,fun i hi=>by obtain rfl:i=0:=(by simp at hi;omega);simp⟩).mono ?_;rintro r w3 ⟨rfl,hb3⟩;have hbr:Below wr.heap.size wr w3:=((bA).alloc (by simp) _).trans (hb3.mono (by simp;omega));have d1:w3.cell? ⟨wr.heap.size,1,none⟩=some (.int .i64 A.size):=Ad hb3 (by simp [Zc]);have HBR:=Za hbr;have HB3:=Za (HB.o.trans (hbr.mono (by omega)));clear hb3 hbr;rw[show([A.name].all Am)=Am A.name from by simp];have bad:Hid (Dk A=false→Eb p=false):=fun h=>by
    rw[E.out,Sa p.arrays Ar.nil Dk k hlt (by rw[show p.arrays.getD k Ar.nil=A from HAK.o];exact h)];rfl
   cases q1:Am A.name
   ·have Q1:=Za q1;clear q1
    go_wp2_with fail
    go_ret
    exact⟨Au (bad.out (by rw[RA.out,Q1.out];rfl)).symm,HB3.o⟩
   have Q1:=Za q1;clear q1
   by_cases q2:1≤A.size
   ·by_cases q3:A.size≤1048576
    ·go_wp2_with fail
     go_roundw
     case rel=>
      refine⟨k+1,by omega,by go_num,rfl,fun i hi=>?_,HBW.o.trans (HBR.o.mono HBW.o.size)⟩;rcases Zp.1 hi with h|rfl
      ·exact ALL.out i h
      ·rw[HAK.o,RA.out,Q1.out];simp [q2,q3]
     case measure=>simp [intOf];omega
    ·go_wp2_with fail
     go_ret
     exact⟨Au (bad.out (by rw[RA.out,Q1.out];simp;omega)).symm,HB3.o⟩
   ·go_wp2_with fail
    go_ret
    exact⟨Au (bad.out (by rw[RA.out,Q1.out];simp;omega)).symm,HB3.o⟩
  ·have hkn:k=p.arrays.length:=by omega
   have EA:Hid (p.arrays.all Dk=true):=aY p.arrays Ar.nil Dk (fun i hi=>ALL.out i (by omega));clear hkn;go_wp2_with fail
   go_loopw [2,6,33] (fun s2 _ s33 wx=> ∃j:Nat,j≤p.funcs.length∧s33=.int .i64 j∧s2=.bool false∧(∀i,i<j→Gh (Dn p.funcs i)=true)∧Below wr.heap.size wr wx) (fun _ _ s33 _=>p.funcs.length-(intOf s33).toNat)
   case atStart=>exact⟨0,Zo _,rfl,rfl,fun i hi=>by omega,Zd _ _⟩
   case round=>
    clear c1 c2;obtain⟨j,hj,rfl,rfl,hall,hb⟩:=hrel;have ALF:=Za hall;clear hall
    rename World=>wx
    have HBX:=Za (HB.o.trans (hb.mono (by omega)));have HBY:=Za hb;clear hb
    by_cases hlj:j<p.funcs.length
    ·obtain⟨rfl,_⟩:af=some ⟨bf,of',none⟩∧D bf:=by rcases F3.out with h|h;omega;exact h
     obtain⟨⟨g0,g1,g2,g3⟩,gp,gl,gb⟩:=F4.out j hlj;have e0:=Ad HBX.o g0;have e1:=Ad HBX.o g1;have e2:=Ad HBX.o g2;have e3:=Ad HBX.o g3;have GP:=Za (gp.old HBX.o);have GL:=Za (gl.old HBX.o);have GB:=Za (gb.old HBX.o);clear g0 g1 g2 g3 gp gl gb;generalize hAk:Dn p.funcs j=A at e0 GP GL GB;generalize pv j=P1 at e1 GP;generalize lv j=L1 at e2 GL;generalize bv j=B1 at e3 GB;have HAK:=Za hAk;clear hAk;obtain⟨pa,pc,hpv⟩:∃a cap,P1=.slice a A.params.length cap:=by obtain⟨a,cap,_,_,h,_⟩:=GP.out;exact⟨a,cap,h⟩
     subst hpv;obtain⟨qa,qc,hqv⟩:∃a cap,L1=.slice a A.locals.length cap:=by obtain⟨a,cap,_,_,h,_⟩:=GL.out;exact⟨a,cap,h⟩
     subst hqv;obtain⟨ra,rc,hrv⟩:∃a cap,B1=.slice a A.body.length cap:=GB.out.shape;subst hrv;have RA:Hid (Gh A=(Am A.name && A.params.all Am && A.locals.all Am && decide (A.params.length≤6) && A.body.all (Ef 40))):=rfl;have bad:Hid (Gh A=false→Eb p=false):=fun h=>by
      rw[E.out,EA.out,Sa p.funcs Fu.nil Gh j hlj (by rw[show p.funcs.getD j Fu.nil=A from HAK.o];exact h)];rfl
     go_wp2_with fail
     refine(Po [A.name] _ (fun _=>True) _ ⟨some ⟨wx.heap.size+1,0,none⟩,1,wx.heap.size+1,0,rfl,Zl _,by show _≤_;simp,.inr ⟨rfl,trivial⟩,fun i hi=>by obtain rfl:i=0:=(by simp at hi;omega);simp⟩).mono ?_;rintro r w3 ⟨rfl,hb3⟩;have hbr:Below wx.heap.size wx w3:=((bA).alloc (by simp) _).trans (hb3.mono (by simp;omega));have d1:w3.cell? ⟨wx.heap.size,1,none⟩=some (.slice pa A.params.length pc):=Ad hb3 (by simp [Zc]);have d2:w3.cell? ⟨wx.heap.size,2,none⟩=some (.slice qa A.locals.length qc):=Ad hb3 (by simp [Zc]);have d3:w3.cell? ⟨wx.heap.size,3,none⟩=some (.slice ra A.body.length rc):=Ad hb3 (by simp [Zc]);have HBR:=Za hbr;have hs3:=hbr.size;clear hb3 hbr e0 e1 e2 e3;rw[show([A.name].all Am)=Am A.name from by simp];have HBZ:=Za (HBX.o.trans (HBR.o.mono (by have:=HBX.o.size;omega)))
     cases q1:Am A.name
     ·have Q1:=Za q1;clear q1
      go_wp2_with fail
      go_ret
      exact⟨Au (bad.out (by rw[RA.out,Q1.out];rfl)).symm,HBZ.o⟩
     have Q1:=Za q1;clear q1;go_wp2_with fail
     refine(Po A.params _ D _ (GP.out.old HBR.o)).mono ?_;rintro r w4 ⟨rfl,hb4⟩;have HB4:=Za (HBR.o.trans (hb4.mono hs3));have k1:=Ad hb4 d1;have k2:=Ad hb4 d2;have k3:=Ad hb4 d3;have hs4:=hb4.size;clear hb4 d1 d2 d3;have HBZ4:=Za (HBX.o.trans (HB4.o.mono (by have:=HBX.o.size;omega)))
     cases q2:A.params.all Am
     ·have Q2:=Za q2;clear q2
      go_wp2_with fail
      go_ret
      exact⟨Au (bad.out (by rw[RA.out,Q2.out];simp)).symm,HBZ4.o⟩
     have Q2:=Za q2;clear q2;go_wp2_with fail
     refine(Po A.locals _ D _ (GL.out.old HB4.o)).mono ?_;rintro r w5 ⟨rfl,hb5⟩;have HB5:=Za (HB4.o.trans (hb5.mono (by omega)));have m1:=Ad hb5 k1;have m3:=Ad hb5 k3;have hs5:=hb5.size;clear hb5 k1 k2 k3;have HBZ5:=Za (HBX.o.trans (HB5.o.mono (by have:=HBX.o.size;omega)))
     cases q3:A.locals.all Am
     ·have Q3:=Za q3;clear q3
      go_wp2_with fail
      go_ret
      exact⟨Au (bad.out (by rw[RA.out,Q3.out];simp)).symm,HBZ5.o⟩
     have Q3:=Za q3;clear q3
     by_cases q4:A.params.length≤6
     ·go_wp2_with fail
      refine((iV 40 (by omega)).2 D A.body _ _ (GB.out.old HB5.o)).mono ?_;rintro r w6 ⟨rfl,hb6⟩;have HB6:=Za (HB5.o.trans (hb6.mono (by omega)));clear hb6 m1 m3;have HBZ6:=Za (HBX.o.trans (HB6.o.mono (by have:=HBX.o.size;omega)))
      cases q5:A.body.all (Ef 40)
      ·have Q5:=Za q5;clear q5
       go_wp2_with fail
       go_ret
       exact⟨Au (bad.out (by rw[RA.out,Q5.out];simp)).symm,HBZ6.o⟩
      ·have Q5:=Za q5;clear q5
       go_wp2_with fail
       go_roundw
       case rel=>
        refine⟨j+1,by omega,by go_num,rfl,fun i hi=>?_,HBY.o.trans (HB6.o.mono HBY.o.size)⟩;rcases Zp.1 hi with h|rfl
        ·exact ALF.out i h
        ·rw[HAK.o,RA.out,Q1.out,Q2.out,Q3.out,Q5.out];simp [q4]
       case measure=>simp [intOf];omega
     ·have q4':6<A.params.length:=by omega
      go_wp2_with fail
      go_ret
      exact⟨Au (bad.out (by rw[RA.out];simp [q4])).symm,HBZ5.o⟩
    ·have hjn:j=p.funcs.length:=by omega
     have EF:Hid (p.funcs.all Gh=true):=aY p.funcs Fu.nil Gh (fun i hi=>ALF.out i (by omega));clear hjn;go_wp2_with fail
     go_ret
     exact⟨Au (by rw[E.out,EA.out,EF.out];rfl),HBX.o⟩
end Go.Proofs.YtcfpfnoldgnloaaGreatDoor
