/-
  What tree.only answers of an expression, a kind each.
-/
import Derived.Test.YtcfpfnoldgnloaaGreatDoorBk11
set_option linter.unusedVariables false
set_option linter.unusedSimpArgs false
namespace Go.Proofs.YtcfpfnoldgnloaaGreatDoor
open Go.RowKit
set_option maxHeartbeats 20000000
set_option maxRecDepth 100000
open Go.Lib renaming hid→Za
open World renaming cell?_alloc_lt→Zb
open Go.Proofs.Tryz renaming prog→Zc,func122→Zi,ntmps122→Zj,results122→Zk
open Below renaming refl→Zd,setCell→Zh,alloc→Zm,drew→Zn
open List renaming setIfInBounds_toArray→Ze,set_cons_zero→Zf,set_cons_succ→Zg,getElem_toArray→Zo,getElem_cons_succ→Zp,getElem_cons_zero→Zq,any_eq_not_all_not→Zr
open Nat renaming le_refl→Zl
theorem yM(o n:Int)(nm:Bs)(s:Value)(w:World):
  Calls Zc 122 #[.agg #[.int .i64 1,.int .i64 o,.int .i64 n,.string (aB nm),s]] w fun r w'=>r= .returned (.tuple #[.agg #[.int .i64 1,.int .i64 0,.int .i64 n,.string (aB []),.slice none 0 0],.int .i64 0,.bool (decide (0≤n))])∧Below w.heap.size w w':=by
 go_enter Zi,Zj
 go_wp2_with fail
 go_region
 go_wp2_with fail
 all_goals(refine bodyPost_ret (v:= .tuple #[.agg #[.int .i64 1,.int .i64 0,.int .i64 n,.string (aB []),.slice none 0 0],.int .i64 0,.bool (decide (0≤n))]) (by simp [results,Zk,go_sem]) rfl ⟨rfl,?_⟩)
 all_goals(repeat(first|exact Zd _ _|refine Zh ?_ (by simp) _|refine Zn ?_ |refine Zm ?_ (by simp) _))
theorem y7(o n:Int)(nm:Bs)(s:Value)(w:World):
  Calls Zc 122 #[.agg #[.int .i64 2,.int .i64 o,.int .i64 n,.string (aB nm),s]] w fun r w'=>r= .returned (.tuple #[.agg #[.int .i64 2,.int .i64 0,.int .i64 0,.string (aB nm),.slice none 0 0],.int .i64 0,.bool (aY nm)])∧Below w.heap.size w w':=by
 go_enter Zi,Zj
 go_wp2_with fail
 go_region_held3 (fun w'=>w'.cell? ⟨w.heap.size,3,none⟩=some (.string (aB nm))∧w'.cell? ⟨w.heap.size+1,0,none⟩=some (.int .i64 2)∧w'.cell? ⟨w.heap.size+1,1,none⟩=some (.int .i64 0)∧w'.cell? ⟨w.heap.size+1,2,none⟩=some (.int .i64 0)∧w'.cell? ⟨w.heap.size+1,3,none⟩=some (.string (aB nm))∧w'.cell? ⟨w.heap.size+1,4,none⟩=some (.slice none 0 0)) (first|(simp [*,ay,Zb];done)|go_keep) (first|(go_at_call 112;refine(gz _ _).mono ?_;rintro e w1 ⟨he,hb⟩;subst he;obtain⟨hc,hf⟩:=mV hb;have hz:w.heap.size+1<w1.heap.size:=(by have:=hb.size;simp at this;omega);have g03:w1.cell? ⟨w.heap.size,3,none⟩=some (.string (aB nm)):=aE hb (by simp [Zb]);have g10:w1.cell? ⟨w.heap.size+1,0,none⟩=some (.int .i64 2):=aE hb (by simp [Zb]);have g11:w1.cell? ⟨w.heap.size+1,1,none⟩=some (.int .i64 0):=aE hb (by simp [Zb]);have g12:w1.cell? ⟨w.heap.size+1,2,none⟩=some (.int .i64 0):=aE hb (by simp [Zb]);have g13:w1.cell? ⟨w.heap.size+1,3,none⟩=some (.string (aB nm)):=aE hb (by simp [Zb]);have g14:w1.cell? ⟨w.heap.size+1,4,none⟩=some (.slice none 0 0):=aE hb (by simp [Zb])))
 go_wp2_with fail
 all_goals(refine bodyPost_ret (v:= .tuple #[.agg #[.int .i64 2,.int .i64 0,.int .i64 0,.string (aB nm),.slice none 0 0],.int .i64 0,.bool (aY nm)]) (by simp [results,Zk,go_sem,hc]) rfl ⟨rfl,?_⟩)
 all_goals(repeat(refine Zh ?_ (by simp) _))
 all_goals(exact((bA).alloc (by simp) _).drew.trans (hb.mono (by simp;omega)))
theorem tw(n:Int)(nm:Bs)(s:Value)(w:World):
  Calls Zc 122 #[.agg #[.int .i64 3,.int .i64 17,.int .i64 n,.string (aB nm),s]] w fun r w'=>r= .returned (.tuple #[.agg #[.int .i64 3,.int .i64 17,.int .i64 0,.string (aB []),.slice none 0 0],.int .i64 1,.bool true])∧Below w.heap.size w w':=by
 go_enter Zi,Zj
 go_wp2_with fail
 go_region
 go_wp2_with fail
 all_goals(refine bodyPost_ret (v:= .tuple #[.agg #[.int .i64 3,.int .i64 17,.int .i64 0,.string (aB []),.slice none 0 0],.int .i64 1,.bool true]) (by simp [results,Zk,go_sem]) rfl ⟨rfl,?_⟩)
 all_goals(repeat(first|exact Zd _ _|refine Zh ?_ (by simp) _|refine Zn ?_ |refine Zm ?_ (by simp) _))
theorem tO(n:Int)(nm:Bs)(s:Value)(w:World):
  Calls Zc 122 #[.agg #[.int .i64 3,.int .i64 18,.int .i64 n,.string (aB nm),s]] w fun r w'=>r= .returned (.tuple #[.agg #[.int .i64 3,.int .i64 18,.int .i64 0,.string (aB []),.slice none 0 0],.int .i64 1,.bool true])∧Below w.heap.size w w':=by
 go_enter Zi,Zj
 go_wp2_with fail
 go_region
 go_wp2_with fail
 all_goals(refine bodyPost_ret (v:= .tuple #[.agg #[.int .i64 3,.int .i64 18,.int .i64 0,.string (aB []),.slice none 0 0],.int .i64 1,.bool true]) (by simp [results,Zk,go_sem]) rfl ⟨rfl,?_⟩)
 all_goals(repeat(first|exact Zd _ _|refine Zh ?_ (by simp) _|refine Zn ?_ |refine Zm ?_ (by simp) _))
theorem uW(n:Int)(nm:Bs)(s:Value)(w:World):
  Calls Zc 122 #[.agg #[.int .i64 3,.int .i64 19,.int .i64 n,.string (aB nm),s]] w fun r w'=>r= .returned (.tuple #[.agg #[.int .i64 3,.int .i64 19,.int .i64 0,.string (aB []),.slice none 0 0],.int .i64 1,.bool true])∧Below w.heap.size w w':=by
 go_enter Zi,Zj
 go_wp2_with fail
 go_region
 go_wp2_with fail
 all_goals(refine bodyPost_ret (v:= .tuple #[.agg #[.int .i64 3,.int .i64 19,.int .i64 0,.string (aB []),.slice none 0 0],.int .i64 1,.bool true]) (by simp [results,Zk,go_sem]) rfl ⟨rfl,?_⟩)
 all_goals(repeat(first|exact Zd _ _|refine Zh ?_ (by simp) _|refine Zn ?_ |refine Zm ?_ (by simp) _))
theorem xr(o n:Int)(nm:Bs)(s:Value)(w:World)(h1:o≠17)(h2:o≠18)(h3:o≠19):
  Calls Zc 122 #[.agg #[.int .i64 3,.int .i64 o,.int .i64 n,.string (aB nm),s]] w fun r w'=>r= .returned (.tuple #[.agg #[.int .i64 3,.int .i64 o,.int .i64 0,.string (aB []),.slice none 0 0],.int .i64 1,.bool false])∧Below w.heap.size w w':=by
 have k1:(o==17)=false:=by simpa using h1
 have k2:(o==18)=false:=by simpa using h2
 have k3:(o==19)=false:=by simpa using h3
 clear h1 h2 h3;go_enter Zi,Zj
 go_wp2_with fail
 go_region
 go_wp2_with fail
 all_goals(refine bodyPost_ret (v:= .tuple #[.agg #[.int .i64 3,.int .i64 o,.int .i64 0,.string (aB []),.slice none 0 0],.int .i64 1,.bool false]) (by simp [results,Zk,go_sem]) rfl ⟨rfl,?_⟩)
 all_goals(repeat(first|exact Zd _ _|refine Zh ?_ (by simp) _|refine Zn ?_ |refine Zm ?_ (by simp) _))
theorem xh(o n:Int)(nm:Bs)(s:Value)(w:World):
  Calls Zc 122 #[.agg #[.int .i64 4,.int .i64 o,.int .i64 n,.string (aB nm),s]] w fun r w'=>r= .returned (.tuple #[.agg #[.int .i64 4,.int .i64 o,.int .i64 0,.string (aB []),.slice none 0 0],.int .i64 2,.bool (decide (0<aP o))])∧Below w.heap.size w w':=by
 go_enter Zi,Zj
 go_wp2_with fail
 go_region_held3 (fun w'=>w'.cell? ⟨w.heap.size,1,none⟩=some (.int .i64 o)∧w'.cell? ⟨w.heap.size+1,0,none⟩=some (.int .i64 4)∧w'.cell? ⟨w.heap.size+1,1,none⟩=some (.int .i64 o)∧w'.cell? ⟨w.heap.size+1,2,none⟩=some (.int .i64 0)∧w'.cell? ⟨w.heap.size+1,3,none⟩=some (.string (aB []))∧w'.cell? ⟨w.heap.size+1,4,none⟩=some (.slice none 0 0)) (first|(simp [*,ay,Zb];done)|go_keep) (first|(go_at_call 74;refine(gD _ _).mono ?_;rintro e w1 ⟨he,hb⟩;subst he;obtain⟨hc,hf⟩:=mV hb;have hz:w.heap.size+1<w1.heap.size:=(by have:=hb.size;simp at this;omega);have g01:w1.cell? ⟨w.heap.size,1,none⟩=some (.int .i64 o):=aE hb (by simp [Zb]);have g10:w1.cell? ⟨w.heap.size+1,0,none⟩=some (.int .i64 4):=aE hb (by simp [Zb]);have g11:w1.cell? ⟨w.heap.size+1,1,none⟩=some (.int .i64 o):=aE hb (by simp [Zb]);have g12:w1.cell? ⟨w.heap.size+1,2,none⟩=some (.int .i64 0):=aE hb (by simp [Zb]);have g13:w1.cell? ⟨w.heap.size+1,3,none⟩=some (.string (aB [])):=aE hb (by simp [Zb]);have g14:w1.cell? ⟨w.heap.size+1,4,none⟩=some (.slice none 0 0):=aE hb (by simp [Zb])))
 go_wp2_with fail
 all_goals(refine bodyPost_ret (v:= .tuple #[.agg #[.int .i64 4,.int .i64 o,.int .i64 0,.string (aB []),.slice none 0 0],.int .i64 2,.bool (decide (0<aP o))]) (by simp [results,Zk,go_sem,hc]) rfl ⟨rfl,?_⟩)
 all_goals(repeat(refine Zh ?_ (by simp) _))
 all_goals(exact((bA).alloc (by simp) _).drew.trans (hb.mono (by simp;omega)))
theorem wb(o n:Int)(nm:Bs)(a:Option Addr)(len cap:Nat)(hn:aY nm=true)(w:World):
  Calls Zc 122 #[.agg #[.int .i64 5,.int .i64 o,.int .i64 n,.string (aB nm),.slice a len cap]] w fun r w'=>r= .returned (.tuple #[.agg #[.int .i64 5,.int .i64 0,.int .i64 0,.string (aB nm),.slice none 0 0],.int .i64 len,.bool (decide ((len:Int)≤6))])∧Below w.heap.size w w':=by
 go_enter Zi,Zj
 go_wp2_with fail
 go_region_held3 (fun w'=>w'.cell? ⟨w.heap.size,3,none⟩=some (.string (aB nm))∧w'.cell? ⟨w.heap.size,4,none⟩=some (.slice a len cap)∧w'.cell? ⟨w.heap.size+1,0,none⟩=some (.int .i64 5)∧w'.cell? ⟨w.heap.size+1,1,none⟩=some (.int .i64 0)∧w'.cell? ⟨w.heap.size+1,2,none⟩=some (.int .i64 0)∧w'.cell? ⟨w.heap.size+1,3,none⟩=some (.string (aB nm))∧w'.cell? ⟨w.heap.size+1,4,none⟩=some (.slice none 0 0)) (first|(simp [*,ay,Zb];done)|go_keep) (first|(go_at_call 112;refine(gz _ _).mono ?_;rintro e w1 ⟨he,hb⟩;rw[hn]at he;subst he;obtain⟨hc,hf⟩:=mV hb;have hz:w.heap.size+1<w1.heap.size:=(by have:=hb.size;simp at this;omega);have g03:w1.cell? ⟨w.heap.size,3,none⟩=some (.string (aB nm)):=aE hb (by simp [Zb]);have g04:w1.cell? ⟨w.heap.size,4,none⟩=some (.slice a len cap):=aE hb (by simp [Zb]);have g10:w1.cell? ⟨w.heap.size+1,0,none⟩=some (.int .i64 5):=aE hb (by simp [Zb]);have g11:w1.cell? ⟨w.heap.size+1,1,none⟩=some (.int .i64 0):=aE hb (by simp [Zb]);have g12:w1.cell? ⟨w.heap.size+1,2,none⟩=some (.int .i64 0):=aE hb (by simp [Zb]);have g13:w1.cell? ⟨w.heap.size+1,3,none⟩=some (.string (aB nm)):=aE hb (by simp [Zb]);have g14:w1.cell? ⟨w.heap.size+1,4,none⟩=some (.slice none 0 0):=aE hb (by simp [Zb])))
 go_wp2_with fail
 all_goals(refine bodyPost_ret (v:= .tuple #[.agg #[.int .i64 5,.int .i64 0,.int .i64 0,.string (aB nm),.slice none 0 0],.int .i64 len,.bool (decide ((len:Int)≤6))]) (by simp [results,Zk,go_sem,hc]) rfl ⟨rfl,?_⟩)
 all_goals(repeat(refine Zh ?_ (by simp) _))
 all_goals(exact((bA).alloc (by simp) _).drew.trans (hb.mono (by simp;omega)))
theorem sq(o n:Int)(nm:Bs)(a:Option Addr)(len cap:Nat)(hn:aY nm=false)(w:World):
  Calls Zc 122 #[.agg #[.int .i64 5,.int .i64 o,.int .i64 n,.string (aB nm),.slice a len cap]] w fun r w'=>r= .returned (.tuple #[.agg #[.int .i64 5,.int .i64 0,.int .i64 0,.string (aB nm),.slice none 0 0],.int .i64 len,.bool false])∧Below w.heap.size w w':=by
 go_enter Zi,Zj
 go_wp2_with fail
 refine wp_region_held_drew (S:=(fun w'=>w'.cell? ⟨w.heap.size,3,none⟩=some (.string (aB nm))∧w'.cell? ⟨w.heap.size,4,none⟩=some (.slice a len cap)∧w'.cell? ⟨w.heap.size+1,0,none⟩=some (.int .i64 5)∧w'.cell? ⟨w.heap.size+1,1,none⟩=some (.int .i64 0)∧w'.cell? ⟨w.heap.size+1,2,none⟩=some (.int .i64 0)∧w'.cell? ⟨w.heap.size+1,3,none⟩=some (.string (aB nm))∧w'.cell? ⟨w.heap.size+1,4,none⟩=some (.slice none 0 0))) (by kernel_rfl) ?_ (fun hHeld=> ?_)
 ·(first|(simp [*,ay,Zb];done)|go_keep)
 refine wpAnyH_take (i:=0) (v:= ?_) rfl (by kernel_rfl) (by kernel_rfl) (by kernel_rfl) (fun _ _ _ h=>h) (Or.inl ⟨rfl,?_⟩) (by assumption) ?_;rotate_left 1
 ·intro w hSw;(try dsimp only at hSw);go_simp;(try with_reducible rfl)
 (try simp only[Act.put,Ze,Zf,Zg]);refine wpAnyH_take (i:=1) (v:= ?_) rfl (by kernel_rfl) (by kernel_rfl) (by kernel_rfl) (fun _ _ _ h=>h) (Or.inl ⟨rfl,?_⟩) (by assumption) ?_;rotate_left 1
 ·intro w hSw;(try dsimp only at hSw);go_simp;(try with_reducible rfl)
 (try simp only[Act.put,Ze,Zf,Zg]);refine wpAnyH_take (i:=2) (v:= ?_) rfl (by kernel_rfl) (by kernel_rfl) (by kernel_rfl) (fun _ _ _ h=>h) (Or.inl ⟨rfl,?_⟩) (by assumption) ?_;rotate_left 1
 ·intro w hSw;(try dsimp only at hSw);go_simp;(try with_reducible rfl)
 (try simp only[Act.put,Ze,Zf,Zg]);refine wpAnyH_take (i:=3) (v:= ?_) rfl (by kernel_rfl) (by kernel_rfl) (by kernel_rfl) (fun _ _ _ h=>h) (Or.inl ⟨rfl,?_⟩) (by assumption) ?_;rotate_left 1
 ·intro w hSw;(try dsimp only at hSw);go_simp;(try with_reducible rfl)
 (try simp only[Act.put,Ze,Zf,Zg]);refine wpAnyH_take (i:=4) (v:= ?_) rfl (by kernel_rfl) (by kernel_rfl) (by kernel_rfl) (fun _ _ _ h=>h) (Or.inl ⟨rfl,?_⟩) (by assumption) ?_;rotate_left 1
 ·intro w hSw;(try dsimp only at hSw);go_simp;(try with_reducible rfl)
 (try simp only[Act.put,Ze,Zf,Zg]);refine wpAnyH_take (i:=5) (v:= ?_) rfl (by kernel_rfl) (by kernel_rfl) (by kernel_rfl) (fun _ _ _ h=>h) (Or.inl ⟨rfl,?_⟩) (by assumption) ?_;rotate_left 1
 ·intro w hSw;(try dsimp only at hSw);go_simp;(try with_reducible rfl)
 (try simp only[Act.put,Ze,Zf,Zg]);refine wpAnyH_ready (rs:=[6]) (by kernel_rfl) (by simp) ?_;refine AllReadyH.cons rfl (fun K hK=> ?_) AllReadyH.nil;(try simp only[Zo,Zp,Zq]);go_simp;go_at_call 112;refine(gz _ _).mono ?_;rintro e w1 ⟨he,hb⟩;rw[hn]at he;subst he;obtain⟨hc,hf⟩:=mV hb;have hz:w.heap.size+1<w1.heap.size:=(by have:=hb.size;simp at this;omega);have g03:w1.cell? ⟨w.heap.size,3,none⟩=some (.string (aB nm)):=aE hb (by simp [Zb]);have g04:w1.cell? ⟨w.heap.size,4,none⟩=some (.slice a len cap):=aE hb (by simp [Zb]);have g10:w1.cell? ⟨w.heap.size+1,0,none⟩=some (.int .i64 5):=aE hb (by simp [Zb]);have g11:w1.cell? ⟨w.heap.size+1,1,none⟩=some (.int .i64 0):=aE hb (by simp [Zb]);have g12:w1.cell? ⟨w.heap.size+1,2,none⟩=some (.int .i64 0):=aE hb (by simp [Zb]);have g13:w1.cell? ⟨w.heap.size+1,3,none⟩=some (.string (aB nm)):=aE hb (by simp [Zb]);have g14:w1.cell? ⟨w.heap.size+1,4,none⟩=some (.slice none 0 0):=aE hb (by simp [Zb])
 refine hK.out _ _ ?_ (fun hHeld=> ?_)
 ·(try dsimp only);(first|(simp [*,ay,Zb];done)|go_keep)
 clear hK K;(try simp only[Act.put,Ze,Zf,Zg]);refine wpAnyH_take (i:=7) (v:= ?_) rfl (by kernel_rfl) (by kernel_rfl) (by kernel_rfl) (fun _ _ _ h=>h) (Or.inl ⟨rfl,?_⟩) (by assumption) ?_;rotate_left 1
 ·intro w hSw;(try dsimp only at hSw);go_simp;(try with_reducible rfl)
 (try simp only[Act.put,Ze,Zf,Zg]);refine wpAnyH_take (i:=8) rfl (by kernel_rfl) (by kernel_rfl) (by kernel_rfl) (fun _ _ _ h=>h) (Or.inr ⟨rfl,rfl⟩) (by assumption) ?_;(try simp only[Act.put,Ze,Zf,Zg]);refine wpAnyH_take (i:=9) rfl (by kernel_rfl) (by kernel_rfl) (by kernel_rfl) (fun _ _ _ h=>h) (Or.inr ⟨rfl,rfl⟩) (by assumption) ?_;(try simp only[Act.put,Ze,Zf,Zg]);refine wpAnyH_take (i:=10) rfl (by kernel_rfl) (by kernel_rfl) (by kernel_rfl) (fun _ _ _ h=>h) (Or.inr ⟨rfl,rfl⟩) (by assumption) ?_;(try simp only[Act.put,Ze,Zf,Zg]);refine wpAnyH_take (i:=11) rfl (by kernel_rfl) (by kernel_rfl) (by kernel_rfl) (fun _ _ _ h=>h) (Or.inr ⟨rfl,rfl⟩) (by assumption) ?_;(try simp only[Act.put,Ze,Zf,Zg]);refine wpAnyH_take (i:=12) (v:= ?_) rfl (by kernel_rfl) (by kernel_rfl) (by kernel_rfl) (fun _ _ _ h=>h) (Or.inl ⟨rfl,?_⟩) (by assumption) ?_;rotate_left 1
 ·intro w hSw;(try dsimp only at hSw);go_simp;(try with_reducible rfl)
 (try simp only[Act.put,Ze,Zf,Zg]);refine wpAnyH_ready (rs:=[13]) (by kernel_rfl) (by simp) ?_;refine AllReadyH.cons rfl (fun K hK=> ?_) AllReadyH.nil;(try simp only[Zo,Zp,Zq]);go_simp
 refine hK.out _ _ ?_ (fun hHeld=> ?_)
 ·(try dsimp only);(first|(simp [*,ay,Zb];done)|go_keep)
 clear hK K;(try simp only[Act.put,Ze,Zf,Zg]);refine wpAnyH_ready (rs:=[14]) (by kernel_rfl) (by simp) ?_;refine AllReadyH.cons rfl (fun K hK=> ?_) AllReadyH.nil;(try simp only[Zo,Zp,Zq]);go_simp
 refine hK.out _ _ ?_ (fun hHeld=> ?_)
 ·(try dsimp only);(first|(simp [*,ay,Zb];done)|go_keep)
 clear hK K;(try simp only[Act.put,Ze,Zf,Zg]);refine wpAnyH_ready (rs:=[15]) (by kernel_rfl) (by simp) ?_;refine AllReadyH.cons rfl (fun K hK=> ?_) AllReadyH.nil;(try simp only[Zo,Zp,Zq]);go_simp
 refine hK.out _ _ ?_ (fun hHeld=> ?_)
 ·(try dsimp only);(first|(simp [*,ay,Zb];done)|go_keep)
 clear hK K;(try simp only[Act.put,Ze,Zf,Zg]);refine wpAnyH_done (by kernel_rfl) ?_ _;go_wp2_with fail
 all_goals(refine bodyPost_ret (v:= .tuple #[.agg #[.int .i64 5,.int .i64 0,.int .i64 0,.string (aB nm),.slice none 0 0],.int .i64 len,.bool false]) (by simp [results,Zk,go_sem,hc]) rfl ⟨rfl,?_⟩)
 all_goals(repeat(refine Zh ?_ (by simp) _))
 all_goals(exact((bA).alloc (by simp) _).drew.trans (hb.mono (by simp;omega)))
theorem uU(o n:Int)(nm:Bs)(s:Value)(w:World):
  Calls Zc 122 #[.agg #[.int .i64 6,.int .i64 o,.int .i64 n,.string (aB nm),s]] w fun r w'=>r= .returned (.tuple #[.agg #[.int .i64 6,.int .i64 0,.int .i64 0,.string (aB nm),.slice none 0 0],.int .i64 1,.bool (aY nm)])∧Below w.heap.size w w':=by
 go_enter Zi,Zj
 go_wp2_with fail
 go_region_held3 (fun w'=>w'.cell? ⟨w.heap.size,3,none⟩=some (.string (aB nm))∧w'.cell? ⟨w.heap.size+1,0,none⟩=some (.int .i64 6)∧w'.cell? ⟨w.heap.size+1,1,none⟩=some (.int .i64 0)∧w'.cell? ⟨w.heap.size+1,2,none⟩=some (.int .i64 0)∧w'.cell? ⟨w.heap.size+1,3,none⟩=some (.string (aB nm))∧w'.cell? ⟨w.heap.size+1,4,none⟩=some (.slice none 0 0)) (first|(simp [*,ay,Zb];done)|go_keep) (first|(go_at_call 112;refine(gz _ _).mono ?_;rintro e w1 ⟨he,hb⟩;subst he;obtain⟨hc,hf⟩:=mV hb;have hz:w.heap.size+1<w1.heap.size:=(by have:=hb.size;simp at this;omega);have g03:w1.cell? ⟨w.heap.size,3,none⟩=some (.string (aB nm)):=aE hb (by simp [Zb]);have g10:w1.cell? ⟨w.heap.size+1,0,none⟩=some (.int .i64 6):=aE hb (by simp [Zb]);have g11:w1.cell? ⟨w.heap.size+1,1,none⟩=some (.int .i64 0):=aE hb (by simp [Zb]);have g12:w1.cell? ⟨w.heap.size+1,2,none⟩=some (.int .i64 0):=aE hb (by simp [Zb]);have g13:w1.cell? ⟨w.heap.size+1,3,none⟩=some (.string (aB nm)):=aE hb (by simp [Zb]);have g14:w1.cell? ⟨w.heap.size+1,4,none⟩=some (.slice none 0 0):=aE hb (by simp [Zb])))
 go_wp2_with fail
 all_goals(refine bodyPost_ret (v:= .tuple #[.agg #[.int .i64 6,.int .i64 0,.int .i64 0,.string (aB nm),.slice none 0 0],.int .i64 1,.bool (aY nm)]) (by simp [results,Zk,go_sem,hc]) rfl ⟨rfl,?_⟩)
 all_goals(repeat(refine Zh ?_ (by simp) _))
 all_goals(exact((bA).alloc (by simp) _).drew.trans (hb.mono (by simp;omega)))
theorem xB(o n:Int)(nm:Bs)(s:Value)(w:World):
  Calls Zc 122 #[.agg #[.int .i64 7,.int .i64 o,.int .i64 n,.string (aB nm),s]] w fun r w'=>r= .returned (.tuple #[.agg #[.int .i64 7,.int .i64 0,.int .i64 0,.string (aB []),.slice none 0 0],.int .i64 0,.bool true])∧Below w.heap.size w w':=by
 go_enter Zi,Zj
 go_wp2_with fail
 all_goals(refine bodyPost_ret (v:= .tuple #[.agg #[.int .i64 7,.int .i64 0,.int .i64 0,.string (aB []),.slice none 0 0],.int .i64 0,.bool true]) (by simp [results,Zk,go_sem]) rfl ⟨rfl,?_⟩)
 all_goals(repeat(first|exact Zd _ _|refine Zh ?_ (by simp) _|refine Zn ?_ |refine Zm ?_ (by simp) _))
theorem uO(k:Int)(h1:(k==1)=false)(h2:(k==2)=false)(h3:(k==3)=false)(h4:(k==4)=false)(h5:(k==5)=false)(h6:(k==6)=false)(h7:(k==7)=false)(o n:Int)(nm:Bs)(s:Value)(w:World):
  Calls Zc 122 #[.agg #[.int .i64 k,.int .i64 o,.int .i64 n,.string (aB nm),s]] w fun r w'=>r= .returned (.tuple #[.agg #[.int .i64 k,.int .i64 0,.int .i64 0,.string (aB []),.slice none 0 0],.int .i64 0,.bool false])∧Below w.heap.size w w':=by
 go_enter Zi,Zj
 go_wp2_with fail
 all_goals(refine bodyPost_ret (v:= .tuple #[.agg #[.int .i64 k,.int .i64 0,.int .i64 0,.string (aB []),.slice none 0 0],.int .i64 0,.bool false]) (by simp [results,Zk,go_sem]) rfl ⟨rfl,?_⟩)
 all_goals(repeat(first|exact Zd _ _|refine Zh ?_ (by simp) _|refine Zn ?_ |refine Zm ?_ (by simp) _))
theorem xL(e:Ex)(a:Option Addr)(cap:Nat)(w:World):
  Calls Zc 122 #[exV e (.slice a e.args.length cap)] w fun r w'=>r= .returned (.tuple #[.agg #[.int .i64 e.kind,.int .i64 (fG e),.int .i64 (gd e),.string (aB (dE e)),.slice none 0 0],.int .i64 (cB e),.bool (eG e)])∧Below w.heap.size w w':=by
 obtain⟨k,o,n,nm,args⟩:=e;show Calls _ _ #[.agg #[.int .i64 k,.int .i64 o,.int .i64 n,.string (aB nm),.slice a args.length cap]] _ _
 have key:∀ {R R':Ending→World→Prop},R=R'→Calls Zc 122 #[.agg #[.int .i64 k,.int .i64 o,.int .i64 n,.string (aB nm),.slice a args.length cap]] w R→Calls Zc 122 #[.agg #[.int .i64 k,.int .i64 o,.int .i64 n,.string (aB nm),.slice a args.length cap]] w R':=fun h=>h ▸ id
 by_cases h1:k=1
 ·subst h1;exact yM _ _ _ _ _
 by_cases h2:k=2
 ·subst h2;exact y7 _ _ _ _ _
 by_cases h3:k=3
 ·subst h3
  by_cases q1:o=17
  ·subst q1;exact tw _ _ _ _
  by_cases q2:o=18
  ·subst q2;exact tO _ _ _ _
  by_cases q3:o=19
  ·subst q3;exact uW _ _ _ _
  refine key ?_ (xr o n nm _ w q1 q2 q3);simp [fG,gd,dE,cB,eG,Ex.kind,Ex.op,q1,q2,q3]
 by_cases h4:k=4
 ·subst h4;exact xh _ _ _ _ _
 by_cases h5:k=5
 ·subst h5
  cases hn:aY nm
  ·refine key ?_ (sq o n nm a args.length cap hn w)
   simp [fG,gd,dE,cB,eG,Ex.kind,Ex.name,Ex.args,hn]
  ·refine key ?_ (wb o n nm a args.length cap hn w)
   simp [fG,gd,dE,cB,eG,Ex.kind,Ex.name,Ex.args,hn];rfl
 by_cases h6:k=6
 ·subst h6;exact uU _ _ _ _ _
 by_cases h7:k=7
 ·subst h7;exact xB _ _ _ _ _
 refine key ?_ (uO k (by simpa using h1) (by simpa using h2) (by simpa using h3) (by simpa using h4) (by simpa using h5) (by simpa using h6) (by simpa using h7) o n nm _ w);simp [fG,gd,dE,cB,eG,Ex.kind,h1,h2,h3,h4,h5,h6,h7]
def qN(e:Ex):Prop:= ∀(D:Nat→Prop) (s:Value) (w:World),aJ D w e.args s→
 Calls Zc 62 #[exV e s] w fun r w'=>r= .returned (.bool (bZ e))∧Below w.heap.size w w'
theorem well_fn(e:Ex)(ih:qN e)(D:Nat→Prop)(s:Value)(w:World)(h:aJ D w e.args s):
  Calls Zc 123 #[exV e s] w fun r w'=>r= .returned (.bool (!wellOk e))∧Below w.heap.size w w':=by
 have H:=Za h;clear h;have IH:=Za ih;clear ih;go_enter Tryz.func123,Tryz.ntmps123
 go_wp2_with fail
 refine(IH.out D s _ (H.out.old (bA))).mono ?_;rintro r w1 ⟨rfl,hb⟩;go_wp2_with fail
 go_ret
 exact⟨rfl,(bA).trans (hb.mono (by simp))⟩
theorem vU(e:Ex)(ih:∀x,x∈e.args→qN x):qN e:=by
 intro D s w h;have H:=Za h;have IH:=Za ih;clear ih;generalize hl:e.args=l at h
 cases h with
 |mk _ a cap b off sv hcap hfit ha h0 h1 h2 h3 h4 hs=>
  subst hl;clear hcap hfit ha h0 h1 h2 h3 h4 hs;have HO:=Za (xL e a cap ((w.alloc (.cells #[.int .i64 e.kind,.int .i64 e.op,.int .i64 e.n,.string (aB e.name),.slice a e.args.length cap] 27))));go_enter Tryz.func62,Tryz.ntmps62
  go_wp2_with fail
  refine HO.out.mono ?_;rintro r w1 ⟨rfl,hb⟩;obtain⟨hc,hf⟩:=mV hb;have hz:w.heap.size<w1.heap.size:=by have:=hb.size;simp at this;omega
  go_wp2_with fail
  ·refine(iy 123 #[] Tryz.call123 e.args _ D _ (((H.out.old (bA)).old hb).old (bA)) (fun x=> !wellOk x) ?_).mono ?_
   ·intro x s' w2 hx _ hs
    exact well_fn x (IH.out x hx) D s' w2 hs
   ·rintro r w2 ⟨rfl,hb2⟩
    go_wp2_with fail
    go_ret
    refine⟨aT ?_,(((bA).trans (hb.mono (by simp))).alloc (by omega) _).trans (hb2.mono (by simp;omega))⟩;rw[gu];simp [bY, *,Zr]
  all_goals
   go_ret
   refine⟨aT ?_,((bA).trans (hb.mono (by simp))).alloc (by omega) _⟩;rw[gu];simp [bY, *]
theorem ri:∀(n:Nat) (e:Ex),SizeOf.sizeOf e≤n→qN e
 |0,e,h=>by cases e;simp at h
 |n+1,e,h=>vU e fun x hx=>ri n x (by have:=Ex.size_lt hx;omega)
theorem iN(e:Ex)(D:Nat→Prop)(s:Value)(w:World)(h:aJ D w e.args s):
  Calls Zc 28 #[exV e s] w fun r w'=>r= .returned (.bool (cR e))∧Below w.heap.size w w':=by
 have H:=Za h;clear h;have E:Hid (cR e=(gU 40 e && bZ e)):=rfl;go_enter Tryz.func28,Tryz.ntmps28
 go_wp2_with fail
 refine(rt 40 (by omega) D e s _ (H.out.old (bA))).mono ?_;rintro r w1 ⟨rfl,hb⟩;obtain⟨hc,hf⟩:=mV hb
 cases hd:gU 40 e
 ·have HD:=Za hd;clear hd
  go_wp2_with fail
  go_ret
  exact⟨aT (by rw[E.out,HD.out];rfl),(bA).trans (hb.mono (by simp))⟩
 ·have HD:=Za hd;clear hd
  go_wp2_with fail
  refine(ri _ e (Zl _) D s _ ((H.out.old (bA)).old hb)).mono ?_;rintro r w2 ⟨rfl,hb2⟩;go_wp2_with fail
  go_ret
  exact⟨aT (by rw[E.out,HD.out];rfl),(bA).trans ((hb.mono (by simp)).trans (hb2.mono (by have:=hb.size;simp at this;omega)))⟩
theorem wF {Ix:Type}(F:Ix→World){P:Program}{id:Nat}{Q:Exit→Act→World→Prop}{a:Act}{w:World}{l:List Oper}(hm:P.follows .mixedOrders=true)(hB:Region.lexB .any l.toArray=true)(hC:∃n,w.drew=F n)
  (h:wpQuiet P l.toArray (fun w'=> ∃n,w'=F n) (fun a'=> ∀w',(∃n,w'=F n)→Q .normal a' w') l a):(Code.region id l.toArray true).wp P Q a w:=
 wp_region_quiet (C:=fun w'=> ∃n,w'=F n) hm hB hC (by simpa using h)
abbrev Lat(w:World):Type:= {w':World // Below w.heap.size w w'}
theorem lat_fun(wr:World):∃(Ix:Type) (_:Nonempty Ix) (F:Ix→World),Hid (∀n,Below wr.heap.size wr (F n))∧Hid (∀w',Below wr.heap.size wr w'→∃n,w'=F n):=⟨Lat wr,⟨⟨wr,Zd _ _⟩⟩,fun n=>n.1,fun n=>n.2,fun w' h=>⟨⟨w',h⟩,rfl⟩⟩
theorem x9 {a b c d:Bool}{n:Int}{k:Int}(h1:a=dN k)(h2:n=cq k)(h3:b=ft k)(h4:c=fw k)(h5:d=fOk k):
  Ending.returned (.tuple #[.agg #[.bool a,.int .i64 n,.bool b,.bool c],.bool d])= .returned (.tuple #[.agg #[.bool (dN k),.int .i64 (cq k),.bool (ft k),.bool (fw k)],.bool (fOk k)]):=by
 subst h1 h2 h3 h4 h5;rfl
theorem s9(k:Int)(w:World):
  Calls Zc 160 #[.int .i64 k] w fun r w'=>r= .returned (.tuple #[.agg #[.bool (dN k),.int .i64 (cq k),.bool (ft k),.bool (fw k)],.bool (fOk k)])∧Below w.heap.size w w':=by
 go_enter Tryz.func160,Tryz.ntmps160
 go_wp2
 all_goals(refine bodyPost_ret (by simp [results,Tryz.results160,go_sem];rfl) rfl ?_)
 all_goals(refine⟨x9 ?_ ?_ ?_ ?_ ?_,by repeat(first|exact Zd _ _|refine Zh ?_ (by simp) _|refine Zm ?_ (Zl _) _)⟩)
 all_goals(simp only[beq_iff_eq,beq_eq_false_iff_ne,ne_eq]at*;simp [dN,cq,ft,fw,fOk, *]<;>omega)
theorem head_eq {l:List Ex}(h:0<l.length):l[0]=l.headD (.mk 0 0 0 [] []):=by cases l with|nil=>simp at h|cons x l=>rfl
theorem ui {α:Type}(l:List α):decide (0<l.length)= !l.isEmpty:=by cases l<;>simp
theorem stmt_fn(e:Ex)(D:Nat→Prop)(s:Value)(w:World)(h:aJ D w e.args s):
  Calls Zc 161 #[exV e s] w fun r w'=>r= .returned (.bool (!rightEx e))∧Below w.heap.size w w':=by
 have H:=Za h;clear h;go_enter Tryz.func161,Tryz.ntmps161
 go_wp2_with fail
 refine(iN e D s _ (H.out.old (bA))).mono ?_;rintro r w1 ⟨rfl,hb⟩;go_wp2_with fail
 go_ret
 exact⟨rfl,(bA).trans (hb.mono (by simp))⟩
def zZ(m:Nat):Prop:= ∀(D:Nat→Prop) (l:List St) (v:Value) (w:World),aR D w l v→
 Calls Zc 50 #[v,.int .i64 m] w fun r w'=>r= .returned (.bool (l.all (dD m)))∧Below w.heap.size w w'
def StOf(m:Nat):Prop:= ∀(D:Nat→Prop) (x:St) (a t e:Value) (w:World),aJ D w x.args a→aR D w x.thn t→aR D w x.els e→
 Calls Zc 115 #[stV x a t e,.int .i64 m] w fun r w'=>r= .returned (.bool (dD m x))∧Below w.heap.size w w'
set_option maxHeartbeats 20000000 in
theorem o8(m:Nat)(hm:m≤1000)(ih:0<m→zZ (m - 1)):StOf m:=by
 intro D x a0 t0 e0 w ha ht he;have IH:=Za ih;clear ih;have HA:=Za ha;have HT:=Za ht;have HE:=Za he;clear ha ht he;obtain⟨aa,ca,rfl⟩:∃aa ca,a0= .slice aa x.args.length ca:=HA.out.shape;obtain⟨at',ct,rfl⟩:∃aa ca,t0= .slice aa x.thn.length ca:=HT.out.shape;obtain⟨ae,ce,rfl⟩:∃aa ca,e0= .slice aa x.els.length ca:=HE.out.shape;have hm1:(m:Int)≤1000:=by omega
 have hm0:(0:Int)≤m:=by omega
 go_enter Tryz.func115,Tryz.ntmps115
 go_upto_region 2 with(first|(go_at_call 160;refine(s9 _ _).mono ?_;rintro e w1 ⟨rfl,hb⟩;obtain⟨hc,hf⟩:=mV hb;have hz:w.heap.size<w1.heap.size:=(by have:=hb.size;simp at this;omega)))
 go_cut [6,48] (fun _ s48 wx=>s48= .bool (gY m x)∧wx=w1.alloc (.cells #[.bool (dN x.kind),.int .i64 (cq x.kind),.bool (ft x.kind),.bool (fw x.kind)] 184))
 case first=>
  cases b0:fOk x.kind
  ·go_wp2_with fail
   go_meet;exact⟨by simp [gY,b0],rfl⟩
  cases b1:((m:Int)==0)
  case true=>
   go_wp2_with fail
   go_meet;exact⟨by simp [gY,b1],rfl⟩
  cases b2:((x.args.length:Int)==cq x.kind)
  ·have b2':((x.args.length:Int) !=cq x.kind)=true:=by simp [bne,b2]
   go_wp2_with fail
   go_meet;exact⟨by simp [gY,b2],rfl⟩
  have b2':((x.args.length:Int) !=cq x.kind)=false:=by simp [bne,b2]
  have t1:=ui x.thn;have e1:=ui x.els
  cases b3:ft x.kind<;>cases b4:x.thn.isEmpty<;>cases b5:fw x.kind<;>cases b6:x.els.isEmpty
  all_goals
   rw[b4]at t1;rw[b6]at e1;have E:Hid (gY m x=((!fThen x.kind && !x.thn.isEmpty)||(!fMore x.kind && !x.els.isEmpty))):=(by show _=_;simp [gY,b0,b1,b2]);rw[b3,b4,b5,b6]at E;clear b4 b6;simp only[Bool.not_true,Bool.not_false]at t1 e1;go_wp2_with fail
   go_meet;exact⟨by rw[E.out];rfl,by rw[b3,b5]⟩
 case rest=>
  obtain⟨rfl,rfl⟩:=hcut;have hBW:Below w.heap.size w (w1.alloc (.cells #[.bool (dN x.kind),.int .i64 (cq x.kind),.bool (ft x.kind),.bool (fw x.kind)] 184)):=
   ((bA).trans (hb.mono (by simp))).alloc (by omega) _
  have f0:(w1.alloc (.cells #[.bool (dN x.kind),.int .i64 (cq x.kind),.bool (ft x.kind),.bool (fw x.kind)] 184)).cell? ⟨w1.heap.size,0,none⟩=some (.bool (dN x.kind)):=by simp
  have k0:=aE ((Zd w1.heap.size w1).alloc (Zl _) (.cells #[.bool (dN x.kind),.int .i64 (cq x.kind),.bool (ft x.kind),.bool (fw x.kind)] 184)) (a:=⟨w.heap.size,0,none⟩) (x:= .int .i64 x.kind) (aE hb (by simp));have k1:=aE ((Zd w1.heap.size w1).alloc (Zl _) (.cells #[.bool (dN x.kind),.int .i64 (cq x.kind),.bool (ft x.kind),.bool (fw x.kind)] 184)) (a:=⟨w.heap.size,1,none⟩) (x:= .string (aB x.name)) (aE hb (by simp));have k2:=aE ((Zd w1.heap.size w1).alloc (Zl _) (.cells #[.bool (dN x.kind),.int .i64 (cq x.kind),.bool (ft x.kind),.bool (fw x.kind)] 184)) (a:=⟨w.heap.size,2,none⟩) (x:= .slice aa x.args.length ca) (aE hb (by simp));have k3:=aE ((Zd w1.heap.size w1).alloc (Zl _) (.cells #[.bool (dN x.kind),.int .i64 (cq x.kind),.bool (ft x.kind),.bool (fw x.kind)] 184)) (a:=⟨w.heap.size,3,none⟩) (x:= .slice at' x.thn.length ct) (aE hb (by simp));have k4:=aE ((Zd w1.heap.size w1).alloc (Zl _) (.cells #[.bool (dN x.kind),.int .i64 (cq x.kind),.bool (ft x.kind),.bool (fw x.kind)] 184)) (a:=⟨w.heap.size,4,none⟩) (x:= .slice ae x.els.length ce) (aE hb (by simp));have hz2:w1.heap.size<(w1.alloc (.cells #[.bool (dN x.kind),.int .i64 (cq x.kind),.bool (ft x.kind),.bool (fw x.kind)] 184)).heap.size:=by simp
  clear hb hc hf;generalize w1.alloc (.cells #[.bool (dN x.kind),.int .i64 (cq x.kind),.bool (ft x.kind),.bool (fw x.kind)] 184)=W2 at hBW f0 k0 k1 k2 k3 k4 hz2 ⊢;have HBW:=Za hBW;clear hBW
  cases q1:gY m x
  case true=>
   have Q1:=Za q1;clear q1;go_wp2_with fail
   go_ret
   refine⟨aT ?_,HBW.out⟩
   cases m with
   |zero=>rfl
   |succ m=>
    have q:=Q1.out;rw[show((m+1:Nat):Int)=(m:Int)+1 from by omega]at q;simp only[dD,q];rfl
  have Q1:=Za q1;clear q1;go_upto_region 4 with(fail)
  go_cut [77] (fun s77 wx=>s77= .bool (nS x)∧Below W2.heap.size W2 wx)
  case first=>
   have E:Hid (nS x=(!(dN x.kind==aY x.name)||(!fNamed x.kind && !(x.name==[]))||(x.kind==10 && !((x.args.headD (.mk 0 0 0 [] [])).kind==5)))):=rfl;obtain⟨Ix,hIx,F,HFB,HFI⟩:=lat_fun W2;have HCL:Hid (∀n,Calls Zc 112 #[.string (aB x.name)] (F n) fun e w'=>e= .returned (.bool (aY x.name))∧∃m,w'=F m):=fun n=>by
    refine(gz x.name (F n)).mono ?_;rintro e w' ⟨he,hb⟩;exact⟨he,HFI.out w' ((HFB.out n).trans (hb.mono (HFB.out n).size))⟩
   have g0:∀n,(F n).cell? ⟨w1.heap.size,0,none⟩=some (.bool (dN x.kind)):=fun n=>aE (HFB.out n) f0
   have g1:∀n,(F n).cell? ⟨w.heap.size,0,none⟩=some (.int .i64 x.kind):=fun n=>aE (HFB.out n) k0
   have g2:∀n,(F n).cell? ⟨w.heap.size,1,none⟩=some (.string (aB x.name)):=fun n=>aE (HFB.out n) k1
   have g3:∀n,(F n).cell? ⟨w.heap.size,2,none⟩=some (.slice aa x.args.length ca):=fun n=>aE (HFB.out n) k2
   have HST:Hid (∃n,W2.drew=F n):=HFI.out _ (Zd _ _).drew;refine wF F (by kernel_rfl) (by kernel_rfl) HST.out ?_;have fin:∀ {K:Act→World→Prop} {a:Act},(∀n,K a (F n))→∀w',(∃n,w'=F n)→K a w':=fun h w' ⟨n,e⟩=>e ▸ h n
   cases n1:dN x.kind<;>cases n2:aY x.name
   all_goals
    rw[n1,n2]at E;rw[n1]at g0;rw[n2]at HCL;clear k0 k1 k2 k3 k4 f0
   case false.false=>
    cases n4:(x.name==[])
    ·rw[n4]at E
     have n5:x.name.isEmpty=false:=by simpa using n4
     repeat(go_big_quiet_step ((go_at_call 112;exact HCL.out _)))
     refine wpQuiet_nil (fin fun nq=> ?_);go_wp2_with fail
     go_meet;exact⟨by rw[E.out];rfl,HFB.out nq⟩
    ·have n5:x.name.isEmpty=true:=by simpa using n4
     rw[n4]at E;clear n4
     cases n3:(x.kind==10)
     ·rw[n3]at E
      repeat(go_big_quiet_step ((go_at_call 112;exact HCL.out _)))
      refine wpQuiet_nil (fin fun nq=> ?_);go_wp2_with fail
      go_meet;exact⟨by rw[E.out];rfl,HFB.out nq⟩
     ·rw[n3]at E
      have hlen:x.args.length=1:=by
       have q:=Q1.out;simp [gY,show x.kind=10 by simpa using n3,cq,fOk,ft,fw]at q;omega
      obtain⟨b,off,rfl,z⟩:=HA.out.cell0 (by omega);have g4:∀n,(F n).cell? ⟨b,off,none⟩=some (.int .i64 (bI x.args 0).kind):=fun n=>aE (HFB.out n) (aE HBW.out z)
      have hl0:0<x.args.length:=by omega
      clear hlen z
      repeat(go_big_quiet_step ((go_at_call 112;exact HCL.out _)))
      refine wpQuiet_nil (fin fun nq=> ?_);go_wp2_with fail
      go_meet;exact⟨by rw[E.out,←head_eq hl0];simp [bne],HFB.out nq⟩
   case true.true=>
    have n3:(x.kind==10)=false:=by simp [dN]at n1;simp;omega
    rw[n3]at E
    repeat(go_big_quiet_step ((go_at_call 112;exact HCL.out _)))
    refine wpQuiet_nil (fin fun nq=> ?_);go_wp2_with fail
    go_meet;exact⟨by rw[E.out];rfl,HFB.out nq⟩
   all_goals
    repeat(go_big_quiet_step ((go_at_call 112;exact HCL.out _)))
    refine wpQuiet_nil (fin fun nq=> ?_);go_wp2_with fail
    go_meet;exact⟨by rw[E.out];rfl,HFB.out nq⟩
  case rest=>
   obtain⟨rfl,hb2⟩:=hcut;have HB2:=Za (HBW.out.trans (hb2.mono (by have:=HBW.out.size;omega)));have j2:=aE hb2 k2;have j3:=aE hb2 k3;have j4:=aE hb2 k4;have hs2:=hb2.size;clear f0 k0 k1 k2 k3 k4 hb2
   cases q2:nS x
   case true=>
    have Q2:=Za q2;clear q2;go_wp2_with fail
    go_ret
    refine⟨aT ?_,HB2.out⟩
    cases m with
    |zero=>rfl
    |succ m=>simp [dD,Q2.out]
   have Q2:=Za q2;clear q2;have hmp:Hid (0<m):=by
    cases m with
    |zero=>have q:=Q1.out;simp [gY]at q
    |succ m=>exact Nat.succ_pos m
   obtain⟨m',hm'⟩:∃m',m=m'+1:=⟨m - 1,by have:=hmp.out;omega⟩;have EM:Hid (dD m x=(!stBad1 m x && !stBad2 x && x.args.all cR && x.thn.all (dD (m - 1)) && x.els.all (dD (m - 1)))):=by
    show _=_
    subst hm';simp only[dD,Nat.add_sub_cancel];rw[show((m'+1:Nat):Int)=(m':Int)+1 from by omega]
   clear hm';have hsub:Hid (((m - 1:Nat):Int)=(m:Int) - 1):=by show _=_;have:=hmp.out;omega
   have hm2:1≤(m:Int):=by have:=hmp.out;omega
   go_wp2_with fail
   refine(iy 161 #[] Tryz.call161 x.args _ D _ (HA.out.old HB2.out) (fun e=> !rightEx e) (fun e s' w3 _ _ hs=>stmt_fn e D s' w3 hs)).mono ?_;rintro r w3 ⟨rfl,hb3⟩;have l3:=aE hb3 j3;have l4:=aE hb3 j4;have HB3:=Za (HB2.out.trans (hb3.mono (by omega)));have hs3:=hb3.size;clear j2 j3 j4 hb3;have A1:x.args.any (fun e=> !rightEx e)= !x.args.all cR:=by simp [Zr]
   rw[A1];clear A1
   cases qa:x.args.all cR
   ·have QA:=Za qa;clear qa
    go_wp2_with fail
    go_ret
    exact⟨aT (by rw[EM.out,QA.out];simp),HB3.out⟩
   have QA:=Za qa;clear qa;go_wp2_with fail
   rw[←hsub.out];refine(IH.out hmp.out D x.thn _ _ (HT.out.old HB3.out)).mono ?_;rintro r w4 ⟨rfl,hb4⟩;have m4:=aE hb4 l4;have HB4:=Za (HB3.out.trans (hb4.mono (by omega)));have hs4:=hb4.size;clear l3 l4 hb4
   cases qt:x.thn.all (dD (m - 1))
   ·have QT:=Za qt;clear qt
    go_wp2_with fail
    go_ret
    exact⟨aT (by rw[EM.out,QA.out,QT.out];simp),HB4.out⟩
   have QT:=Za qt;clear qt;go_wp2_with fail
   rw[←hsub.out];refine(IH.out hmp.out D x.els _ _ (HE.out.old HB4.out)).mono ?_;rintro r w5 ⟨rfl,hb5⟩;have HB5:=Za (HB4.out.trans (hb5.mono (by omega)));clear m4 hb5;go_wp2_with fail
   go_ret
   exact⟨aT (by rw[EM.out,QA.out,QT.out,Q1.out,Q2.out];simp),HB5.out⟩
theorem xd(m:Nat)(hm:m≤1000)(ih:StOf m)(D:Nat→Prop)(x:St)(a t e:Value)(w:World)(ha:aJ D w x.args a)(ht:aR D w x.thn t)(he:aR D w x.els e)(B:Nat)(hB:w.cell? ⟨B,0,none⟩=some (.int .i64 m)):
  Calls Zc 114 #[stV x a t e,.pointer (some ⟨B,0,none⟩)] w fun r w'=>r= .returned (.bool (!stOk m x))∧Below w.heap.size w w':=by
 have HA:=Za ha;have HT:=Za ht;have HE:=Za he;clear ha ht he;have hBl:B<w.heap.size:=World.block_lt_of_cell? _ _ hB;go_enter Tryz.func114,Tryz.ntmps114
 go_wp2_with fail
 refine(ih D x a t e _ (HA.out.old (bA)) (HT.out.old (bA)) (HE.out.old (bA))).mono ?_;rintro r w1 ⟨rfl,hb⟩;go_wp2_with fail
 go_ret
 exact⟨rfl,(bA).trans (hb.mono (by simp))⟩
theorem nG(m:Nat)(hm:m≤1000)(ih:StOf m):zZ m:=by
 intro D l v w h;have H:=Za h;clear h;have IH:=Za ih;clear ih;go_enter Tryz.func50,Tryz.ntmps50
 go_wp2_with fail
 refine(qf 114 _ Tryz.call114 l v D _ (H.out.old (bA)) (fun x=> !stOk m x) ?_).mono ?_
 ·intro x a t e w1 _ hb ha ht he
  exact xd m hm IH.out D x a t e w1 ha ht he _ (aE hb (by simp))
 ·rintro r w1 ⟨rfl,hb⟩
  go_wp2_with fail
  go_ret
  exact⟨aT (by simp [Zr]),(bA).trans (hb.mono (by simp))⟩
theorem rm:∀m,m≤1000→StOf m∧zZ m
 |0,h=>have a:=o8 0 h (fun h=>by omega);⟨a,nG 0 h a⟩
 |m+1,h=>have a:=o8 (m+1) h (fun _=>(rm m (by omega)).2);⟨a,nG (m+1) h a⟩
theorem xq(s:Bs)(w:World):
  Calls Zc 111 #[.string (aB s)] w fun r w'=>r= .returned (.bool (!isName s))∧Below w.heap.size w w':=by
 go_enter Tryz.func111,Tryz.ntmps111
 go_wp2_with fail
 refine(gz s _).mono ?_;rintro r w1 ⟨rfl,hb⟩;go_wp2_with fail
 go_ret
 exact⟨rfl,hb⟩
theorem jn(l:List Bs)(v:Value)(D:Nat→Prop)(w:World)(h:ag D w l v):
  Calls Zc 49 #[v] w fun r w'=>r= .returned (.bool (l.all aY))∧Below w.heap.size w w':=by
 obtain⟨a,cap,b,off,rfl,h1,h2,h3,h4⟩:=h;have HC:=Za (oo a l.length cap 111 #[] Tryz.call111 w (fun i=> .string (aB (l.getD i []))) (fun i=> !isName (l.getD i [])) (h2).out
  (h3.imp id fun h=>⟨b,off,h.1,h4⟩) (fun i _ w1 _=>xq _ w1))
 clear h1 h2 h3 h4;have E:Hid ((!anyN (fun i=> !isName (l.getD i [])) l.length)=l.all aY):=by
  show _=_
  rw[mI (fun s=> !isName s) _ l (fun i hi=>by simp [List.getElem?_eq_getElem hi])];simp [Zr]
 go_enter Tryz.func49,Tryz.ntmps49
 go_wp2_with fail
 refine HC.out.mono ?_;rintro r w1 ⟨rfl,hb⟩;go_wp2_with fail
 go_ret
 exact⟨aT E.out,hb⟩
theorem ph(p:Pr)(D:Nat→Prop)(sa sf:Value)(w:World)(ha:bK D w p.arrays sa)(hf:bM D w p.funcs sf):
  Calls Zc 24 #[.agg #[sa,sf]] w fun r w'=>r= .returned (.bool (dS p))∧Below w.heap.size w w':=by
 obtain⟨aa,ca,ba,oa,rfl,a1,a2,a3,a4⟩:=ha;obtain⟨af,cf,bf,of',pv,lv,bv,rfl,f1,f2,f3,f4⟩:=hf;have la:=a2.lt;have lf:=f2.lt;have A3:=Za a3;have A4:=Za a4;have F3:=Za f3;have F4:=Za f4;have E:Hid (dS p=(p.arrays.all cg && p.funcs.all du)):=rfl;clear a1 a2 a3 a4 f1 f2 f3 f4;go_enter Tryz.func24,Tryz.ntmps24
 go_wp2_with fail
 have HW:Hid (Below w.heap.size w (w.alloc (.cells #[.slice aa p.arrays.length ca,.slice af p.funcs.length cf] 34))):=bA;have c1:(w.alloc (.cells #[.slice aa p.arrays.length ca,.slice af p.funcs.length cf] 34)).cell? ⟨w.heap.size,1,none⟩=some (.slice af p.funcs.length cf):=by simp
 have hz0:w.heap.size<(w.alloc (.cells #[.slice aa p.arrays.length ca,.slice af p.funcs.length cf] 34)).heap.size:=by simp
 generalize w.alloc (.cells #[.slice aa p.arrays.length ca,.slice af p.funcs.length cf] 34)=W at HW c1 hz0 ⊢
 go_loopw [2,4,10] (fun s2 _ s10 wr=> ∃k:Nat,k≤p.arrays.length∧s10= .int .i64 k∧s2= .bool false∧(∀i,i<k→cg (gV p.arrays i)=true)∧Below W.heap.size W wr) (fun _ _ s10 _=>p.arrays.length - (intOf s10).toNat)
 case atStart=>exact⟨0,Nat.zero_le _,rfl,rfl,fun i hi=>by omega,Zd _ _⟩
 case round=>
  obtain⟨k,hk,rfl,rfl,hall,hb⟩:=hrel;have ALL:=Za hall;clear hall;have HB:=Za (HW.out.trans (hb.mono (by omega)));have HBW:=Za hb;have hzr:w.heap.size<wr.heap.size:=by have:=hb.size;omega
  have c2:=aE hb c1;clear hb
  by_cases hlt:k<p.arrays.length
  ·obtain⟨rfl,_⟩:aa=some ⟨ba,oa,none⟩∧D ba:=by rcases A3.out with h|h;omega;exact h
   obtain⟨g0,g1⟩:=A4.out k hlt;have e0:=aE HB.out g0;have e1:=aE HB.out g1;clear g0 g1;generalize hAk:gV p.arrays k=A at e0 e1;have HAK:=Za hAk;clear hAk;have RA:Hid (cg A=(aY A.name && decide (1≤A.size∧A.size≤1048576))):=rfl;go_wp2_with fail
   refine(jn [A.name] _ (fun _=>True) _ ⟨some ⟨wr.heap.size+1,0,none⟩,1,wr.heap.size+1,0,rfl,Zl _,by show _≤_;simp,.inr ⟨rfl,trivial⟩,fun i hi=>by obtain rfl:i=0:=(by simp at hi;omega);simp⟩).mono ?_;rintro r w3 ⟨rfl,hb3⟩;have hbr:Below wr.heap.size wr w3:=((bA).alloc (by simp) _).trans (hb3.mono (by simp;omega));have d1:w3.cell? ⟨wr.heap.size,1,none⟩=some (.int .i64 A.size):=aE hb3 (by simp [Zb]);have HBR:=Za hbr;have HB3:=Za (HB.out.trans (hbr.mono (by omega)));clear hb3 hbr;rw[show([A.name].all aY)=aY A.name from by simp];have bad:Hid (cg A=false→dS p=false):=fun h=>by
    rw[E.out,ky p.arrays Ar.nil cg k hlt (by rw[show p.arrays.getD k Ar.nil=A from HAK.out];exact h)];rfl
   cases q1:aY A.name
   ·have Q1:=Za q1;clear q1
    go_wp2_with fail
    go_ret
    exact⟨aT (bad.out (by rw[RA.out,Q1.out];rfl)).symm,HB3.out⟩
   have Q1:=Za q1;clear q1
   by_cases q2:1≤A.size
   ·by_cases q3:A.size≤1048576
    ·go_wp2_with fail
     go_roundw
     case rel=>
      refine⟨k+1,by omega,by go_num,rfl,fun i hi=> ?_,HBW.out.trans (HBR.out.mono HBW.out.size)⟩;rcases Nat.lt_succ_iff_lt_or_eq.1 hi with h|rfl
      ·exact ALL.out i h
      ·rw[HAK.out,RA.out,Q1.out];simp [q2,q3]
     case measure=>simp [intOf];omega
    ·go_wp2_with fail
     go_ret
     exact⟨aT (bad.out (by rw[RA.out,Q1.out];simp;omega)).symm,HB3.out⟩
   ·go_wp2_with fail
    go_ret
    exact⟨aT (bad.out (by rw[RA.out,Q1.out];simp;omega)).symm,HB3.out⟩
  ·have hkn:k=p.arrays.length:=by omega
   have EA:Hid (p.arrays.all cg=true):=pV p.arrays Ar.nil cg (fun i hi=>ALL.out i (by omega));clear hkn;go_wp2_with fail
   go_loopw [2,6,33] (fun s2 _ s33 wx=> ∃j:Nat,j≤p.funcs.length∧s33= .int .i64 j∧s2= .bool false∧(∀i,i<j→du (cZ p.funcs i)=true)∧Below wr.heap.size wr wx) (fun _ _ s33 _=>p.funcs.length - (intOf s33).toNat)
   case atStart=>exact⟨0,Nat.zero_le _,rfl,rfl,fun i hi=>by omega,Zd _ _⟩
   case round=>
    clear c1 c2;obtain⟨j,hj,rfl,rfl,hall,hb⟩:=hrel;have ALF:=Za hall;clear hall
    rename World=>wx
    have HBX:=Za (HB.out.trans (hb.mono (by omega)));have HBY:=Za hb;clear hb
    by_cases hlj:j<p.funcs.length
    ·obtain⟨rfl,_⟩:af=some ⟨bf,of',none⟩∧D bf:=by rcases F3.out with h|h;omega;exact h
     obtain⟨⟨g0,g1,g2,g3⟩,gp,gl,gb⟩:=F4.out j hlj;have e0:=aE HBX.out g0;have e1:=aE HBX.out g1;have e2:=aE HBX.out g2;have e3:=aE HBX.out g3;have GP:=Za (gp.old HBX.out);have GL:=Za (gl.old HBX.out);have GB:=Za (gb.old HBX.out);clear g0 g1 g2 g3 gp gl gb;generalize hAk:cZ p.funcs j=A at e0 GP GL GB;generalize pv j=P1 at e1 GP;generalize lv j=L1 at e2 GL;generalize bv j=B1 at e3 GB;have HAK:=Za hAk;clear hAk;obtain⟨pa,pc,hpv⟩:∃a cap,P1= .slice a A.params.length cap:=by obtain⟨a,cap,_,_,h,_⟩:=GP.out;exact⟨a,cap,h⟩
     subst hpv;obtain⟨qa,qc,hqv⟩:∃a cap,L1= .slice a A.locals.length cap:=by obtain⟨a,cap,_,_,h,_⟩:=GL.out;exact⟨a,cap,h⟩
     subst hqv;obtain⟨ra,rc,hrv⟩:∃a cap,B1= .slice a A.body.length cap:=GB.out.shape;subst hrv;have RA:Hid (du A=(aY A.name && A.params.all aY && A.locals.all aY && decide (A.params.length≤6) && A.body.all (dD 40))):=rfl;have bad:Hid (du A=false→dS p=false):=fun h=>by
      rw[E.out,EA.out,ky p.funcs Fu.nil du j hlj (by rw[show p.funcs.getD j Fu.nil=A from HAK.out];exact h)];rfl
     go_wp2_with fail
     refine(jn [A.name] _ (fun _=>True) _ ⟨some ⟨wx.heap.size+1,0,none⟩,1,wx.heap.size+1,0,rfl,Zl _,by show _≤_;simp,.inr ⟨rfl,trivial⟩,fun i hi=>by obtain rfl:i=0:=(by simp at hi;omega);simp⟩).mono ?_;rintro r w3 ⟨rfl,hb3⟩;have hbr:Below wx.heap.size wx w3:=((bA).alloc (by simp) _).trans (hb3.mono (by simp;omega));have d1:w3.cell? ⟨wx.heap.size,1,none⟩=some (.slice pa A.params.length pc):=aE hb3 (by simp [Zb]);have d2:w3.cell? ⟨wx.heap.size,2,none⟩=some (.slice qa A.locals.length qc):=aE hb3 (by simp [Zb]);have d3:w3.cell? ⟨wx.heap.size,3,none⟩=some (.slice ra A.body.length rc):=aE hb3 (by simp [Zb]);have HBR:=Za hbr;have hs3:=hbr.size;clear hb3 hbr e0 e1 e2 e3;rw[show([A.name].all aY)=aY A.name from by simp];have HBZ:=Za (HBX.out.trans (HBR.out.mono (by have:=HBX.out.size;omega)))
     cases q1:aY A.name
     ·have Q1:=Za q1;clear q1
      go_wp2_with fail
      go_ret
      exact⟨aT (bad.out (by rw[RA.out,Q1.out];rfl)).symm,HBZ.out⟩
     have Q1:=Za q1;clear q1;go_wp2_with fail
     refine(jn A.params _ D _ (GP.out.old HBR.out)).mono ?_;rintro r w4 ⟨rfl,hb4⟩;have HB4:=Za (HBR.out.trans (hb4.mono hs3));have k1:=aE hb4 d1;have k2:=aE hb4 d2;have k3:=aE hb4 d3;have hs4:=hb4.size;clear hb4 d1 d2 d3;have HBZ4:=Za (HBX.out.trans (HB4.out.mono (by have:=HBX.out.size;omega)))
     cases q2:A.params.all aY
     ·have Q2:=Za q2;clear q2
      go_wp2_with fail
      go_ret
      exact⟨aT (bad.out (by rw[RA.out,Q2.out];simp)).symm,HBZ4.out⟩
     have Q2:=Za q2;clear q2;go_wp2_with fail
     refine(jn A.locals _ D _ (GL.out.old HB4.out)).mono ?_;rintro r w5 ⟨rfl,hb5⟩;have HB5:=Za (HB4.out.trans (hb5.mono (by omega)));have m1:=aE hb5 k1;have m3:=aE hb5 k3;have hs5:=hb5.size;clear hb5 k1 k2 k3;have HBZ5:=Za (HBX.out.trans (HB5.out.mono (by have:=HBX.out.size;omega)))
     cases q3:A.locals.all aY
     ·have Q3:=Za q3;clear q3
      go_wp2_with fail
      go_ret
      exact⟨aT (bad.out (by rw[RA.out,Q3.out];simp)).symm,HBZ5.out⟩
     have Q3:=Za q3;clear q3
     by_cases q4:A.params.length≤6
     ·go_wp2_with fail
      refine((rm 40 (by omega)).2 D A.body _ _ (GB.out.old HB5.out)).mono ?_;rintro r w6 ⟨rfl,hb6⟩;have HB6:=Za (HB5.out.trans (hb6.mono (by omega)));clear hb6 m1 m3;have HBZ6:=Za (HBX.out.trans (HB6.out.mono (by have:=HBX.out.size;omega)))
      cases q5:A.body.all (dD 40)
      ·have Q5:=Za q5;clear q5
       go_wp2_with fail
       go_ret
       exact⟨aT (bad.out (by rw[RA.out,Q5.out];simp)).symm,HBZ6.out⟩
      ·have Q5:=Za q5;clear q5
       go_wp2_with fail
       go_roundw
       case rel=>
        refine⟨j+1,by omega,by go_num,rfl,fun i hi=> ?_,HBY.out.trans (HB6.out.mono HBY.out.size)⟩;rcases Nat.lt_succ_iff_lt_or_eq.1 hi with h|rfl
        ·exact ALF.out i h
        ·rw[HAK.out,RA.out,Q1.out,Q2.out,Q3.out,Q5.out];simp [q4]
       case measure=>simp [intOf];omega
     ·have q4':6<A.params.length:=by omega
      go_wp2_with fail
      go_ret
      exact⟨aT (bad.out (by rw[RA.out];simp [q4])).symm,HBZ5.out⟩
    ·have hjn:j=p.funcs.length:=by omega
     have EF:Hid (p.funcs.all du=true):=pV p.funcs Fu.nil du (fun i hi=>ALF.out i (by omega));clear hjn;go_wp2_with fail
     go_ret
     exact⟨aT (by rw[E.out,EA.out,EF.out];rfl),HBX.out⟩
end Go.Proofs.YtcfpfnoldgnloaaGreatDoor
