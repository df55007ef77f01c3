/-
  Expr, Parse: whole, then Right. Conditions: what whole gives is known.
-/
import Derived.Test.YtcfpfnoldgnloaaGreatDoorPn08
set_option linter.unusedVariables false
set_option linter.unusedSimpArgs false
namespace Go.Proofs.YtcfpfnoldgnloaaGreatDoor
open Go.RowKit
set_option maxHeartbeats 20000000
set_option maxRecDepth 100000
open Go.Lib renaming hid→Za
open World renaming cell?_alloc_lt→Zb
open Go.Proofs.Tryz renaming prog→Zc,func122→Zj,ntmps122→Zk,results122→Zl
open Nat renaming le_refl→Zd,le_of_lt→Zo
open Below renaming refl→Ze,setCell→Zi,alloc→Zm,drew→Zn
open List renaming setIfInBounds_toArray→Zf,set_cons_zero→Zg,set_cons_succ→Zh,getElem_toArray→Zp,getElem_cons_succ→Zq,getElem_cons_zero→Zr,any_eq_not_all_not→Zs
theorem eK(o n:Int)(nm:Bs)(s:Value)(w:World):
  Calls Zc 122 #[.agg #[.int .i64 1,.int .i64 o,.int .i64 n,.string (Aa nm),s]] w fun r w'=>r= .returned (.tuple #[.agg #[.int .i64 1,.int .i64 0,.int .i64 n,.string (Aa []),.slice none 0 0],.int .i64 0,.bool (decide (0≤n))])∧Below w.heap.size w w':=by
 go_enter Zj,Zk
 go_wp2_with fail
 go_region
 go_wp2_with fail
 all_goals(refine bodyPost_ret (v:= .tuple #[.agg #[.int .i64 1,.int .i64 0,.int .i64 n,.string (Aa []),.slice none 0 0],.int .i64 0,.bool (decide (0≤n))]) (by simp [results,Zl,go_sem]) rfl ⟨rfl,?_⟩)
 all_goals(repeat(first|exact Ze _ _|refine Zi ?_ (by simp) _|refine Zn ?_ |refine Zm ?_ (by simp) _))
theorem dE(o n:Int)(nm:Bs)(s:Value)(w:World):
  Calls Zc 122 #[.agg #[.int .i64 2,.int .i64 o,.int .i64 n,.string (Aa nm),s]] w fun r w'=>r= .returned (.tuple #[.agg #[.int .i64 2,.int .i64 0,.int .i64 0,.string (Aa nm),.slice none 0 0],.int .i64 0,.bool (Ap nm)])∧Below w.heap.size w w':=by
 go_enter Zj,Zk
 go_wp2_with fail
 go_region_held3 (fun w'=>w'.cell? ⟨w.heap.size,3,none⟩=some (.string (Aa nm))∧w'.cell? ⟨w.heap.size+1,0,none⟩=some (.int .i64 2)∧w'.cell? ⟨w.heap.size+1,1,none⟩=some (.int .i64 0)∧w'.cell? ⟨w.heap.size+1,2,none⟩=some (.int .i64 0)∧w'.cell? ⟨w.heap.size+1,3,none⟩=some (.string (Aa nm))∧w'.cell? ⟨w.heap.size+1,4,none⟩=some (.slice none 0 0)) (first|(simp [*,Av,Zb];done)|go_keep) (first|(go_at_call 112;refine(Hh _ _).mono ?_;rintro e w1 ⟨he,hb⟩;subst he;obtain⟨hc,hf⟩:=Ni hb;have hz:w.heap.size+1<w1.heap.size:=(by have:=hb.size;simp at this;omega);have g03:w1.cell? ⟨w.heap.size,3,none⟩=some (.string (Aa nm)):=Ab hb (by simp [Zb]);have g10:w1.cell? ⟨w.heap.size+1,0,none⟩=some (.int .i64 2):=Ab hb (by simp [Zb]);have g11:w1.cell? ⟨w.heap.size+1,1,none⟩=some (.int .i64 0):=Ab hb (by simp [Zb]);have g12:w1.cell? ⟨w.heap.size+1,2,none⟩=some (.int .i64 0):=Ab hb (by simp [Zb]);have g13:w1.cell? ⟨w.heap.size+1,3,none⟩=some (.string (Aa nm)):=Ab hb (by simp [Zb]);have g14:w1.cell? ⟨w.heap.size+1,4,none⟩=some (.slice none 0 0):=Ab hb (by simp [Zb])))
 go_wp2_with fail
 all_goals(refine bodyPost_ret (v:= .tuple #[.agg #[.int .i64 2,.int .i64 0,.int .i64 0,.string (Aa nm),.slice none 0 0],.int .i64 0,.bool (Ap nm)]) (by simp [results,Zl,go_sem,hc]) rfl ⟨rfl,?_⟩)
 all_goals(repeat(refine Zi ?_ (by simp) _))
 all_goals(exact((bA).alloc (by simp) _).drew.trans (hb.mono (by simp;omega)))
theorem Wy(n:Int)(nm:Bs)(s:Value)(w:World):
  Calls Zc 122 #[.agg #[.int .i64 3,.int .i64 17,.int .i64 n,.string (Aa nm),s]] w fun r w'=>r= .returned (.tuple #[.agg #[.int .i64 3,.int .i64 17,.int .i64 0,.string (Aa []),.slice none 0 0],.int .i64 1,.bool true])∧Below w.heap.size w w':=by
 go_enter Zj,Zk
 go_wp2_with fail
 go_region
 go_wp2_with fail
 all_goals(refine bodyPost_ret (v:= .tuple #[.agg #[.int .i64 3,.int .i64 17,.int .i64 0,.string (Aa []),.slice none 0 0],.int .i64 1,.bool true]) (by simp [results,Zl,go_sem]) rfl ⟨rfl,?_⟩)
 all_goals(repeat(first|exact Ze _ _|refine Zi ?_ (by simp) _|refine Zn ?_ |refine Zm ?_ (by simp) _))
theorem Xw(n:Int)(nm:Bs)(s:Value)(w:World):
  Calls Zc 122 #[.agg #[.int .i64 3,.int .i64 18,.int .i64 n,.string (Aa nm),s]] w fun r w'=>r= .returned (.tuple #[.agg #[.int .i64 3,.int .i64 18,.int .i64 0,.string (Aa []),.slice none 0 0],.int .i64 1,.bool true])∧Below w.heap.size w w':=by
 go_enter Zj,Zk
 go_wp2_with fail
 go_region
 go_wp2_with fail
 all_goals(refine bodyPost_ret (v:= .tuple #[.agg #[.int .i64 3,.int .i64 18,.int .i64 0,.string (Aa []),.slice none 0 0],.int .i64 1,.bool true]) (by simp [results,Zl,go_sem]) rfl ⟨rfl,?_⟩)
 all_goals(repeat(first|exact Ze _ _|refine Zi ?_ (by simp) _|refine Zn ?_ |refine Zm ?_ (by simp) _))
theorem Wc(n:Int)(nm:Bs)(s:Value)(w:World):
  Calls Zc 122 #[.agg #[.int .i64 3,.int .i64 19,.int .i64 n,.string (Aa nm),s]] w fun r w'=>r= .returned (.tuple #[.agg #[.int .i64 3,.int .i64 19,.int .i64 0,.string (Aa []),.slice none 0 0],.int .i64 1,.bool true])∧Below w.heap.size w w':=by
 go_enter Zj,Zk
 go_wp2_with fail
 go_region
 go_wp2_with fail
 all_goals(refine bodyPost_ret (v:= .tuple #[.agg #[.int .i64 3,.int .i64 19,.int .i64 0,.string (Aa []),.slice none 0 0],.int .i64 1,.bool true]) (by simp [results,Zl,go_sem]) rfl ⟨rfl,?_⟩)
 all_goals(repeat(first|exact Ze _ _|refine Zi ?_ (by simp) _|refine Zn ?_ |refine Zm ?_ (by simp) _))
theorem eU(o n:Int)(nm:Bs)(s:Value)(w:World)(h1:o≠17)(h2:o≠18)(h3:o≠19):
  Calls Zc 122 #[.agg #[.int .i64 3,.int .i64 o,.int .i64 n,.string (Aa nm),s]] w fun r w'=>r= .returned (.tuple #[.agg #[.int .i64 3,.int .i64 o,.int .i64 0,.string (Aa []),.slice none 0 0],.int .i64 1,.bool false])∧Below w.heap.size w w':=by
 have k1:(o==17)=false:=by simpa using h1
 have k2:(o==18)=false:=by simpa using h2
 have k3:(o==19)=false:=by simpa using h3
 clear h1 h2 h3;go_enter Zj,Zk
 go_wp2_with fail
 go_region
 go_wp2_with fail
 all_goals(refine bodyPost_ret (v:= .tuple #[.agg #[.int .i64 3,.int .i64 o,.int .i64 0,.string (Aa []),.slice none 0 0],.int .i64 1,.bool false]) (by simp [results,Zl,go_sem]) rfl ⟨rfl,?_⟩)
 all_goals(repeat(first|exact Ze _ _|refine Zi ?_ (by simp) _|refine Zn ?_ |refine Zm ?_ (by simp) _))
theorem dM(o n:Int)(nm:Bs)(s:Value)(w:World):
  Calls Zc 122 #[.agg #[.int .i64 4,.int .i64 o,.int .i64 n,.string (Aa nm),s]] w fun r w'=>r= .returned (.tuple #[.agg #[.int .i64 4,.int .i64 o,.int .i64 0,.string (Aa []),.slice none 0 0],.int .i64 2,.bool (decide (0<Aj o))])∧Below w.heap.size w w':=by
 go_enter Zj,Zk
 go_wp2_with fail
 go_region_held3 (fun w'=>w'.cell? ⟨w.heap.size,1,none⟩=some (.int .i64 o)∧w'.cell? ⟨w.heap.size+1,0,none⟩=some (.int .i64 4)∧w'.cell? ⟨w.heap.size+1,1,none⟩=some (.int .i64 o)∧w'.cell? ⟨w.heap.size+1,2,none⟩=some (.int .i64 0)∧w'.cell? ⟨w.heap.size+1,3,none⟩=some (.string (Aa []))∧w'.cell? ⟨w.heap.size+1,4,none⟩=some (.slice none 0 0)) (first|(simp [*,Av,Zb];done)|go_keep) (first|(go_at_call 74;refine(Gn _ _).mono ?_;rintro e w1 ⟨he,hb⟩;subst he;obtain⟨hc,hf⟩:=Ni hb;have hz:w.heap.size+1<w1.heap.size:=(by have:=hb.size;simp at this;omega);have g01:w1.cell? ⟨w.heap.size,1,none⟩=some (.int .i64 o):=Ab hb (by simp [Zb]);have g10:w1.cell? ⟨w.heap.size+1,0,none⟩=some (.int .i64 4):=Ab hb (by simp [Zb]);have g11:w1.cell? ⟨w.heap.size+1,1,none⟩=some (.int .i64 o):=Ab hb (by simp [Zb]);have g12:w1.cell? ⟨w.heap.size+1,2,none⟩=some (.int .i64 0):=Ab hb (by simp [Zb]);have g13:w1.cell? ⟨w.heap.size+1,3,none⟩=some (.string (Aa [])):=Ab hb (by simp [Zb]);have g14:w1.cell? ⟨w.heap.size+1,4,none⟩=some (.slice none 0 0):=Ab hb (by simp [Zb])))
 go_wp2_with fail
 all_goals(refine bodyPost_ret (v:= .tuple #[.agg #[.int .i64 4,.int .i64 o,.int .i64 0,.string (Aa []),.slice none 0 0],.int .i64 2,.bool (decide (0<Aj o))]) (by simp [results,Zl,go_sem,hc]) rfl ⟨rfl,?_⟩)
 all_goals(repeat(refine Zi ?_ (by simp) _))
 all_goals(exact((bA).alloc (by simp) _).drew.trans (hb.mono (by simp;omega)))
theorem bY(o n:Int)(nm:Bs)(a:Option Addr)(len cap:Nat)(hn:Ap nm=true)(w:World):
  Calls Zc 122 #[.agg #[.int .i64 5,.int .i64 o,.int .i64 n,.string (Aa nm),.slice a len cap]] w fun r w'=>r= .returned (.tuple #[.agg #[.int .i64 5,.int .i64 0,.int .i64 0,.string (Aa nm),.slice none 0 0],.int .i64 len,.bool (decide ((len:Int)≤6))])∧Below w.heap.size w w':=by
 go_enter Zj,Zk
 go_wp2_with fail
 go_region_held3 (fun w'=>w'.cell? ⟨w.heap.size,3,none⟩=some (.string (Aa nm))∧w'.cell? ⟨w.heap.size,4,none⟩=some (.slice a len cap)∧w'.cell? ⟨w.heap.size+1,0,none⟩=some (.int .i64 5)∧w'.cell? ⟨w.heap.size+1,1,none⟩=some (.int .i64 0)∧w'.cell? ⟨w.heap.size+1,2,none⟩=some (.int .i64 0)∧w'.cell? ⟨w.heap.size+1,3,none⟩=some (.string (Aa nm))∧w'.cell? ⟨w.heap.size+1,4,none⟩=some (.slice none 0 0)) (first|(simp [*,Av,Zb];done)|go_keep) (first|(go_at_call 112;refine(Hh _ _).mono ?_;rintro e w1 ⟨he,hb⟩;rw[hn]at he;subst he;obtain⟨hc,hf⟩:=Ni hb;have hz:w.heap.size+1<w1.heap.size:=(by have:=hb.size;simp at this;omega);have g03:w1.cell? ⟨w.heap.size,3,none⟩=some (.string (Aa nm)):=Ab hb (by simp [Zb]);have g04:w1.cell? ⟨w.heap.size,4,none⟩=some (.slice a len cap):=Ab hb (by simp [Zb]);have g10:w1.cell? ⟨w.heap.size+1,0,none⟩=some (.int .i64 5):=Ab hb (by simp [Zb]);have g11:w1.cell? ⟨w.heap.size+1,1,none⟩=some (.int .i64 0):=Ab hb (by simp [Zb]);have g12:w1.cell? ⟨w.heap.size+1,2,none⟩=some (.int .i64 0):=Ab hb (by simp [Zb]);have g13:w1.cell? ⟨w.heap.size+1,3,none⟩=some (.string (Aa nm)):=Ab hb (by simp [Zb]);have g14:w1.cell? ⟨w.heap.size+1,4,none⟩=some (.slice none 0 0):=Ab hb (by simp [Zb])))
 go_wp2_with fail
 all_goals(refine bodyPost_ret (v:= .tuple #[.agg #[.int .i64 5,.int .i64 0,.int .i64 0,.string (Aa nm),.slice none 0 0],.int .i64 len,.bool (decide ((len:Int)≤6))]) (by simp [results,Zl,go_sem,hc]) rfl ⟨rfl,?_⟩)
 all_goals(repeat(refine Zi ?_ (by simp) _))
 all_goals(exact((bA).alloc (by simp) _).drew.trans (hb.mono (by simp;omega)))
theorem Ws(o n:Int)(nm:Bs)(a:Option Addr)(len cap:Nat)(hn:Ap nm=false)(w:World):
  Calls Zc 122 #[.agg #[.int .i64 5,.int .i64 o,.int .i64 n,.string (Aa nm),.slice a len cap]] w fun r w'=>r= .returned (.tuple #[.agg #[.int .i64 5,.int .i64 0,.int .i64 0,.string (Aa nm),.slice none 0 0],.int .i64 len,.bool false])∧Below w.heap.size w w':=by
 go_enter Zj,Zk
 go_wp2_with fail
 refine wp_region_held_drew (S:=(fun w'=>w'.cell? ⟨w.heap.size,3,none⟩=some (.string (Aa nm))∧w'.cell? ⟨w.heap.size,4,none⟩=some (.slice a len cap)∧w'.cell? ⟨w.heap.size+1,0,none⟩=some (.int .i64 5)∧w'.cell? ⟨w.heap.size+1,1,none⟩=some (.int .i64 0)∧w'.cell? ⟨w.heap.size+1,2,none⟩=some (.int .i64 0)∧w'.cell? ⟨w.heap.size+1,3,none⟩=some (.string (Aa nm))∧w'.cell? ⟨w.heap.size+1,4,none⟩=some (.slice none 0 0))) (by kernel_rfl) ?_ (fun hHeld=> ?_)
 ·(first|(simp [*,Av,Zb];done)|go_keep)
 refine wpAnyH_take (i:=0) (v:= ?_) rfl (by kernel_rfl) (by kernel_rfl) (by kernel_rfl) (fun _ _ _ h=>h) (Or.inl ⟨rfl,?_⟩) (by assumption) ?_;rotate_left 1
 ·intro w hSw;(try dsimp only at hSw);go_simp;(try with_reducible rfl)
 (try simp only[Act.put,Zf,Zg,Zh]);refine wpAnyH_take (i:=1) (v:= ?_) rfl (by kernel_rfl) (by kernel_rfl) (by kernel_rfl) (fun _ _ _ h=>h) (Or.inl ⟨rfl,?_⟩) (by assumption) ?_;rotate_left 1
 ·intro w hSw;(try dsimp only at hSw);go_simp;(try with_reducible rfl)
 (try simp only[Act.put,Zf,Zg,Zh]);refine wpAnyH_take (i:=2) (v:= ?_) rfl (by kernel_rfl) (by kernel_rfl) (by kernel_rfl) (fun _ _ _ h=>h) (Or.inl ⟨rfl,?_⟩) (by assumption) ?_;rotate_left 1
 ·intro w hSw;(try dsimp only at hSw);go_simp;(try with_reducible rfl)
 (try simp only[Act.put,Zf,Zg,Zh]);refine wpAnyH_take (i:=3) (v:= ?_) rfl (by kernel_rfl) (by kernel_rfl) (by kernel_rfl) (fun _ _ _ h=>h) (Or.inl ⟨rfl,?_⟩) (by assumption) ?_;rotate_left 1
 ·intro w hSw;(try dsimp only at hSw);go_simp;(try with_reducible rfl)
 (try simp only[Act.put,Zf,Zg,Zh]);refine wpAnyH_take (i:=4) (v:= ?_) rfl (by kernel_rfl) (by kernel_rfl) (by kernel_rfl) (fun _ _ _ h=>h) (Or.inl ⟨rfl,?_⟩) (by assumption) ?_;rotate_left 1
 ·intro w hSw;(try dsimp only at hSw);go_simp;(try with_reducible rfl)
 (try simp only[Act.put,Zf,Zg,Zh]);refine wpAnyH_take (i:=5) (v:= ?_) rfl (by kernel_rfl) (by kernel_rfl) (by kernel_rfl) (fun _ _ _ h=>h) (Or.inl ⟨rfl,?_⟩) (by assumption) ?_;rotate_left 1
 ·intro w hSw;(try dsimp only at hSw);go_simp;(try with_reducible rfl)
 (try simp only[Act.put,Zf,Zg,Zh]);refine wpAnyH_ready (rs:=[6]) (by kernel_rfl) (by simp) ?_;refine AllReadyH.cons rfl (fun K hK=> ?_) AllReadyH.nil;(try simp only[Zp,Zq,Zr]);go_simp;go_at_call 112;refine(Hh _ _).mono ?_;rintro e w1 ⟨he,hb⟩;rw[hn]at he;subst he;obtain⟨hc,hf⟩:=Ni hb;have hz:w.heap.size+1<w1.heap.size:=(by have:=hb.size;simp at this;omega);have g03:w1.cell? ⟨w.heap.size,3,none⟩=some (.string (Aa nm)):=Ab hb (by simp [Zb]);have g04:w1.cell? ⟨w.heap.size,4,none⟩=some (.slice a len cap):=Ab hb (by simp [Zb]);have g10:w1.cell? ⟨w.heap.size+1,0,none⟩=some (.int .i64 5):=Ab hb (by simp [Zb]);have g11:w1.cell? ⟨w.heap.size+1,1,none⟩=some (.int .i64 0):=Ab hb (by simp [Zb]);have g12:w1.cell? ⟨w.heap.size+1,2,none⟩=some (.int .i64 0):=Ab hb (by simp [Zb]);have g13:w1.cell? ⟨w.heap.size+1,3,none⟩=some (.string (Aa nm)):=Ab hb (by simp [Zb]);have g14:w1.cell? ⟨w.heap.size+1,4,none⟩=some (.slice none 0 0):=Ab hb (by simp [Zb])
 refine hK.out _ _ ?_ (fun hHeld=> ?_)
 ·(try dsimp only);(first|(simp [*,Av,Zb];done)|go_keep)
 clear hK K;(try simp only[Act.put,Zf,Zg,Zh]);refine wpAnyH_take (i:=7) (v:= ?_) rfl (by kernel_rfl) (by kernel_rfl) (by kernel_rfl) (fun _ _ _ h=>h) (Or.inl ⟨rfl,?_⟩) (by assumption) ?_;rotate_left 1
 ·intro w hSw;(try dsimp only at hSw);go_simp;(try with_reducible rfl)
 (try simp only[Act.put,Zf,Zg,Zh]);refine wpAnyH_take (i:=8) rfl (by kernel_rfl) (by kernel_rfl) (by kernel_rfl) (fun _ _ _ h=>h) (Or.inr ⟨rfl,rfl⟩) (by assumption) ?_;(try simp only[Act.put,Zf,Zg,Zh]);refine wpAnyH_take (i:=9) rfl (by kernel_rfl) (by kernel_rfl) (by kernel_rfl) (fun _ _ _ h=>h) (Or.inr ⟨rfl,rfl⟩) (by assumption) ?_;(try simp only[Act.put,Zf,Zg,Zh]);refine wpAnyH_take (i:=10) rfl (by kernel_rfl) (by kernel_rfl) (by kernel_rfl) (fun _ _ _ h=>h) (Or.inr ⟨rfl,rfl⟩) (by assumption) ?_;(try simp only[Act.put,Zf,Zg,Zh]);refine wpAnyH_take (i:=11) rfl (by kernel_rfl) (by kernel_rfl) (by kernel_rfl) (fun _ _ _ h=>h) (Or.inr ⟨rfl,rfl⟩) (by assumption) ?_;(try simp only[Act.put,Zf,Zg,Zh]);refine wpAnyH_take (i:=12) (v:= ?_) rfl (by kernel_rfl) (by kernel_rfl) (by kernel_rfl) (fun _ _ _ h=>h) (Or.inl ⟨rfl,?_⟩) (by assumption) ?_;rotate_left 1
 ·intro w hSw;(try dsimp only at hSw);go_simp;(try with_reducible rfl)
 (try simp only[Act.put,Zf,Zg,Zh]);refine wpAnyH_ready (rs:=[13]) (by kernel_rfl) (by simp) ?_;refine AllReadyH.cons rfl (fun K hK=> ?_) AllReadyH.nil;(try simp only[Zp,Zq,Zr]);go_simp
 refine hK.out _ _ ?_ (fun hHeld=> ?_)
 ·(try dsimp only);(first|(simp [*,Av,Zb];done)|go_keep)
 clear hK K;(try simp only[Act.put,Zf,Zg,Zh]);refine wpAnyH_ready (rs:=[14]) (by kernel_rfl) (by simp) ?_;refine AllReadyH.cons rfl (fun K hK=> ?_) AllReadyH.nil;(try simp only[Zp,Zq,Zr]);go_simp
 refine hK.out _ _ ?_ (fun hHeld=> ?_)
 ·(try dsimp only);(first|(simp [*,Av,Zb];done)|go_keep)
 clear hK K;(try simp only[Act.put,Zf,Zg,Zh]);refine wpAnyH_ready (rs:=[15]) (by kernel_rfl) (by simp) ?_;refine AllReadyH.cons rfl (fun K hK=> ?_) AllReadyH.nil;(try simp only[Zp,Zq,Zr]);go_simp
 refine hK.out _ _ ?_ (fun hHeld=> ?_)
 ·(try dsimp only);(first|(simp [*,Av,Zb];done)|go_keep)
 clear hK K;(try simp only[Act.put,Zf,Zg,Zh]);refine wpAnyH_done (by kernel_rfl) ?_ _;go_wp2_with fail
 all_goals(refine bodyPost_ret (v:= .tuple #[.agg #[.int .i64 5,.int .i64 0,.int .i64 0,.string (Aa nm),.slice none 0 0],.int .i64 len,.bool false]) (by simp [results,Zl,go_sem,hc]) rfl ⟨rfl,?_⟩)
 all_goals(repeat(refine Zi ?_ (by simp) _))
 all_goals(exact((bA).alloc (by simp) _).drew.trans (hb.mono (by simp;omega)))
theorem Wk(o n:Int)(nm:Bs)(s:Value)(w:World):
  Calls Zc 122 #[.agg #[.int .i64 6,.int .i64 o,.int .i64 n,.string (Aa nm),s]] w fun r w'=>r= .returned (.tuple #[.agg #[.int .i64 6,.int .i64 0,.int .i64 0,.string (Aa nm),.slice none 0 0],.int .i64 1,.bool (Ap nm)])∧Below w.heap.size w w':=by
 go_enter Zj,Zk
 go_wp2_with fail
 go_region_held3 (fun w'=>w'.cell? ⟨w.heap.size,3,none⟩=some (.string (Aa nm))∧w'.cell? ⟨w.heap.size+1,0,none⟩=some (.int .i64 6)∧w'.cell? ⟨w.heap.size+1,1,none⟩=some (.int .i64 0)∧w'.cell? ⟨w.heap.size+1,2,none⟩=some (.int .i64 0)∧w'.cell? ⟨w.heap.size+1,3,none⟩=some (.string (Aa nm))∧w'.cell? ⟨w.heap.size+1,4,none⟩=some (.slice none 0 0)) (first|(simp [*,Av,Zb];done)|go_keep) (first|(go_at_call 112;refine(Hh _ _).mono ?_;rintro e w1 ⟨he,hb⟩;subst he;obtain⟨hc,hf⟩:=Ni hb;have hz:w.heap.size+1<w1.heap.size:=(by have:=hb.size;simp at this;omega);have g03:w1.cell? ⟨w.heap.size,3,none⟩=some (.string (Aa nm)):=Ab hb (by simp [Zb]);have g10:w1.cell? ⟨w.heap.size+1,0,none⟩=some (.int .i64 6):=Ab hb (by simp [Zb]);have g11:w1.cell? ⟨w.heap.size+1,1,none⟩=some (.int .i64 0):=Ab hb (by simp [Zb]);have g12:w1.cell? ⟨w.heap.size+1,2,none⟩=some (.int .i64 0):=Ab hb (by simp [Zb]);have g13:w1.cell? ⟨w.heap.size+1,3,none⟩=some (.string (Aa nm)):=Ab hb (by simp [Zb]);have g14:w1.cell? ⟨w.heap.size+1,4,none⟩=some (.slice none 0 0):=Ab hb (by simp [Zb])))
 go_wp2_with fail
 all_goals(refine bodyPost_ret (v:= .tuple #[.agg #[.int .i64 6,.int .i64 0,.int .i64 0,.string (Aa nm),.slice none 0 0],.int .i64 1,.bool (Ap nm)]) (by simp [results,Zl,go_sem,hc]) rfl ⟨rfl,?_⟩)
 all_goals(repeat(refine Zi ?_ (by simp) _))
 all_goals(exact((bA).alloc (by simp) _).drew.trans (hb.mono (by simp;omega)))
theorem aR(o n:Int)(nm:Bs)(s:Value)(w:World):
  Calls Zc 122 #[.agg #[.int .i64 7,.int .i64 o,.int .i64 n,.string (Aa nm),s]] w fun r w'=>r= .returned (.tuple #[.agg #[.int .i64 7,.int .i64 0,.int .i64 0,.string (Aa []),.slice none 0 0],.int .i64 0,.bool true])∧Below w.heap.size w w':=by
 go_enter Zj,Zk
 go_wp2_with fail
 all_goals(refine bodyPost_ret (v:= .tuple #[.agg #[.int .i64 7,.int .i64 0,.int .i64 0,.string (Aa []),.slice none 0 0],.int .i64 0,.bool true]) (by simp [results,Zl,go_sem]) rfl ⟨rfl,?_⟩)
 all_goals(repeat(first|exact Ze _ _|refine Zi ?_ (by simp) _|refine Zn ?_ |refine Zm ?_ (by simp) _))
theorem Wr(k:Int)(h1:(k==1)=false)(h2:(k==2)=false)(h3:(k==3)=false)(h4:(k==4)=false)(h5:(k==5)=false)(h6:(k==6)=false)(h7:(k==7)=false)(o n:Int)(nm:Bs)(s:Value)(w:World):
  Calls Zc 122 #[.agg #[.int .i64 k,.int .i64 o,.int .i64 n,.string (Aa nm),s]] w fun r w'=>r= .returned (.tuple #[.agg #[.int .i64 k,.int .i64 0,.int .i64 0,.string (Aa []),.slice none 0 0],.int .i64 0,.bool false])∧Below w.heap.size w w':=by
 go_enter Zj,Zk
 go_wp2_with fail
 all_goals(refine bodyPost_ret (v:= .tuple #[.agg #[.int .i64 k,.int .i64 0,.int .i64 0,.string (Aa []),.slice none 0 0],.int .i64 0,.bool false]) (by simp [results,Zl,go_sem]) rfl ⟨rfl,?_⟩)
 all_goals(repeat(first|exact Ze _ _|refine Zi ?_ (by simp) _|refine Zn ?_ |refine Zm ?_ (by simp) _))
theorem dF(e:Ex)(a:Option Addr)(cap:Nat)(w:World):
  Calls Zc 122 #[exV e (.slice a e.args.length cap)] w fun r w'=>r= .returned (.tuple #[.agg #[.int .i64 e.kind,.int .i64 (Fs e),.int .i64 (Hn e),.string (Aa (Dk e)),.slice none 0 0],.int .i64 (Ce e),.bool (Ee e)])∧Below w.heap.size w w':=by
 obtain⟨k,o,n,nm,args⟩:=e;show Calls _ _ #[.agg #[.int .i64 k,.int .i64 o,.int .i64 n,.string (Aa nm),.slice a args.length cap]] _ _
 have key:∀ {R R':Ending→World→Prop},R=R'→Calls Zc 122 #[.agg #[.int .i64 k,.int .i64 o,.int .i64 n,.string (Aa nm),.slice a args.length cap]] w R→Calls Zc 122 #[.agg #[.int .i64 k,.int .i64 o,.int .i64 n,.string (Aa nm),.slice a args.length cap]] w R':=fun h=>h ▸ id
 by_cases h1:k=1
 ·subst h1;exact eK _ _ _ _ _
 by_cases h2:k=2
 ·subst h2;exact dE _ _ _ _ _
 by_cases h3:k=3
 ·subst h3
  by_cases q1:o=17
  ·subst q1;exact Wy _ _ _ _
  by_cases q2:o=18
  ·subst q2;exact Xw _ _ _ _
  by_cases q3:o=19
  ·subst q3;exact Wc _ _ _ _
  refine key ?_ (eU o n nm _ w q1 q2 q3);simp [Fs,Hn,Dk,Ce,Ee,Ex.kind,Ex.op,q1,q2,q3]
 by_cases h4:k=4
 ·subst h4;exact dM _ _ _ _ _
 by_cases h5:k=5
 ·subst h5
  cases hn:Ap nm
  ·refine key ?_ (Ws o n nm a args.length cap hn w)
   simp [Fs,Hn,Dk,Ce,Ee,Ex.kind,Ex.name,Ex.args,hn]
  ·refine key ?_ (bY o n nm a args.length cap hn w)
   simp [Fs,Hn,Dk,Ce,Ee,Ex.kind,Ex.name,Ex.args,hn];rfl
 by_cases h6:k=6
 ·subst h6;exact Wk _ _ _ _ _
 by_cases h7:k=7
 ·subst h7;exact aR _ _ _ _ _
 refine key ?_ (Wr k (by simpa using h1) (by simpa using h2) (by simpa using h3) (by simpa using h4) (by simpa using h5) (by simpa using h6) (by simpa using h7) o n nm _ w);simp [Fs,Hn,Dk,Ce,Ee,Ex.kind,h1,h2,h3,h4,h5,h6,h7]
def Sz(e:Ex):Prop:= ∀(D:Nat→Prop) (s:Value) (w:World),Ag D w e.args s→
 Calls Zc 62 #[exV e s] w fun r w'=>r= .returned (.bool (Bv e))∧Below w.heap.size w w'
theorem well_fn(e:Ex)(ih:Sz e)(D:Nat→Prop)(s:Value)(w:World)(h:Ag D w e.args s):
  Calls Zc 123 #[exV e s] w fun r w'=>r= .returned (.bool (!Bv e))∧Below w.heap.size w w':=by
 have H:=Za h;clear h;have IH:=Za ih;clear ih;go_enter Tryz.func123,Tryz.ntmps123
 go_wp2_with fail
 refine(IH.out D s _ (H.out.old (bA))).mono ?_;rintro r w1 ⟨rfl,hb⟩;go_wp2_with fail
 go_ret
 exact⟨rfl,(bA).trans (hb.mono (by simp))⟩
theorem aG(e:Ex)(ih:∀x,x∈e.args→Sz x):Sz e:=by
 intro D s w h;have H:=Za h;have IH:=Za ih;clear ih;generalize hl:e.args=l at h
 cases h with
 |mk _ a cap b off sv hcap hfit ha h0 h1 h2 h3 h4 hs=>
  subst hl;clear hcap hfit ha h0 h1 h2 h3 h4 hs;have HO:=Za (dF e a cap ((w.alloc (.cells #[.int .i64 e.kind,.int .i64 e.op,.int .i64 e.n,.string (Aa e.name),.slice a e.args.length cap] 27))));go_enter Tryz.func62,Tryz.ntmps62
  go_wp2_with fail
  refine HO.out.mono ?_;rintro r w1 ⟨rfl,hb⟩;obtain⟨hc,hf⟩:=Ni hb;have hz:w.heap.size<w1.heap.size:=by have:=hb.size;simp at this;omega
  go_wp2_with fail
  ·refine(Jf 123 #[] Tryz.call123 e.args _ D _ (((H.out.old (bA)).old hb).old (bA)) (fun x=> !Bv x) ?_).mono ?_
   ·intro x s' w2 hx _ hs
    exact well_fn x (IH.out x hx) D s' w2 hs
   ·rintro r w2 ⟨rfl,hb2⟩
    go_wp2_with fail
    go_ret
    refine⟨Be ?_,(((bA).trans (hb.mono (by simp))).alloc (by omega) _).trans (hb2.mono (by simp;omega))⟩;rw[Hc];simp [Bx, *,Zs]
  all_goals
   go_ret
   refine⟨Be ?_,((bA).trans (hb.mono (by simp))).alloc (by omega) _⟩;rw[Hc];simp [Bx, *]
theorem Vh:∀(n:Nat) (e:Ex),SizeOf.sizeOf e≤n→Sz e
 |0,e,h=>by cases e;simp at h
 |n+1,e,h=>aG e fun x hx=>Vh n x (by have:=Ex.size_lt hx;omega)
theorem Ht(e:Ex)(D:Nat→Prop)(s:Value)(w:World)(h:Ag D w e.args s):
  Calls Zc 28 #[exV e s] w fun r w'=>r= .returned (.bool (Cm e))∧Below w.heap.size w w':=by
 have H:=Za h;clear h;have E:Hid (Cm e=(Fq 40 e && Bv e)):=rfl;go_enter Tryz.func28,Tryz.ntmps28
 go_wp2_with fail
 refine(Uk 40 (by omega) D e s _ (H.out.old (bA))).mono ?_;rintro r w1 ⟨rfl,hb⟩;obtain⟨hc,hf⟩:=Ni hb
 cases hd:Fq 40 e
 ·have HD:=Za hd;clear hd
  go_wp2_with fail
  go_ret
  exact⟨Be (by rw[E.out,HD.out];rfl),(bA).trans (hb.mono (by simp))⟩
 ·have HD:=Za hd;clear hd
  go_wp2_with fail
  refine(Vh _ e (Zd _) D s _ ((H.out.old (bA)).old hb)).mono ?_;rintro r w2 ⟨rfl,hb2⟩;go_wp2_with fail
  go_ret
  exact⟨Be (by rw[E.out,HD.out];rfl),(bA).trans ((hb.mono (by simp)).trans (hb2.mono (by have:=hb.size;simp at this;omega)))⟩
theorem aE {Ix:Type}(F:Ix→World){P:Program}{id:Nat}{Q:Exit→Act→World→Prop}{a:Act}{w:World}{l:List Oper}(hm:P.follows .mixedOrders=true)(hB:Region.lexB .any l.toArray=true)(hC:∃n,w.drew=F n)
  (h:wpQuiet P l.toArray (fun w'=> ∃n,w'=F n) (fun a'=> ∀w',(∃n,w'=F n)→Q .normal a' w') l a):(Code.region id l.toArray true).wp P Q a w:=
 wp_region_quiet (C:=fun w'=> ∃n,w'=F n) hm hB hC (by simpa using h)
abbrev Lat(w:World):Type:= {w':World // Below w.heap.size w w'}
theorem lat_fun(wr:World):∃(Ix:Type) (_:Nonempty Ix) (F:Ix→World),Hid (∀n,Below wr.heap.size wr (F n))∧Hid (∀w',Below wr.heap.size wr w'→∃n,w'=F n):=⟨Lat wr,⟨⟨wr,Ze _ _⟩⟩,fun n=>n.1,fun n=>n.2,fun w' h=>⟨⟨w',h⟩,rfl⟩⟩
theorem eG {a b c d:Bool}{n:Int}{k:Int}(h1:a=Dh k)(h2:n=Fz k)(h3:b=Gd k)(h4:c=Ge k)(h5:d=fOk k):
  Ending.returned (.tuple #[.agg #[.bool a,.int .i64 n,.bool b,.bool c],.bool d])= .returned (.tuple #[.agg #[.bool (Dh k),.int .i64 (Fz k),.bool (Gd k),.bool (Ge k)],.bool (fOk k)]):=by
 subst h1 h2 h3 h4 h5;rfl
theorem Wz(k:Int)(w:World):
  Calls Zc 160 #[.int .i64 k] w fun r w'=>r= .returned (.tuple #[.agg #[.bool (Dh k),.int .i64 (Fz k),.bool (Gd k),.bool (Ge k)],.bool (fOk k)])∧Below w.heap.size w w':=by
 go_enter Tryz.func160,Tryz.ntmps160
 go_wp2
 all_goals(refine bodyPost_ret (by simp [results,Tryz.results160,go_sem];rfl) rfl ?_)
 all_goals(refine⟨eG ?_ ?_ ?_ ?_ ?_,by repeat(first|exact Ze _ _|refine Zi ?_ (by simp) _|refine Zm ?_ (Zd _) _)⟩)
 all_goals(simp only[beq_iff_eq,beq_eq_false_iff_ne,ne_eq]at*;simp [Dh,Fz,Gd,Ge,fOk, *]<;>omega)
theorem head_eq {l:List Ex}(h:0<l.length):l[0]=l.headD (.mk 0 0 0 [] []):=by cases l with|nil=>simp at h|cons x l=>rfl
theorem Zv {α:Type}(l:List α):decide (0<l.length)= !l.isEmpty:=by cases l<;>simp
theorem stmt_fn(e:Ex)(D:Nat→Prop)(s:Value)(w:World)(h:Ag D w e.args s):
  Calls Zc 161 #[exV e s] w fun r w'=>r= .returned (.bool (!Cm e))∧Below w.heap.size w w':=by
 have H:=Za h;clear h;go_enter Tryz.func161,Tryz.ntmps161
 go_wp2_with fail
 refine(Ht e D s _ (H.out.old (bA))).mono ?_;rintro r w1 ⟨rfl,hb⟩;go_wp2_with fail
 go_ret
 exact⟨rfl,(bA).trans (hb.mono (by simp))⟩
def cD(m:Nat):Prop:= ∀(D:Nat→Prop) (l:List St) (v:Value) (w:World),Bn D w l v→
 Calls Zc 50 #[v,.int .i64 m] w fun r w'=>r= .returned (.bool (l.all (Jl m)))∧Below w.heap.size w w'
def StOf(m:Nat):Prop:= ∀(D:Nat→Prop) (x:St) (a t e:Value) (w:World),Ag D w x.args a→Bn D w x.thn t→Bn D w x.els e→
 Calls Zc 115 #[stV x a t e,.int .i64 m] w fun r w'=>r= .returned (.bool (Jl m x))∧Below w.heap.size w w'
set_option maxHeartbeats 20000000 in
theorem Rn(m:Nat)(hm:m≤1000)(ih:0<m→cD (m - 1)):StOf m:=by
 intro D x a0 t0 e0 w ha ht he;have IH:=Za ih;clear ih;have HA:=Za ha;have HT:=Za ht;have HE:=Za he;clear ha ht he;obtain⟨aa,ca,rfl⟩:∃aa ca,a0= .slice aa x.args.length ca:=HA.out.shape;obtain⟨at',ct,rfl⟩:∃aa ca,t0= .slice aa x.thn.length ca:=HT.out.shape;obtain⟨ae,ce,rfl⟩:∃aa ca,e0= .slice aa x.els.length ca:=HE.out.shape;have hm1:(m:Int)≤1000:=by omega
 have hm0:(0:Int)≤m:=by omega
 go_enter Tryz.func115,Tryz.ntmps115
 go_upto_region 2 with(first|(go_at_call 160;refine(Wz _ _).mono ?_;rintro e w1 ⟨rfl,hb⟩;obtain⟨hc,hf⟩:=Ni hb;have hz:w.heap.size<w1.heap.size:=(by have:=hb.size;simp at this;omega)))
 go_cut [6,48] (fun _ s48 wx=>s48= .bool (Hl m x)∧wx=w1.alloc (.cells #[.bool (Dh x.kind),.int .i64 (Fz x.kind),.bool (Gd x.kind),.bool (Ge x.kind)] 184))
 case first=>
  cases b0:fOk x.kind
  ·go_wp2_with fail
   go_meet;exact⟨by simp [Hl,b0],rfl⟩
  cases b1:((m:Int)==0)
  case true=>
   go_wp2_with fail
   go_meet;exact⟨by simp [Hl,b1],rfl⟩
  cases b2:((x.args.length:Int)==Fz x.kind)
  ·have b2':((x.args.length:Int) !=Fz x.kind)=true:=by simp [bne,b2]
   go_wp2_with fail
   go_meet;exact⟨by simp [Hl,b2],rfl⟩
  have b2':((x.args.length:Int) !=Fz x.kind)=false:=by simp [bne,b2]
  have t1:=Zv x.thn;have e1:=Zv x.els
  cases b3:Gd x.kind<;>cases b4:x.thn.isEmpty<;>cases b5:Ge x.kind<;>cases b6:x.els.isEmpty
  all_goals
   rw[b4]at t1;rw[b6]at e1;have E:Hid (Hl m x=((!Gd x.kind && !x.thn.isEmpty)||(!Ge x.kind && !x.els.isEmpty))):=(by show _=_;simp [Hl,b0,b1,b2]);rw[b3,b4,b5,b6]at E;clear b4 b6;simp only[Bool.not_true,Bool.not_false]at t1 e1;go_wp2_with fail
   go_meet;exact⟨by rw[E.out];rfl,by rw[b3,b5]⟩
 case rest=>
  obtain⟨rfl,rfl⟩:=hcut;have hBW:Below w.heap.size w (w1.alloc (.cells #[.bool (Dh x.kind),.int .i64 (Fz x.kind),.bool (Gd x.kind),.bool (Ge x.kind)] 184)):=
   ((bA).trans (hb.mono (by simp))).alloc (by omega) _
  have f0:(w1.alloc (.cells #[.bool (Dh x.kind),.int .i64 (Fz x.kind),.bool (Gd x.kind),.bool (Ge x.kind)] 184)).cell? ⟨w1.heap.size,0,none⟩=some (.bool (Dh x.kind)):=by simp
  have k0:=Ab ((Ze w1.heap.size w1).alloc (Zd _) (.cells #[.bool (Dh x.kind),.int .i64 (Fz x.kind),.bool (Gd x.kind),.bool (Ge x.kind)] 184)) (a:=⟨w.heap.size,0,none⟩) (x:= .int .i64 x.kind) (Ab hb (by simp));have k1:=Ab ((Ze w1.heap.size w1).alloc (Zd _) (.cells #[.bool (Dh x.kind),.int .i64 (Fz x.kind),.bool (Gd x.kind),.bool (Ge x.kind)] 184)) (a:=⟨w.heap.size,1,none⟩) (x:= .string (Aa x.name)) (Ab hb (by simp));have k2:=Ab ((Ze w1.heap.size w1).alloc (Zd _) (.cells #[.bool (Dh x.kind),.int .i64 (Fz x.kind),.bool (Gd x.kind),.bool (Ge x.kind)] 184)) (a:=⟨w.heap.size,2,none⟩) (x:= .slice aa x.args.length ca) (Ab hb (by simp));have k3:=Ab ((Ze w1.heap.size w1).alloc (Zd _) (.cells #[.bool (Dh x.kind),.int .i64 (Fz x.kind),.bool (Gd x.kind),.bool (Ge x.kind)] 184)) (a:=⟨w.heap.size,3,none⟩) (x:= .slice at' x.thn.length ct) (Ab hb (by simp));have k4:=Ab ((Ze w1.heap.size w1).alloc (Zd _) (.cells #[.bool (Dh x.kind),.int .i64 (Fz x.kind),.bool (Gd x.kind),.bool (Ge x.kind)] 184)) (a:=⟨w.heap.size,4,none⟩) (x:= .slice ae x.els.length ce) (Ab hb (by simp));have hz2:w1.heap.size<(w1.alloc (.cells #[.bool (Dh x.kind),.int .i64 (Fz x.kind),.bool (Gd x.kind),.bool (Ge x.kind)] 184)).heap.size:=by simp
  clear hb hc hf;generalize w1.alloc (.cells #[.bool (Dh x.kind),.int .i64 (Fz x.kind),.bool (Gd x.kind),.bool (Ge x.kind)] 184)=W2 at hBW f0 k0 k1 k2 k3 k4 hz2 ⊢;have HBW:=Za hBW;clear hBW
  cases q1:Hl m x
  case true=>
   have Q1:=Za q1;clear q1;go_wp2_with fail
   go_ret
   refine⟨Be ?_,HBW.out⟩
   cases m with
   |zero=>rfl
   |succ m=>
    have q:=Q1.out;rw[show((m+1:Nat):Int)=(m:Int)+1 from by omega]at q;simp only[Jl,q];rfl
  have Q1:=Za q1;clear q1;go_upto_region 4 with(fail)
  go_cut [77] (fun s77 wx=>s77= .bool (Qh x)∧Below W2.heap.size W2 wx)
  case first=>
   have E:Hid (Qh x=(!(Dh x.kind==Ap x.name)||(!Dh x.kind && !(x.name==[]))||(x.kind==10 && !((x.args.headD (.mk 0 0 0 [] [])).kind==5)))):=rfl;obtain⟨Ix,hIx,F,HFB,HFI⟩:=lat_fun W2;have HCL:Hid (∀n,Calls Zc 112 #[.string (Aa x.name)] (F n) fun e w'=>e= .returned (.bool (Ap x.name))∧∃m,w'=F m):=fun n=>by
    refine(Hh x.name (F n)).mono ?_;rintro e w' ⟨he,hb⟩;exact⟨he,HFI.out w' ((HFB.out n).trans (hb.mono (HFB.out n).size))⟩
   have g0:∀n,(F n).cell? ⟨w1.heap.size,0,none⟩=some (.bool (Dh x.kind)):=fun n=>Ab (HFB.out n) f0
   have g1:∀n,(F n).cell? ⟨w.heap.size,0,none⟩=some (.int .i64 x.kind):=fun n=>Ab (HFB.out n) k0
   have g2:∀n,(F n).cell? ⟨w.heap.size,1,none⟩=some (.string (Aa x.name)):=fun n=>Ab (HFB.out n) k1
   have g3:∀n,(F n).cell? ⟨w.heap.size,2,none⟩=some (.slice aa x.args.length ca):=fun n=>Ab (HFB.out n) k2
   have HST:Hid (∃n,W2.drew=F n):=HFI.out _ (Ze _ _).drew;refine aE F (by kernel_rfl) (by kernel_rfl) HST.out ?_;have fin:∀ {K:Act→World→Prop} {a:Act},(∀n,K a (F n))→∀w',(∃n,w'=F n)→K a w':=fun h w' ⟨n,e⟩=>e ▸ h n
   cases n1:Dh x.kind<;>cases n2:Ap x.name
   all_goals
    rw[n1,n2]at E;rw[n1]at g0;rw[n2]at HCL;clear k0 k1 k2 k3 k4 f0
   case false.false=>
    cases n4:(x.name==[])
    ·rw[n4]at E
     have n5:x.name.isEmpty=false:=by simpa using n4
     repeat(go_big_quiet_step ((go_at_call 112;exact HCL.out _)))
     refine wpQuiet_nil (fin fun nq=> ?_);go_wp2_with fail
     go_meet;exact⟨by rw[E.out];rfl,HFB.out nq⟩
    ·have n5:x.name.isEmpty=true:=by simpa using n4
     rw[n4]at E;clear n4
     cases n3:(x.kind==10)
     ·rw[n3]at E
      repeat(go_big_quiet_step ((go_at_call 112;exact HCL.out _)))
      refine wpQuiet_nil (fin fun nq=> ?_);go_wp2_with fail
      go_meet;exact⟨by rw[E.out];rfl,HFB.out nq⟩
     ·rw[n3]at E
      have hlen:x.args.length=1:=by
       have q:=Q1.out;simp [Hl,show x.kind=10 by simpa using n3,Fz,fOk,Gd,Ge]at q;omega
      obtain⟨b,off,rfl,z⟩:=HA.out.cell0 (by omega);have g4:∀n,(F n).cell? ⟨b,off,none⟩=some (.int .i64 (Ci x.args 0).kind):=fun n=>Ab (HFB.out n) (Ab HBW.out z)
      have hl0:0<x.args.length:=by omega
      clear hlen z
      repeat(go_big_quiet_step ((go_at_call 112;exact HCL.out _)))
      refine wpQuiet_nil (fin fun nq=> ?_);go_wp2_with fail
      go_meet;exact⟨by rw[E.out,←head_eq hl0];simp [bne],HFB.out nq⟩
   case true.true=>
    have n3:(x.kind==10)=false:=by simp [Dh]at n1;simp;omega
    rw[n3]at E
    repeat(go_big_quiet_step ((go_at_call 112;exact HCL.out _)))
    refine wpQuiet_nil (fin fun nq=> ?_);go_wp2_with fail
    go_meet;exact⟨by rw[E.out];rfl,HFB.out nq⟩
   all_goals
    repeat(go_big_quiet_step ((go_at_call 112;exact HCL.out _)))
    refine wpQuiet_nil (fin fun nq=> ?_);go_wp2_with fail
    go_meet;exact⟨by rw[E.out];rfl,HFB.out nq⟩
  case rest=>
   obtain⟨rfl,hb2⟩:=hcut;have HB2:=Za (HBW.out.trans (hb2.mono (by have:=HBW.out.size;omega)));have j2:=Ab hb2 k2;have j3:=Ab hb2 k3;have j4:=Ab hb2 k4;have hs2:=hb2.size;clear f0 k0 k1 k2 k3 k4 hb2
   cases q2:Qh x
   case true=>
    have Q2:=Za q2;clear q2;go_wp2_with fail
    go_ret
    refine⟨Be ?_,HB2.out⟩
    cases m with
    |zero=>rfl
    |succ m=>simp [Jl,Q2.out]
   have Q2:=Za q2;clear q2;have hmp:Hid (0<m):=by
    cases m with
    |zero=>have q:=Q1.out;simp [Hl]at q
    |succ m=>exact Nat.succ_pos m
   obtain⟨m',hm'⟩:∃m',m=m'+1:=⟨m - 1,by have:=hmp.out;omega⟩;have EM:Hid (Jl m x=(!Hl m x && !Qh x && x.args.all Cm && x.thn.all (Jl (m - 1)) && x.els.all (Jl (m - 1)))):=by
    show _=_
    subst hm';simp only[Jl,Nat.add_sub_cancel];rw[show((m'+1:Nat):Int)=(m':Int)+1 from by omega]
   clear hm';have hsub:Hid (((m - 1:Nat):Int)=(m:Int) - 1):=by show _=_;have:=hmp.out;omega
   have hm2:1≤(m:Int):=by have:=hmp.out;omega
   go_wp2_with fail
   refine(Jf 161 #[] Tryz.call161 x.args _ D _ (HA.out.old HB2.out) (fun e=> !Cm e) (fun e s' w3 _ _ hs=>stmt_fn e D s' w3 hs)).mono ?_;rintro r w3 ⟨rfl,hb3⟩;have l3:=Ab hb3 j3;have l4:=Ab hb3 j4;have HB3:=Za (HB2.out.trans (hb3.mono (by omega)));have hs3:=hb3.size;clear j2 j3 j4 hb3;have A1:x.args.any (fun e=> !Cm e)= !x.args.all Cm:=by simp [Zs]
   rw[A1];clear A1
   cases qa:x.args.all Cm
   ·have QA:=Za qa;clear qa
    go_wp2_with fail
    go_ret
    exact⟨Be (by rw[EM.out,QA.out];simp),HB3.out⟩
   have QA:=Za qa;clear qa;go_wp2_with fail
   rw[←hsub.out];refine(IH.out hmp.out D x.thn _ _ (HT.out.old HB3.out)).mono ?_;rintro r w4 ⟨rfl,hb4⟩;have m4:=Ab hb4 l4;have HB4:=Za (HB3.out.trans (hb4.mono (by omega)));have hs4:=hb4.size;clear l3 l4 hb4
   cases qt:x.thn.all (Jl (m - 1))
   ·have QT:=Za qt;clear qt
    go_wp2_with fail
    go_ret
    exact⟨Be (by rw[EM.out,QA.out,QT.out];simp),HB4.out⟩
   have QT:=Za qt;clear qt;go_wp2_with fail
   rw[←hsub.out];refine(IH.out hmp.out D x.els _ _ (HE.out.old HB4.out)).mono ?_;rintro r w5 ⟨rfl,hb5⟩;have HB5:=Za (HB4.out.trans (hb5.mono (by omega)));clear m4 hb5;go_wp2_with fail
   go_ret
   exact⟨Be (by rw[EM.out,QA.out,QT.out,Q1.out,Q2.out];simp),HB5.out⟩
theorem dN(m:Nat)(hm:m≤1000)(ih:StOf m)(D:Nat→Prop)(x:St)(a t e:Value)(w:World)(ha:Ag D w x.args a)(ht:Bn D w x.thn t)(he:Bn D w x.els e)(B:Nat)(hB:w.cell? ⟨B,0,none⟩=some (.int .i64 m)):
  Calls Zc 114 #[stV x a t e,.pointer (some ⟨B,0,none⟩)] w fun r w'=>r= .returned (.bool (!Jl m x))∧Below w.heap.size w w':=by
 have HA:=Za ha;have HT:=Za ht;have HE:=Za he;clear ha ht he;have hBl:B<w.heap.size:=World.block_lt_of_cell? _ _ hB;go_enter Tryz.func114,Tryz.ntmps114
 go_wp2_with fail
 refine(ih D x a t e _ (HA.out.old (bA)) (HT.out.old (bA)) (HE.out.old (bA))).mono ?_;rintro r w1 ⟨rfl,hb⟩;go_wp2_with fail
 go_ret
 exact⟨rfl,(bA).trans (hb.mono (by simp))⟩
theorem Pq(m:Nat)(hm:m≤1000)(ih:StOf m):cD m:=by
 intro D l v w h;have H:=Za h;clear h;have IH:=Za ih;clear ih;go_enter Tryz.func50,Tryz.ntmps50
 go_wp2_with fail
 refine(Sq 114 _ Tryz.call114 l v D _ (H.out.old (bA)) (fun x=> !Jl m x) ?_).mono ?_
 ·intro x a t e w1 _ hb ha ht he
  exact dN m hm IH.out D x a t e w1 ha ht he _ (Ab hb (by simp))
 ·rintro r w1 ⟨rfl,hb⟩
  go_wp2_with fail
  go_ret
  exact⟨Be (by simp [Zs]),(bA).trans (hb.mono (by simp))⟩
theorem Vz:∀m,m≤1000→StOf m∧cD m
 |0,h=>have a:=Rn 0 h (fun h=>by omega);⟨a,Pq 0 h a⟩
 |m+1,h=>have a:=Rn (m+1) h (fun _=>(Vz m (by omega)).2);⟨a,Pq (m+1) h a⟩
theorem cP(s:Bs)(w:World):
  Calls Zc 111 #[.string (Aa s)] w fun r w'=>r= .returned (.bool (!Ap s))∧Below w.heap.size w w':=by
 go_enter Tryz.func111,Tryz.ntmps111
 go_wp2_with fail
 refine(Hh s _).mono ?_;rintro r w1 ⟨rfl,hb⟩;go_wp2_with fail
 go_ret
 exact⟨rfl,hb⟩
theorem Kg(l:List Bs)(v:Value)(D:Nat→Prop)(w:World)(h:Bu D w l v):
  Calls Zc 49 #[v] w fun r w'=>r= .returned (.bool (l.all Ap))∧Below w.heap.size w w':=by
 obtain⟨a,cap,b,off,rfl,h1,h2,h3,h4⟩:=h;have HC:=Za (Qo a l.length cap 111 #[] Tryz.call111 w (fun i=> .string (Aa (l.getD i []))) (fun i=> !Ap (l.getD i [])) (h2).out
  (h3.imp id fun h=>⟨b,off,h.1,h4⟩) (fun i _ w1 _=>cP _ w1))
 clear h1 h2 h3 h4;have E:Hid ((!Jv (fun i=> !Ap (l.getD i [])) l.length)=l.all Ap):=by
  show _=_
  rw[Mm (fun s=> !Ap s) _ l (fun i hi=>by simp [List.getElem?_eq_getElem hi])];simp [Zs]
 go_enter Tryz.func49,Tryz.ntmps49
 go_wp2_with fail
 refine HC.out.mono ?_;rintro r w1 ⟨rfl,hb⟩;go_wp2_with fail
 go_ret
 exact⟨Be E.out,hb⟩
theorem aT(p:Pr)(D:Nat→Prop)(sa sf:Value)(w:World)(ha:Cj D w p.arrays sa)(hf:Ck D w p.funcs sf):
  Calls Zc 24 #[.agg #[sa,sf]] w fun r w'=>r= .returned (.bool (Jy p))∧Below w.heap.size w w':=by
 obtain⟨aa,ca,ba,oa,rfl,a1,a2,a3,a4⟩:=ha;obtain⟨af,cf,bf,of',pv,lv,bv,rfl,f1,f2,f3,f4⟩:=hf;have la:=a2.lt;have lf:=f2.lt;have A3:=Za a3;have A4:=Za a4;have F3:=Za f3;have F4:=Za f4;have E:Hid (Jy p=(p.arrays.all Ho && p.funcs.all Hq)):=rfl;clear a1 a2 a3 a4 f1 f2 f3 f4;go_enter Tryz.func24,Tryz.ntmps24
 go_wp2_with fail
 have HW:Hid (Below w.heap.size w (w.alloc (.cells #[.slice aa p.arrays.length ca,.slice af p.funcs.length cf] 34))):=bA;have c1:(w.alloc (.cells #[.slice aa p.arrays.length ca,.slice af p.funcs.length cf] 34)).cell? ⟨w.heap.size,1,none⟩=some (.slice af p.funcs.length cf):=by simp
 have hz0:w.heap.size<(w.alloc (.cells #[.slice aa p.arrays.length ca,.slice af p.funcs.length cf] 34)).heap.size:=by simp
 generalize w.alloc (.cells #[.slice aa p.arrays.length ca,.slice af p.funcs.length cf] 34)=W at HW c1 hz0 ⊢
 go_loopw [2,4,10] (fun s2 _ s10 wr=> ∃k:Nat,k≤p.arrays.length∧s10= .int .i64 k∧s2= .bool false∧(∀i,i<k→Ho (Pb p.arrays i)=true)∧Below W.heap.size W wr) (fun _ _ s10 _=>p.arrays.length - (intOf s10).toNat)
 case atStart=>exact⟨0,Nat.zero_le _,rfl,rfl,fun i hi=>by omega,Ze _ _⟩
 case round=>
  obtain⟨k,hk,rfl,rfl,hall,hb⟩:=hrel;have ALL:=Za hall;clear hall;have HB:=Za (HW.out.trans (hb.mono (by omega)));have HBW:=Za hb;have hzr:w.heap.size<wr.heap.size:=by have:=hb.size;omega
  have c2:=Ab hb c1;clear hb
  by_cases hlt:k<p.arrays.length
  ·obtain⟨rfl,_⟩:aa=some ⟨ba,oa,none⟩∧D ba:=by rcases A3.out with h|h;omega;exact h
   obtain⟨g0,g1⟩:=A4.out k hlt;have e0:=Ab HB.out g0;have e1:=Ab HB.out g1;clear g0 g1;generalize hAk:Pb p.arrays k=A at e0 e1;have HAK:=Za hAk;clear hAk;have RA:Hid (Ho A=(Ap A.name && decide (1≤A.size∧A.size≤1048576))):=rfl;go_wp2_with fail
   refine(Kg [A.name] _ (fun _=>True) _ ⟨some ⟨wr.heap.size+1,0,none⟩,1,wr.heap.size+1,0,rfl,Zd _,by show _≤_;simp,.inr ⟨rfl,trivial⟩,fun i hi=>by obtain rfl:i=0:=(by simp at hi;omega);simp⟩).mono ?_;rintro r w3 ⟨rfl,hb3⟩;have hbr:Below wr.heap.size wr w3:=((bA).alloc (by simp) _).trans (hb3.mono (by simp;omega));have d1:w3.cell? ⟨wr.heap.size,1,none⟩=some (.int .i64 A.size):=Ab hb3 (by simp [Zb]);have HBR:=Za hbr;have HB3:=Za (HB.out.trans (hbr.mono (by omega)));clear hb3 hbr;rw[show([A.name].all Ap)=Ap A.name from by simp];have bad:Hid (Ho A=false→Jy p=false):=fun h=>by
    rw[E.out,Lo p.arrays Ar.nil Ho k hlt (by rw[show p.arrays.getD k Ar.nil=A from HAK.out];exact h)];rfl
   cases q1:Ap A.name
   ·have Q1:=Za q1;clear q1
    go_wp2_with fail
    go_ret
    exact⟨Be (bad.out (by rw[RA.out,Q1.out];rfl)).symm,HB3.out⟩
   have Q1:=Za q1;clear q1
   by_cases q2:1≤A.size
   ·by_cases q3:A.size≤1048576
    ·go_wp2_with fail
     go_roundw
     case rel=>
      refine⟨k+1,by omega,by go_num,rfl,fun i hi=> ?_,HBW.out.trans (HBR.out.mono HBW.out.size)⟩;rcases Nat.lt_succ_iff_lt_or_eq.1 hi with h|rfl
      ·exact ALL.out i h
      ·rw[HAK.out,RA.out,Q1.out];simp [q2,q3]
     case measure=>simp [intOf];omega
    ·go_wp2_with fail
     go_ret
     exact⟨Be (bad.out (by rw[RA.out,Q1.out];simp;omega)).symm,HB3.out⟩
   ·go_wp2_with fail
    go_ret
    exact⟨Be (bad.out (by rw[RA.out,Q1.out];simp;omega)).symm,HB3.out⟩
  ·have hkn:k=p.arrays.length:=by omega
   have EA:Hid (p.arrays.all Ho=true):=Rg p.arrays Ar.nil Ho (fun i hi=>ALL.out i (by omega));clear hkn;go_wp2_with fail
   go_loopw [2,6,33] (fun s2 _ s33 wx=> ∃j:Nat,j≤p.funcs.length∧s33= .int .i64 j∧s2= .bool false∧(∀i,i<j→Hq (Gc p.funcs i)=true)∧Below wr.heap.size wr wx) (fun _ _ s33 _=>p.funcs.length - (intOf s33).toNat)
   case atStart=>exact⟨0,Nat.zero_le _,rfl,rfl,fun i hi=>by omega,Ze _ _⟩
   case round=>
    clear c1 c2;obtain⟨j,hj,rfl,rfl,hall,hb⟩:=hrel;have ALF:=Za hall;clear hall
    rename World=>wx
    have HBX:=Za (HB.out.trans (hb.mono (by omega)));have HBY:=Za hb;clear hb
    by_cases hlj:j<p.funcs.length
    ·obtain⟨rfl,_⟩:af=some ⟨bf,of',none⟩∧D bf:=by rcases F3.out with h|h;omega;exact h
     obtain⟨⟨g0,g1,g2,g3⟩,gp,gl,gb⟩:=F4.out j hlj;have e0:=Ab HBX.out g0;have e1:=Ab HBX.out g1;have e2:=Ab HBX.out g2;have e3:=Ab HBX.out g3;have GP:=Za (gp.old HBX.out);have GL:=Za (gl.old HBX.out);have GB:=Za (gb.old HBX.out);clear g0 g1 g2 g3 gp gl gb;generalize hAk:Gc p.funcs j=A at e0 GP GL GB;generalize pv j=P1 at e1 GP;generalize lv j=L1 at e2 GL;generalize bv j=B1 at e3 GB;have HAK:=Za hAk;clear hAk;obtain⟨pa,pc,hpv⟩:∃a cap,P1= .slice a A.params.length cap:=by obtain⟨a,cap,_,_,h,_⟩:=GP.out;exact⟨a,cap,h⟩
     subst hpv;obtain⟨qa,qc,hqv⟩:∃a cap,L1= .slice a A.locals.length cap:=by obtain⟨a,cap,_,_,h,_⟩:=GL.out;exact⟨a,cap,h⟩
     subst hqv;obtain⟨ra,rc,hrv⟩:∃a cap,B1= .slice a A.body.length cap:=GB.out.shape;subst hrv;have RA:Hid (Hq A=(Ap A.name && A.params.all Ap && A.locals.all Ap && decide (A.params.length≤6) && A.body.all (Jl 40))):=rfl;have bad:Hid (Hq A=false→Jy p=false):=fun h=>by
      rw[E.out,EA.out,Lo p.funcs Fu.nil Hq j hlj (by rw[show p.funcs.getD j Fu.nil=A from HAK.out];exact h)];rfl
     go_wp2_with fail
     refine(Kg [A.name] _ (fun _=>True) _ ⟨some ⟨wx.heap.size+1,0,none⟩,1,wx.heap.size+1,0,rfl,Zd _,by show _≤_;simp,.inr ⟨rfl,trivial⟩,fun i hi=>by obtain rfl:i=0:=(by simp at hi;omega);simp⟩).mono ?_;rintro r w3 ⟨rfl,hb3⟩;have hbr:Below wx.heap.size wx w3:=((bA).alloc (by simp) _).trans (hb3.mono (by simp;omega));have d1:w3.cell? ⟨wx.heap.size,1,none⟩=some (.slice pa A.params.length pc):=Ab hb3 (by simp [Zb]);have d2:w3.cell? ⟨wx.heap.size,2,none⟩=some (.slice qa A.locals.length qc):=Ab hb3 (by simp [Zb]);have d3:w3.cell? ⟨wx.heap.size,3,none⟩=some (.slice ra A.body.length rc):=Ab hb3 (by simp [Zb]);have HBR:=Za hbr;have hs3:=hbr.size;clear hb3 hbr e0 e1 e2 e3;rw[show([A.name].all Ap)=Ap A.name from by simp];have HBZ:=Za (HBX.out.trans (HBR.out.mono (by have:=HBX.out.size;omega)))
     cases q1:Ap A.name
     ·have Q1:=Za q1;clear q1
      go_wp2_with fail
      go_ret
      exact⟨Be (bad.out (by rw[RA.out,Q1.out];rfl)).symm,HBZ.out⟩
     have Q1:=Za q1;clear q1;go_wp2_with fail
     refine(Kg A.params _ D _ (GP.out.old HBR.out)).mono ?_;rintro r w4 ⟨rfl,hb4⟩;have HB4:=Za (HBR.out.trans (hb4.mono hs3));have k1:=Ab hb4 d1;have k2:=Ab hb4 d2;have k3:=Ab hb4 d3;have hs4:=hb4.size;clear hb4 d1 d2 d3;have HBZ4:=Za (HBX.out.trans (HB4.out.mono (by have:=HBX.out.size;omega)))
     cases q2:A.params.all Ap
     ·have Q2:=Za q2;clear q2
      go_wp2_with fail
      go_ret
      exact⟨Be (bad.out (by rw[RA.out,Q2.out];simp)).symm,HBZ4.out⟩
     have Q2:=Za q2;clear q2;go_wp2_with fail
     refine(Kg A.locals _ D _ (GL.out.old HB4.out)).mono ?_;rintro r w5 ⟨rfl,hb5⟩;have HB5:=Za (HB4.out.trans (hb5.mono (by omega)));have m1:=Ab hb5 k1;have m3:=Ab hb5 k3;have hs5:=hb5.size;clear hb5 k1 k2 k3;have HBZ5:=Za (HBX.out.trans (HB5.out.mono (by have:=HBX.out.size;omega)))
     cases q3:A.locals.all Ap
     ·have Q3:=Za q3;clear q3
      go_wp2_with fail
      go_ret
      exact⟨Be (bad.out (by rw[RA.out,Q3.out];simp)).symm,HBZ5.out⟩
     have Q3:=Za q3;clear q3
     by_cases q4:A.params.length≤6
     ·go_wp2_with fail
      refine((Vz 40 (by omega)).2 D A.body _ _ (GB.out.old HB5.out)).mono ?_;rintro r w6 ⟨rfl,hb6⟩;have HB6:=Za (HB5.out.trans (hb6.mono (by omega)));clear hb6 m1 m3;have HBZ6:=Za (HBX.out.trans (HB6.out.mono (by have:=HBX.out.size;omega)))
      cases q5:A.body.all (Jl 40)
      ·have Q5:=Za q5;clear q5
       go_wp2_with fail
       go_ret
       exact⟨Be (bad.out (by rw[RA.out,Q5.out];simp)).symm,HBZ6.out⟩
      ·have Q5:=Za q5;clear q5
       go_wp2_with fail
       go_roundw
       case rel=>
        refine⟨j+1,by omega,by go_num,rfl,fun i hi=> ?_,HBY.out.trans (HB6.out.mono HBY.out.size)⟩;rcases Nat.lt_succ_iff_lt_or_eq.1 hi with h|rfl
        ·exact ALF.out i h
        ·rw[HAK.out,RA.out,Q1.out,Q2.out,Q3.out,Q5.out];simp [q4]
       case measure=>simp [intOf];omega
     ·have q4':6<A.params.length:=by omega
      go_wp2_with fail
      go_ret
      exact⟨Be (bad.out (by rw[RA.out];simp [q4])).symm,HBZ5.out⟩
    ·have hjn:j=p.funcs.length:=by omega
     have EF:Hid (p.funcs.all Hq=true):=Rg p.funcs Fu.nil Hq (fun i hi=>ALF.out i (by omega));clear hjn;go_wp2_with fail
     go_ret
     exact⟨Be (by rw[E.out,EA.out,EF.out];rfl),HBX.out⟩
def Kw:Ex ×Int ×Int→Ex ×Int ×Int
 |(x,e,n)=>if e=0∧Cm x=false then(exZ,41,1)else(x,e,n)
theorem topE_of(z:Bs)(w:World)(r:Ex ×Int ×Int)(HSC:Hid (∀w1,Below w.heap.size w w1→Calls Zc 26 #[.string (Aa z),.func (.func 27) #[] #[]] w1 (WhE w1 r))):
  Calls Zc 13 #[.string (Aa z)] w (WhE w (Kw r)):=by
 obtain⟨x,e0,n0⟩:=r;obtain⟨W,hW⟩:∃W,w.alloc (.cells #[.int .i64 0,.int .i64 0,.int .i64 0,.string ⟨#[]⟩,.slice none 0 0] 27)=W:=⟨_,rfl⟩;have hb0:Below w.heap.size w W:=hW ▸ bA;have h0:Ac W w.heap.size [.int .i64 0,.int .i64 0,.int .i64 0,.string ⟨#[]⟩,.slice none 0 0] 27:=hW ▸ Ac.new w [.int .i64 0,.int .i64 0,.int .i64 0,.string ⟨#[]⟩,.slice none 0 0] 27;have HS:=Za (HSC.out W hb0);have HB0:=Za hb0;have H0:=Za h0;have HW:=Za hW;clear hb0 h0 hW;go_enter Tryz.func13,Tryz.ntmps13
 go_upto_region 1 with(fail)
 rw[HW.out];clear HW;go_wp2_with fail
 refine HS.out.mono ?_;rintro e w1 ⟨hb,v,rfl,hv⟩;dsimp only at hv;obtain⟨s5,rfl,hx,hn5⟩:=hv;obtain⟨a1,a2,rfl⟩:=hx.shape;have HB1:=Za (HB0.out.trans (hb.mono HB0.out.size));have HLT:Hid (w.heap.size<w1.heap.size):=(H0.out.old hb).lt;have HA0:=Za (H0.out.old hb);have HT:=Za (show Ag (w.heap.size< ·) w1 x.args _∧I64 x.n from⟨hx.mono (fun b hb=>by have:=HB0.out.size;have h2:=H0.out.lt;have:W.heap.size≤b:=hb;show w.heap.size<b;omega),hn5⟩);clear hb hx hn5 HS HSC HB0 H0;go_upto_region 2 with(fail)
 have HN:=Za (Ac.new w1 [.int .i64 x.kind,.int .i64 x.op,.int .i64 x.n,.string (Aa x.name),.slice a1 x.args.length a2] 27);have HA1:=Za (HA0.out.alloc (.cells #[.int .i64 x.kind,.int .i64 x.op,.int .i64 x.n,.string (Aa x.name),.slice a1 x.args.length a2] 27));have HB2:=Za (HB1.out.alloc HB1.out.size (.cells #[.int .i64 x.kind,.int .i64 x.op,.int .i64 x.n,.string (Aa x.name),.slice a1 x.args.length a2] 27));have hal:Below w1.heap.size w1 (w1.alloc (.cells #[.int .i64 x.kind,.int .i64 x.op,.int .i64 x.n,.string (Aa x.name),.slice a1 x.args.length a2] 27)):=bA;have HT2:=Za (show Ag (w.heap.size< ·) _ x.args _∧I64 x.n from⟨(HT.out.1).keep (Ba hal),HT.out.2⟩);clear hal HT HB1 HA0;generalize w1.alloc (.cells #[.int .i64 x.kind,.int .i64 x.op,.int .i64 x.n,.string (Aa x.name),.slice a1 x.args.length a2] 27)=w2 at*;obtain⟨b2,hb2⟩:∃b2,w1.heap.size=b2:=⟨_,rfl⟩;rw[hb2]at HLT HN ⊢;clear hb2;have y0:=HN.out.at 0 _ rfl;have f0:=HN.out.fz 0;have y1:=HN.out.at 1 _ rfl;have f1:=HN.out.fz 1;have y2:=HN.out.at 2 _ rfl;have f2:=HN.out.fz 2;have y3:=HN.out.at 3 _ rfl;have f3:=HN.out.fz 3;have y4:=HN.out.at 4 _ rfl;have f4:=HN.out.fz 4;have o0:=HA1.out.at 0 _ rfl;have q0:=HA1.out.fz 0;have o1:=HA1.out.at 1 _ rfl;have q1:=HA1.out.fz 1;have o2:=HA1.out.at 2 _ rfl;have q2:=HA1.out.fz 2;have o3:=HA1.out.at 3 _ rfl;have q3:=HA1.out.fz 3;have o4:=HA1.out.at 4 _ rfl;have q4:=HA1.out.fz 4
 by_cases he:e0=0
 ·subst he
  go_wp2_with fail
  refine(Ht x (w.heap.size< ·) _ _ HT2.out.1).mono ?_;rintro e w3 ⟨rfl,hb3⟩;have HN3:=Za (HN.out.old hb3);have HA3:=Za (HA1.out.old hb3);have HB3:=Za (HB2.out.trans (hb3.mono HB2.out.size));have HT3:=Za (show Ag (w.heap.size< ·) w3 x.args _∧I64 x.n from⟨(HT2.out.1).keep (Ba hb3),HT2.out.2⟩);clear hb3 y0 f0 o0 q0 y1 f1 o1 q1 y2 f2 o2 q2 y3 f3 o3 q3 y4 f4 o4 q4;have y0:=HN3.out.at 0 _ rfl;have f0:=HN3.out.fz 0;have y1:=HN3.out.at 1 _ rfl;have f1:=HN3.out.fz 1;have y2:=HN3.out.at 2 _ rfl;have f2:=HN3.out.fz 2;have y3:=HN3.out.at 3 _ rfl;have f3:=HN3.out.fz 3;have y4:=HN3.out.at 4 _ rfl;have f4:=HN3.out.fz 4;have o0:=HA3.out.at 0 _ rfl;have q0:=HA3.out.fz 0;have o1:=HA3.out.at 1 _ rfl;have q1:=HA3.out.fz 1;have o2:=HA3.out.at 2 _ rfl;have q2:=HA3.out.fz 2;have o3:=HA3.out.at 3 _ rfl;have q3:=HA3.out.fz 3;have o4:=HA3.out.at 4 _ rfl;have q4:=HA3.out.fz 4
  cases hr:Cm x
  ·go_wp2_with fail
   have hs:=(((((HA3.out.set 0 (.int .i64 0)).set 1 (.int .i64 0)).set 2 (.int .i64 0)).set 3 (.string ⟨#[]⟩)).set 4 (.slice none 0 0));have s0:=hs.at 0 _ rfl;have s1:=hs.at 1 _ rfl;have s2:=hs.at 2 _ rfl;have s3:=hs.at 3 _ rfl;have s4:=hs.at 4 _ rfl;exact bodyPost_ret (v:= .tuple #[.agg #[.int .i64 0,.int .i64 0,.int .i64 0,.string ⟨#[]⟩,.slice none 0 0],.int .i64 41,.int .i64 1]) (by simp [results,Tryz.results13,go_sem,s0,s1,s2,s3,s4]) rfl (by
    rw[show Kw (x,0,n0)=(exZ,41,1)by simp [Kw,hr]];exact⟨(((((HB3.out.setCell (p:=⟨w.heap.size,0,none⟩) (Zd _) (.int .i64 0)).setCell (p:=⟨w.heap.size,1,none⟩) (Zd _) (.int .i64 0)).setCell (p:=⟨w.heap.size,2,none⟩) (Zd _) (.int .i64 0)).setCell (p:=⟨w.heap.size,3,none⟩) (Zd _) (.string ⟨#[]⟩)).setCell (p:=⟨w.heap.size,4,none⟩) (Zd _) (.slice none 0 0)),_,rfl,⟨_,rfl,Ag.zero,Dw⟩⟩)
  ·go_wp2_with fail
   have hs:=(((((HA3.out.set 0 (.int .i64 x.kind)).set 1 (.int .i64 x.op)).set 2 (.int .i64 x.n)).set 3 (.string (Aa x.name))).set 4 (.slice a1 x.args.length a2));have s0:=hs.at 0 _ rfl;have s1:=hs.at 1 _ rfl;have s2:=hs.at 2 _ rfl;have s3:=hs.at 3 _ rfl;have s4:=hs.at 4 _ rfl;exact bodyPost_ret (v:= .tuple #[.agg #[.int .i64 x.kind,.int .i64 x.op,.int .i64 x.n,.string (Aa x.name),.slice a1 x.args.length a2],.int .i64 0,.int .i64 n0]) (by simp [results,Tryz.results13,go_sem,s0,s1,s2,s3,s4]) rfl (by
    rw[show Kw (x,0,n0)=(x,0,n0)by simp [Kw,hr]];exact⟨(((((HB3.out.setCell (p:=⟨w.heap.size,0,none⟩) (Zd _) (.int .i64 x.kind)).setCell (p:=⟨w.heap.size,1,none⟩) (Zd _) (.int .i64 x.op)).setCell (p:=⟨w.heap.size,2,none⟩) (Zd _) (.int .i64 x.n)).setCell (p:=⟨w.heap.size,3,none⟩) (Zd _) (.string (Aa x.name))).setCell (p:=⟨w.heap.size,4,none⟩) (Zd _) (.slice a1 x.args.length a2)),_,rfl,⟨_,rfl,((HT3.out.1).keep (Gz _ (by show ¬w.heap.size<w.heap.size;omega) _ _ _ _ _)).mono (fun b hb=>Zo hb),HT3.out.2⟩⟩)
 ·have HA3:=HA1;have HN3:=HN;have HB3:=HB2
  go_wp2_with fail
  have hs:=(((((HA3.out.set 0 (.int .i64 x.kind)).set 1 (.int .i64 x.op)).set 2 (.int .i64 x.n)).set 3 (.string (Aa x.name))).set 4 (.slice a1 x.args.length a2));have s0:=hs.at 0 _ rfl;have s1:=hs.at 1 _ rfl;have s2:=hs.at 2 _ rfl;have s3:=hs.at 3 _ rfl;have s4:=hs.at 4 _ rfl;exact bodyPost_ret (v:= .tuple #[.agg #[.int .i64 x.kind,.int .i64 x.op,.int .i64 x.n,.string (Aa x.name),.slice a1 x.args.length a2],.int .i64 e0,.int .i64 n0]) (by simp [results,Tryz.results13,go_sem,s0,s1,s2,s3,s4]) rfl (by
   rw[show Kw (x,e0,n0)=(x,e0,n0)by simp [Kw,he]];exact⟨(((((HB3.out.setCell (p:=⟨w.heap.size,0,none⟩) (Zd _) (.int .i64 x.kind)).setCell (p:=⟨w.heap.size,1,none⟩) (Zd _) (.int .i64 x.op)).setCell (p:=⟨w.heap.size,2,none⟩) (Zd _) (.int .i64 x.n)).setCell (p:=⟨w.heap.size,3,none⟩) (Zd _) (.string (Aa x.name))).setCell (p:=⟨w.heap.size,4,none⟩) (Zd _) (.slice a1 x.args.length a2)),_,rfl,⟨_,rfl,((HT2.out.1).keep (Gz _ (by show ¬w.heap.size<w.heap.size;omega) _ _ _ _ _)).mono (fun b hb=>Zo hb),HT2.out.2⟩⟩)
def Lh:Pr ×Int ×Int→Pr ×Int ×Int
 |(x,e,n)=>if e=0∧Jy x=false then((⟨[],[]⟩:Pr),41,1)else(x,e,n)
theorem topP_of(z:Bs)(w:World)(r:Pr ×Int ×Int)(HSC:Hid (∀w1,Below w.heap.size w w1→Calls Zc 29 #[.string (Aa z),.func (.func 30) #[] #[]] w1 (WhP w1 r))):
  Calls Zc 14 #[.string (Aa z)] w (WhP w (Lh r)):=by
 obtain⟨x,e0,n0⟩:=r;obtain⟨W,hW⟩:∃W,w.alloc (.cells #[.slice none 0 0,.slice none 0 0] 34)=W:=⟨_,rfl⟩;have hb0:Below w.heap.size w W:=hW ▸ bA;have h0:Ac W w.heap.size [.slice none 0 0,.slice none 0 0] 34:=hW ▸ Ac.new w [.slice none 0 0,.slice none 0 0] 34;have HS:=Za (HSC.out W hb0);have HB0:=Za hb0;have H0:=Za h0;have HW:=Za hW;clear hb0 h0 hW;go_enter Tryz.func14,Tryz.ntmps14
 go_upto_region 1 with(fail)
 rw[HW.out];clear HW;go_wp2_with fail
 refine HS.out.mono ?_;rintro e w1 ⟨hb,v,rfl,hv⟩;dsimp only at hv;obtain⟨av,fv,rfl,hxa,hxf⟩:=hv;obtain⟨a1,a2,rfl⟩:=hxa.yshape;obtain⟨c1,c2,rfl⟩:=hxf.yshape;have HB1:=Za (HB0.out.trans (hb.mono HB0.out.size));have HLT:Hid (w.heap.size<w1.heap.size):=(H0.out.old hb).lt;have HA0:=Za (H0.out.old hb);have HT:=Za (show Cj (w.heap.size< ·) w1 x.arrays _∧Ck (w.heap.size< ·) w1 x.funcs _ from⟨hxa.ymono (fun b hb=>by have:=HB0.out.size;have h2:=H0.out.lt;have:W.heap.size≤b:=hb;show w.heap.size<b;omega),hxf.ymono (fun b hb=>by have:=HB0.out.size;have h2:=H0.out.lt;have:W.heap.size≤b:=hb;show w.heap.size<b;omega)⟩);clear hb hxa hxf HS HSC HB0 H0;go_upto_region 2 with(fail)
 have HN:=Za (Ac.new w1 [.slice a1 x.arrays.length a2,.slice c1 x.funcs.length c2] 34);have HA1:=Za (HA0.out.alloc (.cells #[.slice a1 x.arrays.length a2,.slice c1 x.funcs.length c2] 34));have HB2:=Za (HB1.out.alloc HB1.out.size (.cells #[.slice a1 x.arrays.length a2,.slice c1 x.funcs.length c2] 34));have hal:Below w1.heap.size w1 (w1.alloc (.cells #[.slice a1 x.arrays.length a2,.slice c1 x.funcs.length c2] 34)):=bA;have HT2:=Za (show Cj (w.heap.size< ·) _ x.arrays _∧Ck (w.heap.size< ·) _ x.funcs _ from⟨(HT.out.1).keep (Ba hal),(HT.out.2).keep (Ba hal)⟩);clear hal HT HB1 HA0;generalize w1.alloc (.cells #[.slice a1 x.arrays.length a2,.slice c1 x.funcs.length c2] 34)=w2 at*;obtain⟨b2,hb2⟩:∃b2,w1.heap.size=b2:=⟨_,rfl⟩;rw[hb2]at HLT HN ⊢;clear hb2;have y0:=HN.out.at 0 _ rfl;have f0:=HN.out.fz 0;have y1:=HN.out.at 1 _ rfl;have f1:=HN.out.fz 1;have o0:=HA1.out.at 0 _ rfl;have q0:=HA1.out.fz 0;have o1:=HA1.out.at 1 _ rfl;have q1:=HA1.out.fz 1
 by_cases he:e0=0
 ·subst he
  go_wp2_with fail
  refine(aT x (w.heap.size< ·) _ _ _ HT2.out.1 HT2.out.2).mono ?_;rintro e w3 ⟨rfl,hb3⟩;have HN3:=Za (HN.out.old hb3);have HA3:=Za (HA1.out.old hb3);have HB3:=Za (HB2.out.trans (hb3.mono HB2.out.size));have HT3:=Za (show Cj (w.heap.size< ·) w3 x.arrays _∧Ck (w.heap.size< ·) w3 x.funcs _ from⟨(HT2.out.1).keep (Ba hb3),(HT2.out.2).keep (Ba hb3)⟩);clear hb3 y0 f0 o0 q0 y1 f1 o1 q1;have y0:=HN3.out.at 0 _ rfl;have f0:=HN3.out.fz 0;have y1:=HN3.out.at 1 _ rfl;have f1:=HN3.out.fz 1;have o0:=HA3.out.at 0 _ rfl;have q0:=HA3.out.fz 0;have o1:=HA3.out.at 1 _ rfl;have q1:=HA3.out.fz 1
  cases hr:Jy x
  ·go_wp2_with fail
   have hs:=((HA3.out.set 0 (.slice none 0 0)).set 1 (.slice none 0 0));have s0:=hs.at 0 _ rfl;have s1:=hs.at 1 _ rfl;exact bodyPost_ret (v:= .tuple #[.agg #[.slice none 0 0,.slice none 0 0],.int .i64 41,.int .i64 1]) (by simp [results,Tryz.results14,go_sem,s0,s1]) rfl (by
    rw[show Lh (x,0,n0)=((⟨[],[]⟩:Pr),41,1)by simp [Lh,hr]];exact⟨((HB3.out.setCell (p:=⟨w.heap.size,0,none⟩) (Zd _) (.slice none 0 0)).setCell (p:=⟨w.heap.size,1,none⟩) (Zd _) (.slice none 0 0)),_,rfl,⟨_,_,rfl,Cj.zero,Ck.zero⟩⟩)
  ·go_wp2_with fail
   have hs:=((HA3.out.set 0 (.slice a1 x.arrays.length a2)).set 1 (.slice c1 x.funcs.length c2));have s0:=hs.at 0 _ rfl;have s1:=hs.at 1 _ rfl;exact bodyPost_ret (v:= .tuple #[.agg #[.slice a1 x.arrays.length a2,.slice c1 x.funcs.length c2],.int .i64 0,.int .i64 n0]) (by simp [results,Tryz.results14,go_sem,s0,s1]) rfl (by
    rw[show Lh (x,0,n0)=(x,0,n0)by simp [Lh,hr]];exact⟨((HB3.out.setCell (p:=⟨w.heap.size,0,none⟩) (Zd _) (.slice a1 x.arrays.length a2)).setCell (p:=⟨w.heap.size,1,none⟩) (Zd _) (.slice c1 x.funcs.length c2)),_,rfl,⟨_,_,rfl,((HT3.out.1).keep (Qb _ (by show ¬w.heap.size<w.heap.size;omega) _ _)).ymono (fun b hb=>Zo hb),((HT3.out.2).keep (Qb _ (by show ¬w.heap.size<w.heap.size;omega) _ _)).ymono (fun b hb=>Zo hb)⟩⟩)
 ·have HA3:=HA1;have HN3:=HN;have HB3:=HB2
  go_wp2_with fail
  have hs:=((HA3.out.set 0 (.slice a1 x.arrays.length a2)).set 1 (.slice c1 x.funcs.length c2));have s0:=hs.at 0 _ rfl;have s1:=hs.at 1 _ rfl;exact bodyPost_ret (v:= .tuple #[.agg #[.slice a1 x.arrays.length a2,.slice c1 x.funcs.length c2],.int .i64 e0,.int .i64 n0]) (by simp [results,Tryz.results14,go_sem,s0,s1]) rfl (by
   rw[show Lh (x,e0,n0)=(x,e0,n0)by simp [Lh,he]];exact⟨((HB3.out.setCell (p:=⟨w.heap.size,0,none⟩) (Zd _) (.slice a1 x.arrays.length a2)).setCell (p:=⟨w.heap.size,1,none⟩) (Zd _) (.slice c1 x.funcs.length c2)),_,rfl,⟨_,_,rfl,((HT2.out.1).keep (Qb _ (by show ¬w.heap.size<w.heap.size;omega) _ _)).ymono (fun b hb=>Zo hb),((HT2.out.2).keep (Qb _ (by show ¬w.heap.size<w.heap.size;omega) _ _)).ymono (fun b hb=>Zo hb)⟩⟩)
end Go.Proofs.YtcfpfnoldgnloaaGreatDoor
