/-
  The operators' rows, signs and levels: what arith.rowOf, Sign and Level answer. No condition.
-/
import Derived.Test.YthcpopmmlneneaaGreatDoorPt00
set_option linter.unusedVariables false
set_option linter.unusedSimpArgs false
namespace Go.Proofs.YthcpopmmlneneaaGreatDoor
open Go.RowKit Go.Proofs.Tryz
set_option maxHeartbeats 20000000
set_option maxRecDepth 100000
theorem row_eq {s:ByteArray}{l op:Int}{a b:Value}(f:s=Aa (As op))(e:l=Ao op):
  ∃c d,Ending.returned (.agg #[.string s,.int .i64 l,a,b])=.returned (.agg #[.string (Aa (As op)),.int .i64 (Ao op),c,d]):=by
 subst f e;exact⟨_,_,rfl⟩
theorem aO(op:Int){w:World}:
  Calls Tryz.prog 101 #[.int .i64 op] w fun e w'=>(∃a b,e=.returned (.agg #[.string (Aa (As op)),.int .i64 (Ao op),a,b]))∧Below w.heap.size w w':=by
 go_enter func101,ntmps101
 go_wp2
 all_goals(refine bodyPost_ret (by simp [results,results101,go_sem];rfl) rfl ?_)
 all_goals(refine⟨row_eq ?_ ?_,by repeat(first|exact Below.refl _ _|refine Below.alloc ?_ (Nat.le_refl _) _)⟩)
 all_goals(simp only[beq_iff_eq,beq_eq_false_iff_ne,ne_eq]at*;simp [As,Ao,Aa, *])
@[go_sem] theorem field_row0 (a b c d:Value) (w:World):(Instr.field 147 (.agg #[a,b,c,d]) 0).run Tryz.prog w=.ok a w:=by kernel_rfl
@[go_sem] theorem field_row1 (a b c d:Value) (w:World):(Instr.field 147 (.agg #[a,b,c,d]) 1).run Tryz.prog w=.ok b w:=by kernel_rfl
theorem Km(op:Int)(w:World):
  Calls Tryz.prog 55 #[.int .i64 op] w fun e w'=>e=.returned (.int .i64 (Ao op))∧Below w.heap.size w w':=by
 go_enter func55,ntmps55;go_wp2_with fail;refine(aO op).mono ?_;rintro e d ⟨⟨b,c,rfl⟩,a⟩;go_wp2;go_ret
 exact⟨rfl,a⟩
theorem El(op:Int){w:World}:
  Calls Tryz.prog 53 #[.int .i64 op] w fun e w'=>e=.returned (.tuple #[.string (Aa (As op)),.bool (!(As op).isEmpty)])∧Below w.heap.size w w':=by
 go_enter func53,ntmps53;go_wp2_with fail;refine(aO op).mono ?_;rintro e d ⟨⟨b,c,rfl⟩,a⟩;go_wp2
 go_ret2
 exact⟨by simp [Aa],a⟩
end Go.Proofs.YthcpopmmlneneaaGreatDoor
