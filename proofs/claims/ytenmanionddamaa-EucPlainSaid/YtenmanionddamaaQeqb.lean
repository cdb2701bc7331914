/- Contracts of functions that the laws reach: each call answers what the plain function beside it answers. No conditions but those that each theorem states. (Written by a patched copy of the print, wip/gen/patch_print.py, over contracts of our own.) -/
import Derived.Test.YtenmanionddamaaQ0
import Derived.Test.YtenmanionddamaaQeqa
namespace Go.Proofs.Ytenmanionddamaa.Q
open Go.RowKit Go.Proofs.YtenmanionddamaaW.PrintWords Go.Proofs.YtenmanionddamaaW.PrintLast Go.Proofs.YtenmanionddamaaW.PrintMore
attribute [local go_sem] max2_int min2_int max_two min_two max_three min_three max_four min_four   -- for this text's walks alone
set_option linter.unusedVariables false
set_option linter.unusedSimpArgs false

theorem eqA36 (d : Nat) (w : World) (x0 y0 : Int) (x1 y1 : Int) (x2 y2 : Int) (x3 y3 : Int) (x4 y4 : Int) (x5 y5 : Int) (x6 y6 : Int) (x7 y7 : Int) (x8 y8 : Int) :
    (Op.equalIn (d + 3) 36 (.agg #[.int .i64 x0, .int .i64 x1, .int .i64 x2, .int .i32 x3, .int .i32 x4, .int .i64 x5, .int .i64 x6, .int .u32 x7, .int .i32 x8]) (.agg #[.int .i64 y0, .int .i64 y1, .int .i64 y2, .int .i32 y3, .int .i32 y4, .int .i64 y5, .int .i64 y6, .int .u32 y7, .int .i32 y8])).run Try.prog w = .ok (x0 == y0 && (x1 == y1 && (x2 == y2 && (x3 == y3 && (x4 == y4 && ((x5 == y5 && (x6 == y6 && (x7 == y7 && (x8 == y8)))))))))) w := by
  refine eqA_of Try.underlying36 (by kernel_rfl) ?_
  refine eqf_cons (by rfl) (by go_simp; rfl) (by go_simp; rfl) (by go_simp) ?_
  refine eqf_cons (by rfl) (by go_simp; rfl) (by go_simp; rfl) (by go_simp) ?_
  refine eqf_cons (by rfl) (by go_simp; rfl) (by go_simp; rfl) (by go_simp) ?_
  refine eqf_cons (by rfl) (by go_simp; rfl) (by go_simp; rfl) (by go_simp) ?_
  refine eqf_cons (by rfl) (by go_simp; rfl) (by go_simp; rfl) (by go_simp) ?_
  exact eqf_last (by rfl) (by go_simp) (by go_simp) (eqA25 (d + 0) w _ _ _ _ _ _ _ _)
end Go.Proofs.Ytenmanionddamaa.Q
