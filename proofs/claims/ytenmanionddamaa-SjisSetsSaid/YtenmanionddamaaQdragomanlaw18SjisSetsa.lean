/- Contracts of functions that the laws reach: each call answers what the plain function beside it answers. No conditions but those that each theorem states. (Written by a patched copy of the print, wip/gen/patch_print.py, over contracts of our own.) -/
import Derived.Test.YtenmanionddamaaQ0
import Derived.Test.YtenmanionddamaaQeqb
import Derived.Test.YtenmanionddamaaQdragomanref18a
import Derived.Test.YtenmanionddamaaXSjis
namespace Go.Proofs.Ytenmanionddamaa.Q
open Go.RowKit Go.Proofs.YtenmanionddamaaW.PrintWords Go.Proofs.YtenmanionddamaaW.PrintLast Go.Proofs.YtenmanionddamaaW.PrintMore
attribute [local go_sem] max2_int min2_int max_two min_two max_three min_three max_four min_four   -- for this text's walks alone
set_option linter.unusedVariables false
set_option linter.unusedSimpArgs false

attribute [local go_sem high] eqA27
/-! ### dragomanlaw18_SjisSets: function 3 -/
def dragomanlaw18_SjisSets.f (k : Nat) (a0 : Int) : Option (Bool) := (sjis_Set.f k a0).bind fun bt118 => ((dragomanref18_Set.f k a0).bind fun bt124 => (some (bt118.1 == bt124.1 && (bt118.2.1.toList == bt124.2.1.toList && ((bt118.2.2.1 == bt124.2.2.1 && (bt118.2.2.2.1 == bt124.2.2.2.1 && (bt118.2.2.2.2.1 == bt124.2.2.2.2.1 && (bt118.2.2.2.2.2 == bt124.2.2.2.2.2)))))))))
theorem dragomanlaw18_SjisSets.mono : ∀ a0 k, LeO (dragomanlaw18_SjisSets.f k a0) (dragomanlaw18_SjisSets.f (k + 1) a0) := by
  intro a0 k
  unfold dragomanlaw18_SjisSets.f
  repeat' first
      | (with_reducible exact dragomanref18_Set.mono _ _)
      | (with_reducible exact sjis_Set.mono _ _)
      | (with_reducible exact LeO.refl _)
      | (with_reducible exact LeO.none _)
      | (with_reducible refine LeO.ite ?_ ?_)
      | (with_reducible refine LeO.bind ?_ (fun _ => ?_))
      | exact dragomanref18_Set.mono _ _
      | exact sjis_Set.mono _ _
      | exact LeO.none _
      | refine LeO.ite ?_ ?_
      | refine LeO.bind ?_ (fun _ => ?_)
set_option maxHeartbeats 8000000 in
set_option maxRecDepth 100000 in
theorem dragomanlaw18_SjisSets.calls (k : Nat) (a0 : Int) (r : Bool) (w : World) (h : dragomanlaw18_SjisSets.f k a0 = some r) :
    Calls Try.prog 3 #[.int .i32 a0] w fun e w' => e = .returned (.bool r) ∧ Below w.heap.size w w' := by
  have HB := Aside0.mk (Below.refl w.heap.size w)
  have H : ((sjis_Set.f k a0).bind fun bt118 => ((dragomanref18_Set.f k a0).bind fun bt124 => (some (bt118.1 == bt124.1 && (bt118.2.1.toList == bt124.2.1.toList && ((bt118.2.2.1 == bt124.2.2.1 && (bt118.2.2.2.1 == bt124.2.2.2.1 && (bt118.2.2.2.2.1 == bt124.2.2.2.2.1 && (bt118.2.2.2.2.2 == bt124.2.2.2.2.2)))))))))) = some r := h
  clear h
  replace H := Option.bind_eq_some_iff.mp H
  obtain ⟨⟨t118, t119, t120, t121, t122, t123⟩, A20, H⟩ := H
  replace H : ((dragomanref18_Set.f k a0).bind fun bt124 => (some (t118 == bt124.1 && (t119.toList == bt124.2.1.toList && ((t120 == bt124.2.2.1 && (t121 == bt124.2.2.2.1 && (t122 == bt124.2.2.2.2.1 && (t123 == bt124.2.2.2.2.2))))))))) = some r := H
  have A2 := Aside0.mk A20
  clear A20
  replace H := Option.bind_eq_some_iff.mp H
  obtain ⟨⟨t124, t125, t126, t127, t128, t129⟩, A30, H⟩ := H
  replace H : (some (t118 == t124 && (t119.toList == t125.toList && ((t120 == t126 && (t121 == t127 && (t122 == t128 && (t123 == t129)))))))) = some r := H
  have A3 := Aside0.mk A30
  clear A30
  obtain rfl := Option.some.inj H
  go_enter Try.func3, Try.ntmps3
  go_wp2_with (first | ((with_reducible refine gate_callee (f := 19) rfl ?_); refine goesL_ (some 4) rfl rfl Try.func19 (by kernel_rfl) rfl #[.int .i32 a0] rfl (by (try simp only [List.map_toArray, List.map_cons, List.map_nil]); first | done | rfl | (simp only [List.length_drop, List.length_take]; rfl)) ?_; (with_reducible refine (sjis_Set.calls k a0 t118 t119 t120 t121 t122 t123 _ A2.out).mono ?_); rintro e w4 ⟨rfl, hb⟩; refine ⟨_, rfl, ?_⟩; have n0_ := Aside0.mk (below_step (by repeat (first | (with_reducible first | exact HB.out | apply below_alloc | apply pw_below_drewN | apply below_drew1) | exact HB.out)) hb); clear HB; have HB := n0_; clear n0_; (try clear hb); (try clear hb2); (try clear hk); (try clear hi)) | ((with_reducible refine gate_callee (f := 20) rfl ?_); refine goesL_ (some 6) rfl rfl Try.func20 (by kernel_rfl) rfl #[.int .i32 a0] rfl (by (try simp only [List.map_toArray, List.map_cons, List.map_nil]); first | done | rfl | (simp only [List.length_drop, List.length_take]; rfl)) ?_; (with_reducible refine (dragomanref18_Set.calls k a0 t124 t125 t126 t127 t128 t129 _ A3.out).mono ?_); rintro e w5 ⟨rfl, hb⟩; refine ⟨_, rfl, ?_⟩; have n0_ := Aside0.mk (below_step (by repeat (first | (with_reducible first | exact HB.out | apply below_alloc | apply pw_below_drewN | apply below_drew1) | exact HB.out)) hb); clear HB; have HB := n0_; clear n0_; (try clear hb); (try clear hb2); (try clear hk); (try clear hi)))
  go_ret
  exact ⟨by first | rfl | (simp [errW_none, errW_some] <;> rfl) | (simp [*, errW_none, errW_some] <;> rfl), by repeat (first | (with_reducible first | exact HB.out | apply below_alloc | apply pw_below_drewN | apply below_drew1) | exact HB.out)⟩

/-- THE ONE PURE STATEMENT of dragomanlaw18_SjisSets: yours. -/
def dragomanlaw18_SjisSets.Pure : Prop := ∀ (a0 : Int), (Lit.int .i32 a0).wf = true → ∃ k, dragomanlaw18_SjisSets.f k a0 = some true
theorem dragomanlaw18_SjisSets.walk (P : dragomanlaw18_SjisSets.Pure) (a0 : Int) (w : World) (w0 : (Lit.int .i32 a0).wf = true) :
    Calls Try.prog 3 #[.int .i32 a0] w fun e w' => e = .returned (.bool true) ∧ Below w.heap.size w w' := by
  obtain ⟨k, h⟩ := P a0 w0
  refine (dragomanlaw18_SjisSets.calls k a0 true w h).mono ?_
  rintro e w' ⟨rfl, hd⟩
  exact ⟨rfl, hd⟩

end Go.Proofs.Ytenmanionddamaa.Q
