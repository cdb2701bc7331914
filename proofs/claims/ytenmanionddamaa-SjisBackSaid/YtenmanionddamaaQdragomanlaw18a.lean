/- Contracts of functions that the laws reach: each call answers what the plain function beside it answers. No conditions but those that each theorem states. (Written by a patched copy of the print, wip/gen/patch_print.py, over contracts of our own.) -/
import Derived.Test.YtenmanionddamaaQ0
import Derived.Test.YtenmanionddamaaQeqb
import Derived.Test.YtenmanionddamaaQeqc
import Derived.Test.YtenmanionddamaaQsjisa
import Derived.Test.YtenmanionddamaaXSjis
namespace Go.Proofs.Ytenmanionddamaa.Q
open Go.RowKit Go.Proofs.YtenmanionddamaaW.PrintWords Go.Proofs.YtenmanionddamaaW.PrintLast Go.Proofs.YtenmanionddamaaW.PrintMore
attribute [local go_sem] max2_int min2_int max_two min_two max_three min_three max_four min_four   -- for this text's walks alone
set_option linter.unusedVariables false
set_option linter.unusedSimpArgs false

attribute [local go_sem high] eqA27 eqA36
/-! ### dragomanlaw18_works: function 29 -/
def dragomanlaw18_works.f (k : Nat)  : Option (Bool) := (sjis_Pack.f k 94 94).bind fun bt190 => (if bt190.1 = 239 then (if bt190.2.1 = 252 then (if bt190.2.2 = true then ((sjis_Get.f k (([130, 160] : List Int))).bind fun bt196 => (if (bt196.1 == 0 && (bt196.2.1 == 2 && (bt196.2.2.1 == 1 && (bt196.2.2.2.1 == 12354 && (bt196.2.2.2.2.1 == 0 && ((bt196.2.2.2.2.2.1 == 0 && (bt196.2.2.2.2.2.2.1 == 0 && (bt196.2.2.2.2.2.2.2.1 == 0 && (bt196.2.2.2.2.2.2.2.2 == 0)))))))))) = true then ((sjis_Set.f k 65393).bind fun bt205 => (some (bt205.1 == 0 && (bt205.2.1.toList == ([177] : List UInt8) && ((bt205.2.2.1 == 0 && (bt205.2.2.2.1 == 0 && (bt205.2.2.2.2.1 == 0 && (bt205.2.2.2.2.2 == 0))))))))) else (some false))) else (some false)) else (some false)) else (some false))
theorem dragomanlaw18_works.mono : ∀ k, LeO (dragomanlaw18_works.f k ) (dragomanlaw18_works.f (k + 1) ) := by
  intro  k
  unfold dragomanlaw18_works.f
  repeat' first
      | (with_reducible exact sjis_Get.mono _ _)
      | (with_reducible exact sjis_Pack.mono _ _ _)
      | (with_reducible exact sjis_Set.mono _ _)
      | (with_reducible exact LeO.refl _)
      | (with_reducible exact LeO.none _)
      | (with_reducible refine LeO.ite ?_ ?_)
      | (with_reducible refine LeO.bind ?_ (fun _ => ?_))
      | exact sjis_Get.mono _ _
      | exact sjis_Pack.mono _ _ _
      | exact sjis_Set.mono _ _
      | exact LeO.none _
      | refine LeO.ite ?_ ?_
      | refine LeO.bind ?_ (fun _ => ?_)
set_option maxHeartbeats 8000000 in
set_option maxRecDepth 100000 in
theorem dragomanlaw18_works.calls (k : Nat)  (r : Bool) (w : World) (h : dragomanlaw18_works.f k  = some r) :
    Calls Try.prog 29 #[] w fun e w' => e = .returned (.bool r) ∧ Below w.heap.size w w' := by
  have hu36 := Try.underlying36
  have hu27 := Try.underlying27
  have HB := Aside0.mk (Below.refl w.heap.size w)
  have H : ((sjis_Pack.f k 94 94).bind fun bt190 => (if bt190.1 = 239 then (if bt190.2.1 = 252 then (if bt190.2.2 = true then ((sjis_Get.f k (([130, 160] : List Int))).bind fun bt196 => (if (bt196.1 == 0 && (bt196.2.1 == 2 && (bt196.2.2.1 == 1 && (bt196.2.2.2.1 == 12354 && (bt196.2.2.2.2.1 == 0 && ((bt196.2.2.2.2.2.1 == 0 && (bt196.2.2.2.2.2.2.1 == 0 && (bt196.2.2.2.2.2.2.2.1 == 0 && (bt196.2.2.2.2.2.2.2.2 == 0)))))))))) = true then ((sjis_Set.f k 65393).bind fun bt205 => (some (bt205.1 == 0 && (bt205.2.1.toList == ([177] : List UInt8) && ((bt205.2.2.1 == 0 && (bt205.2.2.2.1 == 0 && (bt205.2.2.2.2.1 == 0 && (bt205.2.2.2.2.2 == 0))))))))) else (some false))) else (some false)) else (some false)) else (some false))) = some r := h
  clear h
  replace H := Option.bind_eq_some_iff.mp H
  obtain ⟨⟨t190, t191, t192⟩, A10, H⟩ := H
  replace H : (if t190 = 239 then (if t191 = 252 then (if t192 = true then ((sjis_Get.f k (([130, 160] : List Int))).bind fun bt196 => (if (bt196.1 == 0 && (bt196.2.1 == 2 && (bt196.2.2.1 == 1 && (bt196.2.2.2.1 == 12354 && (bt196.2.2.2.2.1 == 0 && ((bt196.2.2.2.2.2.1 == 0 && (bt196.2.2.2.2.2.2.1 == 0 && (bt196.2.2.2.2.2.2.2.1 == 0 && (bt196.2.2.2.2.2.2.2.2 == 0)))))))))) = true then ((sjis_Set.f k 65393).bind fun bt205 => (some (bt205.1 == 0 && (bt205.2.1.toList == ([177] : List UInt8) && ((bt205.2.2.1 == 0 && (bt205.2.2.2.1 == 0 && (bt205.2.2.2.2.1 == 0 && (bt205.2.2.2.2.2 == 0))))))))) else (some false))) else (some false)) else (some false)) else (some false)) = some r := H
  have A1 := Aside0.mk A10
  clear A10
  by_cases c2 : t190 = 239
  · rw [if_pos c2] at H
    have c2b0 : (t190 == 239) = true := beq_iff_eq.mpr c2
    have c2b1 : (t190 != 239) = false := bne_eq_false_iff_eq.mpr c2
    clear c2
    by_cases c3 : t191 = 252
    · rw [if_pos c3] at H
      have c3b0 : (t191 == 252) = true := beq_iff_eq.mpr c3
      have c3b1 : (t191 != 252) = false := bne_eq_false_iff_eq.mpr c3
      clear c3
      by_cases c4 : t192 = true
      · subst c4
        have H1 : ((sjis_Get.f k (([130, 160] : List Int))).bind fun bt196 => (if (bt196.1 == 0 && (bt196.2.1 == 2 && (bt196.2.2.1 == 1 && (bt196.2.2.2.1 == 12354 && (bt196.2.2.2.2.1 == 0 && ((bt196.2.2.2.2.2.1 == 0 && (bt196.2.2.2.2.2.2.1 == 0 && (bt196.2.2.2.2.2.2.2.1 == 0 && (bt196.2.2.2.2.2.2.2.2 == 0)))))))))) = true then ((sjis_Set.f k 65393).bind fun bt205 => (some (bt205.1 == 0 && (bt205.2.1.toList == ([177] : List UInt8) && ((bt205.2.2.1 == 0 && (bt205.2.2.2.1 == 0 && (bt205.2.2.2.2.1 == 0 && (bt205.2.2.2.2.2 == 0))))))))) else (some false))) = some r := by rw [if_pos rfl] at H; exact H
        clear H
        have H := H1
        clear H1
        obtain ⟨y193, hy193⟩ : ∃ y_ : List Int, y_ = (([130, 160] : List Int)) := ⟨_, rfl⟩
        replace H : ((sjis_Get.f k y193).bind fun bt196 => (if (bt196.1 == 0 && (bt196.2.1 == 2 && (bt196.2.2.1 == 1 && (bt196.2.2.2.1 == 12354 && (bt196.2.2.2.2.1 == 0 && ((bt196.2.2.2.2.2.1 == 0 && (bt196.2.2.2.2.2.2.1 == 0 && (bt196.2.2.2.2.2.2.2.1 == 0 && (bt196.2.2.2.2.2.2.2.2 == 0)))))))))) = true then ((sjis_Set.f k 65393).bind fun bt205 => (some (bt205.1 == 0 && (bt205.2.1.toList == ([177] : List UInt8) && ((bt205.2.2.1 == 0 && (bt205.2.2.2.1 == 0 && (bt205.2.2.2.2.1 == 0 && (bt205.2.2.2.2.2 == 0))))))))) else (some false))) = some r := by first | (rw [hy193]; with_reducible exact H) | (have H2_ := (Option.bind_some _ _).symm.trans H; rw [hy193]; with_reducible exact H2_) | (have H2_ := (Option.bind_some _ _).symm.trans H; with_reducible exact H2_) | with_reducible exact H | (rw [hy193]; exact H) | exact H
        have Ny193 := Aside0.mk hy193
        clear hy193
        replace H := Option.bind_eq_some_iff.mp H
        obtain ⟨⟨t196, t197, t198, t199, t200, t201, t202, t203, t204⟩, A50, H⟩ := H
        replace H : (if (t196 == 0 && (t197 == 2 && (t198 == 1 && (t199 == 12354 && (t200 == 0 && ((t201 == 0 && (t202 == 0 && (t203 == 0 && (t204 == 0)))))))))) = true then ((sjis_Set.f k 65393).bind fun bt205 => (some (bt205.1 == 0 && (bt205.2.1.toList == ([177] : List UInt8) && ((bt205.2.2.1 == 0 && (bt205.2.2.2.1 == 0 && (bt205.2.2.2.2.1 == 0 && (bt205.2.2.2.2.2 == 0))))))))) else (some false)) = some r := H
        have A5 := Aside0.mk A50
        clear A50
        by_cases c6 : (t196 == 0 && (t197 == 2 && (t198 == 1 && (t199 == 12354 && (t200 == 0 && ((t201 == 0 && (t202 == 0 && (t203 == 0 && (t204 == 0)))))))))) = true
        · rw [if_pos c6] at H
          have c6b0 : (t196 == 0 && (t197 == 2 && (t198 == 1 && (t199 == 12354 && (t200 == 0 && ((t201 == 0 && (t202 == 0 && (t203 == 0 && (t204 == 0)))))))))) = true := c6
          (try (have c6b1 : decide (t196 = 0 && (t197 == 2 && (t198 == 1 && (t199 == 12354 && (t200 == 0 && ((t201 == 0 && (t202 == 0 && (t203 == 0 && (t204 == 0)))))))))) = true := by simpa using c6))
          (try (have c6b2 : (t196 == 0 && (t197 == 2 && (t198 == 1 && (t199 == 12354 && (t200 == 0 && ((t201 == 0 && (t202 == 0 && (t203 == 0 && (t204 == 0)))))))))) = true := by simpa using c6))
          clear c6
          replace H := Option.bind_eq_some_iff.mp H
          obtain ⟨⟨t205, t206, t207, t208, t209, t210⟩, A70, H⟩ := H
          replace H : (some (t205 == 0 && (t206.toList == ([177] : List UInt8) && ((t207 == 0 && (t208 == 0 && (t209 == 0 && (t210 == 0)))))))) = some r := H
          have A7 := Aside0.mk A70
          clear A70
          obtain rfl := Option.some.inj H
          go_enter Try.func29, Try.ntmps29
          go_wp2_with (first | ((with_reducible refine gate_callee (f := 30) rfl ?_); refine goesL_ (some 5) rfl rfl Try.func30 (by kernel_rfl) rfl #[.int .i64 94, .int .i64 94] rfl (by (try simp only [List.map_toArray, List.map_cons, List.map_nil]); first | done | rfl | (simp only [List.length_drop, List.length_take]; rfl)) ?_; (with_reducible refine (sjis_Pack.calls k 94 94 t190 t191 true _ A1.out).mono ?_); rintro e w' ⟨rfl, ⟨nd, rfl⟩⟩; refine ⟨_, rfl, ?_⟩) | ((with_reducible refine gate_dst (N := 19) rfl ?_); (try (refine gate_guard (by rfl) ?_; dsimp only)); refine Kd.R_lit (Kd.int .u8) _ 5 ?hg (N := 19) ?hd (xs := ([130, 160] : List Int)) (inner := [.int .u8 130, .int .u8 160]) (ok := fun _ => True) (okp := fun _ => True) ?hr ?hp (fun _ hk => hk) trivial (Below.refl _ _) (Nat.le_refl _) (by simp) ?_; (case hd => rfl); (case hg => rfl); (case hr => first | (go_simp; done) | (go_simp; rfl)); (case hp => exact (Reps.one (show Kd.M (Kd.int .u8) _ _ _ 130 [.int .u8 130] from rfl) (Reps.one (show Kd.M (Kd.int .u8) _ _ _ 160 [.int .u8 160] from rfl) (Reps.none _ _)))); intro v194 w8 ho9 hb hg_ hnew_; clear hg_ hnew_; (first | rw [← Ny193.out] at ho9 | (simp only [Int.reduceToNat] at ho9; rw [← Ny193.out] at ho9)); have n0_ := Aside0.mk (Kd.R_lower ho9 (below_size (by repeat (first | (with_reducible first | exact HB.out | apply below_alloc | apply pw_below_drewN | apply below_drew1) | exact HB.out)))); have n1_ := Aside0.mk (below_step (by repeat (first | (with_reducible first | exact HB.out | apply below_alloc | apply pw_below_drewN | apply below_drew1) | exact HB.out)) hb); clear HB; have HO195 := n0_; have HB := n1_; clear n0_ n1_; clear hb ho9; obtain ⟨Ao10, co10, eo10⟩ := Kd.R_slice HO195.out; subst eo10) | (go_at_call 25; (with_reducible refine (sjis_Get.calls k _ _ y193 t196 t197 t198 t199 t200 t201 t202 t203 t204 _ ?side1 ?side2 A5.out).mono ?_); (case side1 => repeat (first | exact (Kd.R_reads' HO195.out).2.2 | (with_reducible refine Kd.C_alloc ?_ _) | (with_reducible refine Kd.C_drewN ?_ _) | (with_reducible refine Kd.C_drew ?_))); (case side2 => exact (Kd.R_reads' HO195.out).2.1); rintro e w11 ⟨rfl, hb⟩; have n0_ := Aside0.mk (Kd.R_below (by (with_reducible repeat (first | apply Kd.R_alloc | apply Kd.R_drewN | apply Kd.R_drew)); exact HO195.out) hb); have n1_ := Aside0.mk (below_step (by repeat (first | (with_reducible first | exact HB.out | apply below_alloc | apply pw_below_drewN | apply below_drew1) | exact HB.out)) hb); clear HO195; clear HB; have HO195 := n0_; have HB := n1_; clear n0_ n1_; (try clear hb); (try clear hb2); (try clear hk); (try clear hi)) | (go_at_call 19; (with_reducible refine (sjis_Set.calls k 65393 t205 t206 t207 t208 t209 t210 _ A7.out).mono ?_); rintro e w12 ⟨rfl, hb⟩; have n0_ := Aside0.mk (Kd.R_below (by (with_reducible repeat (first | apply Kd.R_alloc | apply Kd.R_drewN | apply Kd.R_drew)); exact HO195.out) hb); have n1_ := Aside0.mk (below_step (by repeat (first | (with_reducible first | exact HB.out | apply below_alloc | apply pw_below_drewN | apply below_drew1) | exact HB.out)) hb); clear HO195; clear HB; have HO195 := n0_; have HB := n1_; clear n0_ n1_; (try clear hb); (try clear hb2); (try clear hk); (try clear hi)))
          go_ret
          exact ⟨by first | rfl | (simp [errW_none, errW_some] <;> rfl) | (simp [*, errW_none, errW_some] <;> rfl), by repeat (first | (with_reducible first | exact HB.out | apply below_alloc | apply pw_below_drewN | apply below_drew1) | exact HB.out)⟩
        · rw [if_neg c6] at H
          have c6b0 : (t196 == 0 && (t197 == 2 && (t198 == 1 && (t199 == 12354 && (t200 == 0 && ((t201 == 0 && (t202 == 0 && (t203 == 0 && (t204 == 0)))))))))) = false := by simpa using c6
          (try (have c6b1 : decide (t196 = 0 && (t197 == 2 && (t198 == 1 && (t199 == 12354 && (t200 == 0 && ((t201 == 0 && (t202 == 0 && (t203 == 0 && (t204 == 0)))))))))) = false := by simpa using c6))
          (try (have c6b2 : (t196 == 0 && (t197 == 2 && (t198 == 1 && (t199 == 12354 && (t200 == 0 && ((t201 == 0 && (t202 == 0 && (t203 == 0 && (t204 == 0)))))))))) = false := by simpa using c6))
          (try (have c6b3 : ¬ (t196 = 0 && (t197 == 2 && (t198 == 1 && (t199 == 12354 && (t200 == 0 && ((t201 == 0 && (t202 == 0 && (t203 == 0 && (t204 == 0)))))))))) := by simpa using c6))
          clear c6
          obtain rfl := Option.some.inj H
          go_enter Try.func29, Try.ntmps29
          go_wp2_with (first | ((with_reducible refine gate_callee (f := 30) rfl ?_); refine goesL_ (some 5) rfl rfl Try.func30 (by kernel_rfl) rfl #[.int .i64 94, .int .i64 94] rfl (by (try simp only [List.map_toArray, List.map_cons, List.map_nil]); first | done | rfl | (simp only [List.length_drop, List.length_take]; rfl)) ?_; (with_reducible refine (sjis_Pack.calls k 94 94 t190 t191 true _ A1.out).mono ?_); rintro e w' ⟨rfl, ⟨nd, rfl⟩⟩; refine ⟨_, rfl, ?_⟩) | ((with_reducible refine gate_dst (N := 19) rfl ?_); (try (refine gate_guard (by rfl) ?_; dsimp only)); refine Kd.R_lit (Kd.int .u8) _ 5 ?hg (N := 19) ?hd (xs := ([130, 160] : List Int)) (inner := [.int .u8 130, .int .u8 160]) (ok := fun _ => True) (okp := fun _ => True) ?hr ?hp (fun _ hk => hk) trivial (Below.refl _ _) (Nat.le_refl _) (by simp) ?_; (case hd => rfl); (case hg => rfl); (case hr => first | (go_simp; done) | (go_simp; rfl)); (case hp => exact (Reps.one (show Kd.M (Kd.int .u8) _ _ _ 130 [.int .u8 130] from rfl) (Reps.one (show Kd.M (Kd.int .u8) _ _ _ 160 [.int .u8 160] from rfl) (Reps.none _ _)))); intro v194 w13 ho14 hb hg_ hnew_; clear hg_ hnew_; (first | rw [← Ny193.out] at ho14 | (simp only [Int.reduceToNat] at ho14; rw [← Ny193.out] at ho14)); have n0_ := Aside0.mk (Kd.R_lower ho14 (below_size (by repeat (first | (with_reducible first | exact HB.out | apply below_alloc | apply pw_below_drewN | apply below_drew1) | exact HB.out)))); have n1_ := Aside0.mk (below_step (by repeat (first | (with_reducible first | exact HB.out | apply below_alloc | apply pw_below_drewN | apply below_drew1) | exact HB.out)) hb); clear HB; have HO195 := n0_; have HB := n1_; clear n0_ n1_; clear hb ho14; obtain ⟨Ao15, co15, eo15⟩ := Kd.R_slice HO195.out; subst eo15) | (go_at_call 25; (with_reducible refine (sjis_Get.calls k _ _ y193 t196 t197 t198 t199 t200 t201 t202 t203 t204 _ ?side1 ?side2 A5.out).mono ?_); (case side1 => repeat (first | exact (Kd.R_reads' HO195.out).2.2 | (with_reducible refine Kd.C_alloc ?_ _) | (with_reducible refine Kd.C_drewN ?_ _) | (with_reducible refine Kd.C_drew ?_))); (case side2 => exact (Kd.R_reads' HO195.out).2.1); rintro e w16 ⟨rfl, hb⟩; have n0_ := Aside0.mk (Kd.R_below (by (with_reducible repeat (first | apply Kd.R_alloc | apply Kd.R_drewN | apply Kd.R_drew)); exact HO195.out) hb); have n1_ := Aside0.mk (below_step (by repeat (first | (with_reducible first | exact HB.out | apply below_alloc | apply pw_below_drewN | apply below_drew1) | exact HB.out)) hb); clear HO195; clear HB; have HO195 := n0_; have HB := n1_; clear n0_ n1_; (try clear hb); (try clear hb2); (try clear hk); (try clear hi)))
          go_ret
          exact ⟨by first | rfl | (simp [errW_none, errW_some] <;> rfl) | (simp [*, errW_none, errW_some] <;> rfl), by repeat (first | (with_reducible first | exact HB.out | apply below_alloc | apply pw_below_drewN | apply below_drew1) | exact HB.out)⟩
      · replace c4 := Bool.eq_false_iff.mpr c4
        subst c4
        have H1 : (some false) = some r := by rw [if_neg (show ¬ (false = true) by decide)] at H; exact H
        clear H
        have H := H1
        clear H1
        obtain rfl := Option.some.inj H
        go_enter Try.func29, Try.ntmps29
        go_wp2_with (first | ((with_reducible refine gate_callee (f := 30) rfl ?_); refine goesL_ (some 5) rfl rfl Try.func30 (by kernel_rfl) rfl #[.int .i64 94, .int .i64 94] rfl (by (try simp only [List.map_toArray, List.map_cons, List.map_nil]); first | done | rfl | (simp only [List.length_drop, List.length_take]; rfl)) ?_; (with_reducible refine (sjis_Pack.calls k 94 94 t190 t191 false _ A1.out).mono ?_); rintro e w' ⟨rfl, ⟨nd, rfl⟩⟩; refine ⟨_, rfl, ?_⟩))
        go_ret
        exact ⟨by first | rfl | (simp [errW_none, errW_some] <;> rfl) | (simp [*, errW_none, errW_some] <;> rfl), by repeat (first | (with_reducible first | exact HB.out | apply below_alloc | apply pw_below_drewN | apply below_drew1) | exact HB.out)⟩
    · rw [if_neg c3] at H
      have c3b0 : (t191 == 252) = false := beq_eq_false_iff_ne.mpr c3
      have c3b1 : (t191 != 252) = true := bne_iff_ne.mpr c3
      obtain rfl := Option.some.inj H
      go_enter Try.func29, Try.ntmps29
      go_wp2_with (first | ((with_reducible refine gate_callee (f := 30) rfl ?_); refine goesL_ (some 5) rfl rfl Try.func30 (by kernel_rfl) rfl #[.int .i64 94, .int .i64 94] rfl (by (try simp only [List.map_toArray, List.map_cons, List.map_nil]); first | done | rfl | (simp only [List.length_drop, List.length_take]; rfl)) ?_; (with_reducible refine (sjis_Pack.calls k 94 94 t190 t191 t192 _ A1.out).mono ?_); rintro e w' ⟨rfl, ⟨nd, rfl⟩⟩; refine ⟨_, rfl, ?_⟩))
      go_ret
      exact ⟨by first | rfl | (simp [errW_none, errW_some] <;> rfl) | (simp [*, errW_none, errW_some] <;> rfl), by repeat (first | (with_reducible first | exact HB.out | apply below_alloc | apply pw_below_drewN | apply below_drew1) | exact HB.out)⟩
  · rw [if_neg c2] at H
    have c2b0 : (t190 == 239) = false := beq_eq_false_iff_ne.mpr c2
    have c2b1 : (t190 != 239) = true := bne_iff_ne.mpr c2
    obtain rfl := Option.some.inj H
    go_enter Try.func29, Try.ntmps29
    go_wp2_with (first | ((with_reducible refine gate_callee (f := 30) rfl ?_); refine goesL_ (some 5) rfl rfl Try.func30 (by kernel_rfl) rfl #[.int .i64 94, .int .i64 94] rfl (by (try simp only [List.map_toArray, List.map_cons, List.map_nil]); first | done | rfl | (simp only [List.length_drop, List.length_take]; rfl)) ?_; (with_reducible refine (sjis_Pack.calls k 94 94 t190 t191 t192 _ A1.out).mono ?_); rintro e w' ⟨rfl, ⟨nd, rfl⟩⟩; refine ⟨_, rfl, ?_⟩))
    go_ret
    exact ⟨by first | rfl | (simp [errW_none, errW_some] <;> rfl) | (simp [*, errW_none, errW_some] <;> rfl), by repeat (first | (with_reducible first | exact HB.out | apply below_alloc | apply pw_below_drewN | apply below_drew1) | exact HB.out)⟩

end Go.Proofs.Ytenmanionddamaa.Q
