/- Contracts of functions that the laws reach: each call answers what the plain function beside it answers. No conditions but those that each theorem states. (Written by a patched copy of the print, wip/gen/patch_print.py, over contracts of our own.) -/
import Derived.Test.YtenmanionddamaaQ0
import Derived.Test.YtenmanionddamaaQiso2022b
import Derived.Test.YtenmanionddamaaQiso2022c
import Derived.Test.YtenmanionddamaaQdragomanlaw21a
namespace Go.Proofs.Ytenmanionddamaa.Q
open Go.RowKit Go.Proofs.YtenmanionddamaaW.PrintWords Go.Proofs.YtenmanionddamaaW.PrintLast Go.Proofs.YtenmanionddamaaW.PrintMore
attribute [local go_sem] max2_int min2_int max_two min_two max_three min_three max_four min_four   -- for this text's walks alone
set_option linter.unusedVariables false
set_option linter.unusedSimpArgs false

/-! ### dragomanlaw21_Iso2022Cuts: function 14 -/
mutual
def dragomanlaw21_Iso2022Cuts.j0 : Nat → List Int → Int → Int → Option (Bool)
  | 0, _, _, _ => none
  | k + 1, x1, x2, x7 => dragomanlaw21_Iso2022Cuts.l0 k x1 x2 x7 (⟨#[]⟩ : ByteArray) 0 0 0 0 0
def dragomanlaw21_Iso2022Cuts.l0 : Nat → List Int → Int → Int → ByteArray → Int → Int → Int → Int → Int → Option (Bool)
  | 0, _, _, _, _, _, _, _, _, _ => none
  | k + 1, x1, x2, x7, x9, x10, x267000, x267001, x267002, x267003 => if x10 < (x1.length : Int) then (dragomanlaw21_Iso2022Cuts.j2 k x1 x2 x7 x9 x10 (decide (x10 < 100)) x267000 x267001 x267002 x267003) else (dragomanlaw21_Iso2022Cuts.j2 k x1 x2 x7 x9 x10 false x267000 x267001 x267002 x267003)
def dragomanlaw21_Iso2022Cuts.j2 : Nat → List Int → Int → Int → ByteArray → Int → Bool → Int → Int → Int → Int → Option (Bool)
  | 0, _, _, _, _, _, _, _, _, _, _ => none
  | k + 1, x1, x2, x7, x9, x10, x25, x267000, x267001, x267002, x267003 => if x25 = true then (if 0 ≤ x10 then (if x10 < (x1.length : Int) then ((iso2022_Set.f k x7 x267000 x267001 x267002 x267003 (rd x1 x10)).bind fun bt268 => (if bt268.1 = 0 then (if x9.size + bt268.2.1.size ≤ 9223372036854775807 then (dragomanlaw21_Iso2022Cuts.l0 k x1 x2 x7 (x9 ++ bt268.2.1) (wrap64 (x10 + 1)) bt268.2.2.1 bt268.2.2.2.1 bt268.2.2.2.2.1 bt268.2.2.2.2.2) else (none)) else (dragomanlaw21_Iso2022Cuts.l0 k x1 x2 x7 x9 (wrap64 (x10 + 1)) x267000 x267001 x267002 x267003))) else (none)) else (none)) else (if (IntKind.u64.wrap (wrap64 ((x9.size : Int) + 1))) = 0 then (none) else (if 0 ≤ (wrap64 (Int.tmod (IntKind.u64.wrap (x2)) (IntKind.u64.wrap (wrap64 ((x9.size : Int) + 1))))) then (if (wrap64 (Int.tmod (IntKind.u64.wrap (x2)) (IntKind.u64.wrap (wrap64 ((x9.size : Int) + 1))))) ≤ (x9.size : Int) then ((strbytes.f (x9.extract 0 ((wrap64 (Int.tmod (IntKind.u64.wrap (x2)) (IntKind.u64.wrap (wrap64 ((x9.size : Int) + 1))))) : Int).toNat)).bind fun t275 => (dragomanlaw21_Iso2022Cuts.l1 k x7 t275 0 0 0 0)) else (none)) else (none)))
def dragomanlaw21_Iso2022Cuts.l1 : Nat → Int → List Int → Int → Int → Int → Int → Option (Bool)
  | 0, _, _, _, _, _, _ => none
  | k + 1, x7, x12, x267000, x267001, x267002, x267003 => if (x12.length : Int) > 0 then ((iso2022_Get.f k x7 x267000 x267001 x267002 x267003 x12).bind fun bt278 => (if bt278.1 = 1 then (some (decide ((x12.length : Int) < 4))) else (if bt278.1 = 0 then (if bt278.2.1 < 1 then (some false) else (if bt278.2.1 > (x12.length : Int) then (some false) else (if 0 ≤ bt278.2.1 then (if bt278.2.1 ≤ (x12.length : Int) then (dragomanlaw21_Iso2022Cuts.l1 k x7 (x12.drop (bt278.2.1 : Int).toNat) bt278.2.2.2.2.2.1 bt278.2.2.2.2.2.2.1 bt278.2.2.2.2.2.2.2.1 bt278.2.2.2.2.2.2.2.2) else (none)) else (none)))) else (some false)))) else (some true)
end
def dragomanlaw21_Iso2022Cuts.f (k : Nat) (a0 : Bool) (l1 : List Int) (a2 : Int) : Option (Bool) := (dragomanlaw21_works.f k).bind fun t265 => (if t265 = true then (if a0 = true then (dragomanlaw21_Iso2022Cuts.j0 k l1 a2 88) else (dragomanlaw21_Iso2022Cuts.j0 k l1 a2 83)) else (some false))
theorem dragomanlaw21_Iso2022Cuts.mono_l : ∀ k, (∀ y0 y1 y2, LeO (dragomanlaw21_Iso2022Cuts.j0 k y0 y1 y2) (dragomanlaw21_Iso2022Cuts.j0 (k + 1) y0 y1 y2)) ∧ (∀ y0 y1 y2 y3 y4 y5 y6 y7 y8, LeO (dragomanlaw21_Iso2022Cuts.l0 k y0 y1 y2 y3 y4 y5 y6 y7 y8) (dragomanlaw21_Iso2022Cuts.l0 (k + 1) y0 y1 y2 y3 y4 y5 y6 y7 y8)) ∧ (∀ y0 y1 y2 y3 y4 y5 y6 y7 y8 y9, LeO (dragomanlaw21_Iso2022Cuts.j2 k y0 y1 y2 y3 y4 y5 y6 y7 y8 y9) (dragomanlaw21_Iso2022Cuts.j2 (k + 1) y0 y1 y2 y3 y4 y5 y6 y7 y8 y9)) ∧ (∀ y0 y1 y2 y3 y4 y5, LeO (dragomanlaw21_Iso2022Cuts.l1 k y0 y1 y2 y3 y4 y5) (dragomanlaw21_Iso2022Cuts.l1 (k + 1) y0 y1 y2 y3 y4 y5))
  | 0 => ⟨fun _ _ _ r h => by simp [dragomanlaw21_Iso2022Cuts.j0] at h, fun _ _ _ _ _ _ _ _ _ r h => by simp [dragomanlaw21_Iso2022Cuts.l0] at h, fun _ _ _ _ _ _ _ _ _ _ r h => by simp [dragomanlaw21_Iso2022Cuts.j2] at h, fun _ _ _ _ _ _ r h => by simp [dragomanlaw21_Iso2022Cuts.l1] at h⟩
  | k + 1 => by
    obtain ⟨ih0, ih1, ih2, ih3⟩ := dragomanlaw21_Iso2022Cuts.mono_l k
    refine ⟨?_, ?_, ?_, ?_⟩
    · intro y0 y1 y2
      unfold dragomanlaw21_Iso2022Cuts.j0
      repeat' first
      | (with_reducible exact ih0 _ _ _)
      | (with_reducible exact ih1 _ _ _ _ _ _ _ _ _)
      | (with_reducible exact ih2 _ _ _ _ _ _ _ _ _ _)
      | (with_reducible exact ih3 _ _ _ _ _ _)
      | (with_reducible exact dragomanlaw21_works.mono _)
      | (with_reducible exact iso2022_Get.mono _ _ _ _ _ _ _)
      | (with_reducible exact iso2022_Set.mono _ _ _ _ _ _ _)
      | (with_reducible exact LeO.refl _)
      | (with_reducible exact LeO.none _)
      | (with_reducible refine LeO.ite ?_ ?_)
      | (with_reducible refine LeO.bind ?_ (fun _ => ?_))
      | exact ih0 _ _ _
      | exact ih1 _ _ _ _ _ _ _ _ _
      | exact ih2 _ _ _ _ _ _ _ _ _ _
      | exact ih3 _ _ _ _ _ _
      | exact dragomanlaw21_works.mono _
      | exact iso2022_Get.mono _ _ _ _ _ _ _
      | exact iso2022_Set.mono _ _ _ _ _ _ _
      | exact LeO.none _
      | refine LeO.ite ?_ ?_
      | refine LeO.bind ?_ (fun _ => ?_)
    · intro y0 y1 y2 y3 y4 y5 y6 y7 y8
      unfold dragomanlaw21_Iso2022Cuts.l0
      repeat' first
      | (with_reducible exact ih0 _ _ _)
      | (with_reducible exact ih1 _ _ _ _ _ _ _ _ _)
      | (with_reducible exact ih2 _ _ _ _ _ _ _ _ _ _)
      | (with_reducible exact ih3 _ _ _ _ _ _)
      | (with_reducible exact dragomanlaw21_works.mono _)
      | (with_reducible exact iso2022_Get.mono _ _ _ _ _ _ _)
      | (with_reducible exact iso2022_Set.mono _ _ _ _ _ _ _)
      | (with_reducible exact LeO.refl _)
      | (with_reducible exact LeO.none _)
      | (with_reducible refine LeO.ite ?_ ?_)
      | (with_reducible refine LeO.bind ?_ (fun _ => ?_))
      | exact ih0 _ _ _
      | exact ih1 _ _ _ _ _ _ _ _ _
      | exact ih2 _ _ _ _ _ _ _ _ _ _
      | exact ih3 _ _ _ _ _ _
      | exact dragomanlaw21_works.mono _
      | exact iso2022_Get.mono _ _ _ _ _ _ _
      | exact iso2022_Set.mono _ _ _ _ _ _ _
      | exact LeO.none _
      | refine LeO.ite ?_ ?_
      | refine LeO.bind ?_ (fun _ => ?_)
    · intro y0 y1 y2 y3 y4 y5 y6 y7 y8 y9
      unfold dragomanlaw21_Iso2022Cuts.j2
      repeat' first
      | (with_reducible exact ih0 _ _ _)
      | (with_reducible exact ih1 _ _ _ _ _ _ _ _ _)
      | (with_reducible exact ih2 _ _ _ _ _ _ _ _ _ _)
      | (with_reducible exact ih3 _ _ _ _ _ _)
      | (with_reducible exact dragomanlaw21_works.mono _)
      | (with_reducible exact iso2022_Get.mono _ _ _ _ _ _ _)
      | (with_reducible exact iso2022_Set.mono _ _ _ _ _ _ _)
      | (with_reducible exact LeO.refl _)
      | (with_reducible exact LeO.none _)
      | (with_reducible refine LeO.ite ?_ ?_)
      | (with_reducible refine LeO.bind ?_ (fun _ => ?_))
      | exact ih0 _ _ _
      | exact ih1 _ _ _ _ _ _ _ _ _
      | exact ih2 _ _ _ _ _ _ _ _ _ _
      | exact ih3 _ _ _ _ _ _
      | exact dragomanlaw21_works.mono _
      | exact iso2022_Get.mono _ _ _ _ _ _ _
      | exact iso2022_Set.mono _ _ _ _ _ _ _
      | exact LeO.none _
      | refine LeO.ite ?_ ?_
      | refine LeO.bind ?_ (fun _ => ?_)
    · intro y0 y1 y2 y3 y4 y5
      unfold dragomanlaw21_Iso2022Cuts.l1
      repeat' first
      | (with_reducible exact ih0 _ _ _)
      | (with_reducible exact ih1 _ _ _ _ _ _ _ _ _)
      | (with_reducible exact ih2 _ _ _ _ _ _ _ _ _ _)
      | (with_reducible exact ih3 _ _ _ _ _ _)
      | (with_reducible exact dragomanlaw21_works.mono _)
      | (with_reducible exact iso2022_Get.mono _ _ _ _ _ _ _)
      | (with_reducible exact iso2022_Set.mono _ _ _ _ _ _ _)
      | (with_reducible exact LeO.refl _)
      | (with_reducible exact LeO.none _)
      | (with_reducible refine LeO.ite ?_ ?_)
      | (with_reducible refine LeO.bind ?_ (fun _ => ?_))
      | exact ih0 _ _ _
      | exact ih1 _ _ _ _ _ _ _ _ _
      | exact ih2 _ _ _ _ _ _ _ _ _ _
      | exact ih3 _ _ _ _ _ _
      | exact dragomanlaw21_works.mono _
      | exact iso2022_Get.mono _ _ _ _ _ _ _
      | exact iso2022_Set.mono _ _ _ _ _ _ _
      | exact LeO.none _
      | refine LeO.ite ?_ ?_
      | refine LeO.bind ?_ (fun _ => ?_)
theorem dragomanlaw21_Iso2022Cuts.mono : ∀ a0 a1 a2 k, LeO (dragomanlaw21_Iso2022Cuts.f k a0 a1 a2) (dragomanlaw21_Iso2022Cuts.f (k + 1) a0 a1 a2) := by
  intro a0 a1 a2 k
  obtain ⟨ih0, ih1, ih2, ih3⟩ := dragomanlaw21_Iso2022Cuts.mono_l k
  unfold dragomanlaw21_Iso2022Cuts.f
  repeat' first
      | (with_reducible exact ih0 _ _ _)
      | (with_reducible exact ih1 _ _ _ _ _ _ _ _ _)
      | (with_reducible exact ih2 _ _ _ _ _ _ _ _ _ _)
      | (with_reducible exact ih3 _ _ _ _ _ _)
      | (with_reducible exact dragomanlaw21_works.mono _)
      | (with_reducible exact iso2022_Get.mono _ _ _ _ _ _ _)
      | (with_reducible exact iso2022_Set.mono _ _ _ _ _ _ _)
      | (with_reducible exact LeO.refl _)
      | (with_reducible exact LeO.none _)
      | (with_reducible refine LeO.ite ?_ ?_)
      | (with_reducible refine LeO.bind ?_ (fun _ => ?_))
      | exact ih0 _ _ _
      | exact ih1 _ _ _ _ _ _ _ _ _
      | exact ih2 _ _ _ _ _ _ _ _ _ _
      | exact ih3 _ _ _ _ _ _
      | exact dragomanlaw21_works.mono _
      | exact iso2022_Get.mono _ _ _ _ _ _ _
      | exact iso2022_Set.mono _ _ _ _ _ _ _
      | exact LeO.none _
      | refine LeO.ite ?_ ?_
      | refine LeO.bind ?_ (fun _ => ?_)
def dragomanlaw21_Iso2022Cuts.T11 : Bool × List (List Nat × List Nat) := (true, [([], []), ([], []), ([], []), ([], []), ([2, 3], [2, 3]), ([4], [4]), ([0, 1, 5], [0, 1, 5]), ([], []), ([7, 6, 6, 0, 1, 2, 3, 4, 5, 6, 7], [6, 7])])
def dragomanlaw21_Iso2022Cuts.B11 : List Nat := [0, 0, 0, 0, 12, 28, 63, 0, 255]
theorem dragomanlaw21_Iso2022Cuts.tab11 : rtab .any (opsOf Try.f14 11) = dragomanlaw21_Iso2022Cuts.T11 := by kernel_rfl
theorem dragomanlaw21_Iso2022Cuts.bits11 : waitsOk dragomanlaw21_Iso2022Cuts.T11.2 dragomanlaw21_Iso2022Cuts.B11 = true := by kernel_rfl
def dragomanlaw21_Iso2022Cuts.T13 : Bool × List (List Nat × List Nat) := (true, [([], []), ([], []), ([1], [1]), ([0, 2], [0, 2]), ([], []), ([4], [4]), ([3, 0, 1, 2, 3], [0, 3]), ([5, 6, 0, 1, 2, 3, 4, 5, 6], [5])])
def dragomanlaw21_Iso2022Cuts.B13 : List Nat := [0, 0, 2, 7, 0, 16, 15, 127]
theorem dragomanlaw21_Iso2022Cuts.tab13 : rtab .any (opsOf Try.f14 13) = dragomanlaw21_Iso2022Cuts.T13 := by kernel_rfl
theorem dragomanlaw21_Iso2022Cuts.bits13 : waitsOk dragomanlaw21_Iso2022Cuts.T13.2 dragomanlaw21_Iso2022Cuts.B13 = true := by kernel_rfl
def dragomanlaw21_Iso2022Cuts.T22 : Bool × List (List Nat × List Nat) := (true, [([], []), ([], []), ([1], [1]), ([0, 2], [0, 2]), ([], []), ([4], [4]), ([3, 0, 1, 2, 3], [0, 3]), ([5, 6, 0, 1, 2, 3, 4, 5, 6], [5])])
def dragomanlaw21_Iso2022Cuts.B22 : List Nat := [0, 0, 2, 7, 0, 16, 15, 127]
theorem dragomanlaw21_Iso2022Cuts.tab22 : rtab .any (opsOf Try.f14 22) = dragomanlaw21_Iso2022Cuts.T22 := by kernel_rfl
theorem dragomanlaw21_Iso2022Cuts.bits22 : waitsOk dragomanlaw21_Iso2022Cuts.T22.2 dragomanlaw21_Iso2022Cuts.B22 = true := by kernel_rfl
set_option maxHeartbeats 8000000 in
set_option maxRecDepth 100000 in
theorem dragomanlaw21_Iso2022Cuts.calls (k : Nat) (a0 : Bool) (A1 : Option Addr) (c1 : Nat) (l1 : List Int) (a2 : Int) (r : Bool) (w : World) (hr1 : Kd.C (Kd.int .i32) w A1 l1.length l1) (hc1 : l1.length ≤ c1) (h : dragomanlaw21_Iso2022Cuts.f k a0 l1 a2 = some r) :
    Calls Try.prog 14 #[.bool a0, .slice A1 l1.length c1, .int .i64 a2] w fun e w' => e = .returned (.bool r) ∧ Below w.heap.size w w' := by
  have hu25 := Try.underlying25
  have hu27 := Try.underlying27
  have hu36 := Try.underlying36
  have HR1 := Aside0.mk hr1
  have HC1 := Aside0.mk hc1
  clear hr1 hc1
  have HB := Aside0.mk (Below.refl w.heap.size w)
  have H : ((dragomanlaw21_works.f k).bind fun t265 => (if t265 = true then (if a0 = true then (dragomanlaw21_Iso2022Cuts.j0 k l1 a2 88) else (dragomanlaw21_Iso2022Cuts.j0 k l1 a2 83)) else (some false))) = some r := h
  clear h
  replace H := Option.bind_eq_some_iff.mp H
  obtain ⟨t265, A40, H⟩ := H
  replace H : (if t265 = true then (if a0 = true then (dragomanlaw21_Iso2022Cuts.j0 k l1 a2 88) else (dragomanlaw21_Iso2022Cuts.j0 k l1 a2 83)) else (some false)) = some r := H
  have A4 := Aside0.mk A40
  clear A40
  by_cases c5 : t265 = true
  · subst c5
    have H1 : (if a0 = true then (dragomanlaw21_Iso2022Cuts.j0 k l1 a2 88) else (dragomanlaw21_Iso2022Cuts.j0 k l1 a2 83)) = some r := by rw [if_pos rfl] at H; exact H
    clear H
    have H := H1
    clear H1
    have HC6 := Aside0.mk H
    clear H
    go_enter Try.func14, Try.ntmps14
    go_upto_if 16 with (first | ((with_reducible refine gate_callee (f := 40) rfl ?_); refine goesL_ (some 14) rfl rfl Try.func40 (by kernel_rfl) rfl #[] rfl (by (try simp only [List.map_toArray, List.map_cons, List.map_nil]); first | done | rfl | (simp only [List.length_drop, List.length_take]; rfl)) ?_; (with_reducible refine (dragomanlaw21_works.calls k  true _ A4.out).mono ?_); rintro e w7 ⟨rfl, hb⟩; refine ⟨_, rfl, ?_⟩; have n0_ := Aside0.mk (below_step (by repeat (first | (with_reducible first | exact HB.out | apply below_alloc | apply pw_below_drewN | apply below_drew1) | exact HB.out)) hb); clear HB; have HB := n0_; clear n0_; (try clear hb); (try clear hb2); (try clear hk); (try clear hi)))
    (try simp only [Act.put, List.setIfInBounds_toArray, List.set_cons_zero, List.set_cons_succ])
    go_cut [7] (fun v7 wc => ∃ (kq : Nat) (x7_5 : Int), v7 = .int .i64 x7_5 ∧ Aside0 (dragomanlaw21_Iso2022Cuts.j0 kq l1 a2 x7_5 = some r) ∧ Aside0 (kq ≤ k) ∧ Aside0 (Below w.heap.size w wc))
    case first =>
      have H := HC6.out
      clear HC6
      by_cases c8 : a0 = true
      · subst c8
        have H1 : (dragomanlaw21_Iso2022Cuts.j0 k l1 a2 88) = some r := by rw [if_pos rfl] at H; exact H
        clear H
        have H := H1
        clear H1
        have H' := Aside0.mk H
        clear H
        go_wp2
        go_meet
        case rel => exact ⟨_, (88), (by first | rfl | (simp; done) | (simp [*]; done)), H', ⟨by first | omega | exact Nat.le_refl _⟩, ⟨by repeat (first | (with_reducible first | exact HB.out | apply below_alloc | apply pw_below_drewN | apply below_drew1) | exact HB.out)⟩⟩
      · replace c8 := Bool.eq_false_iff.mpr c8
        subst c8
        have H1 : (dragomanlaw21_Iso2022Cuts.j0 k l1 a2 83) = some r := by rw [if_neg (show ¬ (false = true) by decide)] at H; exact H
        clear H
        have H := H1
        clear H1
        have H' := Aside0.mk H
        clear H
        go_wp2
        go_meet
        case rel => exact ⟨_, (83), (by first | rfl | (simp; done) | (simp [*]; done)), H', ⟨by first | omega | exact Nat.le_refl _⟩, ⟨by repeat (first | (with_reducible first | exact HB.out | apply below_alloc | apply pw_below_drewN | apply below_drew1) | exact HB.out)⟩⟩
    case rest =>
      clear HC6
      try clear c1
      try clear p2
      try clear c4
      try clear c5
      try clear c8
      obtain ⟨kq, x7_5, rfl, HA, HJ5, HB⟩ := hcut
      cases kq with
      | zero => exact absurd HA.out (by simp [dragomanlaw21_Iso2022Cuts.j0])
      | succ kj5 =>
        have H := HA.out
        clear HA
        simp only [dragomanlaw21_Iso2022Cuts.j0] at H
        have H' := Aside0.mk H
        clear H
        go_wp2_with (first | ((with_reducible refine gate_dst (N := 8) rfl ?_); (try (refine gate_guard (by rfl) ?_; dsimp only)); refine box_event ?hg (N := 8) ?hd (cs := #[.int .i64 0, .int .i64 0, .int .u32 0, .int .i32 0]) (t := 25) ?hr ?_; (case hd => rfl); (case hg => rfl); (case hr => first | (go_simp; done) | (go_simp; rfl)); intro gb266 hg w9 hbox hb; have n0_ := Aside0.mk (below_step (by repeat (first | (with_reducible first | exact HB.out | apply below_alloc | apply pw_below_drewN | apply below_drew1) | exact HB.out)) hb); have n1_ := Aside0.mk (hbox); have n2_ := Aside0.mk ((by rw [hg]; exact (below_size (by repeat (first | (with_reducible first | exact HB.out | apply below_alloc | apply pw_below_drewN | apply below_drew1) | exact HB.out))) : w.heap.size ≤ gb266)); have n3_ := Aside0.mk ((by rw [hg]; exact (below_size (by repeat (first | (with_reducible first | exact HB.out | apply below_alloc | apply pw_below_drewN | apply below_drew1) | exact HB.out))) : w.heap.size ≤ gb266)); clear HB; have HB := n0_; have BK266 := n1_; have GW266 := n2_; have GE266 := n3_; clear n0_ n1_ n2_ n3_; clear hb hbox hg; have hcz10_0 : w9.cell? ⟨gb266, 0, none⟩ = some (.int .i64 0) := (blk_cell BK266.out 0).trans rfl; have hcz10_1 : w9.cell? ⟨gb266, 1, none⟩ = some (.int .i64 0) := (blk_cell BK266.out 1).trans rfl; have hcz10_2 : w9.cell? ⟨gb266, 2, none⟩ = some (.int .u32 0) := (blk_cell BK266.out 2).trans rfl; have hcz10_3 : w9.cell? ⟨gb266, 3, none⟩ = some (.int .i32 0) := (blk_cell BK266.out 3).trans rfl; have hfz10_0 := blk_frozen BK266.out 0; have hfz10_1 := blk_frozen BK266.out 1; have hfz10_2 := blk_frozen BK266.out 2; have hfz10_3 := blk_frozen BK266.out 3))
        go_loopg [9, 10] kj5 (fun kq v9 v10 w' => ∃ (x9_2 : ByteArray) (x10_2 : Int) (x267000_2 : Int) (x267001_2 : Int) (x267002_2 : Int) (x267003_2 : Int), v9 = .string x9_2 ∧ v10 = .int .i64 x10_2 ∧ Aside0 (dragomanlaw21_Iso2022Cuts.l0 kq l1 a2 x7_5 x9_2 x10_2 x267000_2 x267001_2 x267002_2 x267003_2 = some r) ∧ Aside0 (kq ≤ kj5) ∧ Aside0 (w'.heap[gb266]? = some (.cells #[.int .i64 x267000_2, .int .i64 x267001_2, .int .u32 x267002_2, .int .i32 x267003_2] 25 (0, 0))) ∧ Aside0 (Below w.heap.size w w'))
        case atStart => exact ⟨((⟨#[]⟩ : ByteArray)), (0), (0), (0), (0), (0), (by first | rfl | (simp; done) | (simp [*]; done)), (by first | rfl | (simp; done) | (simp [*]; done)), H', ⟨Nat.le_refl _⟩, ⟨by (with_reducible repeat (first | refine blk_drewN ?_ _ | refine blk_drew ?_ | refine blk_alloc ?_ _)); refine blk_put (cs := #[.int .i64 0, .int .i64 0, .int .u32 0, .int .i32 0]) ?_ 3 _ rfl; (with_reducible repeat (first | refine blk_drewN ?_ _ | refine blk_drew ?_ | refine blk_alloc ?_ _)); refine blk_put (cs := #[.int .i64 0, .int .i64 0, .int .u32 0, .int .i32 0]) ?_ 2 _ rfl; (with_reducible repeat (first | refine blk_drewN ?_ _ | refine blk_drew ?_ | refine blk_alloc ?_ _)); refine blk_put (cs := #[.int .i64 0, .int .i64 0, .int .u32 0, .int .i32 0]) ?_ 1 _ rfl; (with_reducible repeat (first | refine blk_drewN ?_ _ | refine blk_drew ?_ | refine blk_alloc ?_ _)); refine blk_put (cs := #[.int .i64 0, .int .i64 0, .int .u32 0, .int .i32 0]) ?_ 0 _ rfl; (with_reducible repeat (first | refine blk_drewN ?_ _ | refine blk_drew ?_ | refine blk_alloc ?_ _)); exact BK266.out⟩, ⟨by repeat (first | (with_reducible first | exact HB.out | apply below_alloc | apply pw_below_drewN | apply below_drew1 | refine below_set ?_ GE266.out) | exact HB.out)⟩⟩
        case round =>
          clear H'
          try clear c1
          try clear p2
          try clear c4
          try clear c5
          try clear c8
          try clear hcz10_0
          try clear hcz10_1
          try clear hcz10_2
          try clear hcz10_3
          try clear hfz10_0
          try clear hfz10_1
          try clear hfz10_2
          try clear hfz10_3
          try clear p2
          obtain ⟨x9_2, x10_2, x267000_2, x267001_2, x267002_2, x267003_2, rfl, rfl, HA, HK2, BK266, HB⟩ := hrel
          cases gk with
          | zero => exact absurd HA.out (by simp [dragomanlaw21_Iso2022Cuts.l0])
          | succ k2 =>
            have H := HA.out
            clear HA
            simp only [dragomanlaw21_Iso2022Cuts.l0] at H
            have HC11 := Aside0.mk H
            clear H
            go_upto_region 9 with (fail)
            go_cut [25] (fun v25 wc => ∃ (kq : Nat) (x25_10 : Bool), v25 = .bool x25_10 ∧ Aside0 (dragomanlaw21_Iso2022Cuts.j2 kq l1 a2 x7_5 x9_2 x10_2 x25_10 x267000_2 x267001_2 x267002_2 x267003_2 = some r) ∧ Aside0 (kq ≤ k2) ∧ Aside0 (wc.heap[gb266]? = some (.cells #[.int .i64 x267000_2, .int .i64 x267001_2, .int .u32 x267002_2, .int .i32 x267003_2] 25 (0, 0))) ∧ Aside0 (Below w.heap.size w wc))
            case first =>
              have H := HC11.out
              clear HC11
              by_cases c12 : x10_2 < (l1.length : Int)
              · rw [if_pos c12] at H
                have c12b0 : decide (x10_2 < (l1.length : Int)) = true := decide_eq_true c12
                clear c12
                (first | rw [c12b0] | (simp only [i64_w, i32_w]; rw [c12b0]) | skip)
                have H' := Aside0.mk H
                clear H
                go_wp2
                go_meet
                case rel => exact ⟨_, (decide (x10_2 < 100)), (by first | rfl | (simp; done) | (simp [*]; done)), H', ⟨by have := HJ5.out; have := HK2.out; first | omega | exact Nat.le_refl _⟩, ⟨by (with_reducible repeat (first | refine blk_drewN ?_ _ | refine blk_drew ?_ | refine blk_alloc ?_ _)); exact BK266.out⟩, ⟨by repeat (first | (with_reducible first | exact HB.out | apply below_alloc | apply pw_below_drewN | apply below_drew1 | refine below_set ?_ GE266.out) | exact HB.out)⟩⟩
              · rw [if_neg c12] at H
                have c12b0 : decide (x10_2 < (l1.length : Int)) = false := decide_eq_false c12
                clear c12
                (first | rw [c12b0] | (simp only [i64_w, i32_w]; rw [c12b0]) | skip)
                have H' := Aside0.mk H
                clear H
                go_wp2
                go_meet
                case rel => exact ⟨_, (false), (by first | rfl | (simp; done) | (simp [*]; done)), H', ⟨by have := HJ5.out; have := HK2.out; first | omega | exact Nat.le_refl _⟩, ⟨by (with_reducible repeat (first | refine blk_drewN ?_ _ | refine blk_drew ?_ | refine blk_alloc ?_ _)); exact BK266.out⟩, ⟨by repeat (first | (with_reducible first | exact HB.out | apply below_alloc | apply pw_below_drewN | apply below_drew1 | refine below_set ?_ GE266.out) | exact HB.out)⟩⟩
            case rest =>
              clear HC11
              try clear c1
              try clear p2
              try clear c4
              try clear c5
              try clear c8
              try clear c12
              try clear c12b0
              try clear hcz10_0
              try clear hcz10_1
              try clear hcz10_2
              try clear hcz10_3
              try clear hfz10_0
              try clear hfz10_1
              try clear hfz10_2
              try clear hfz10_3
              try clear p2
              obtain ⟨kq, x25_10, rfl, HA, HJ10, BK266, HB⟩ := hcut
              cases kq with
              | zero => exact absurd HA.out (by simp [dragomanlaw21_Iso2022Cuts.j2])
              | succ kj10 =>
                have H := HA.out
                clear HA
                simp only [dragomanlaw21_Iso2022Cuts.j2] at H
                by_cases c13 : x25_10 = true
                · subst c13
                  have H1 : (if 0 ≤ x10_2 then (if x10_2 < (l1.length : Int) then ((iso2022_Set.f kj10 x7_5 x267000_2 x267001_2 x267002_2 x267003_2 (rd l1 x10_2)).bind fun bt268 => (if bt268.1 = 0 then (if x9_2.size + bt268.2.1.size ≤ 9223372036854775807 then (dragomanlaw21_Iso2022Cuts.l0 kj10 l1 a2 x7_5 (x9_2 ++ bt268.2.1) (wrap64 (x10_2 + 1)) bt268.2.2.1 bt268.2.2.2.1 bt268.2.2.2.2.1 bt268.2.2.2.2.2) else (none)) else (dragomanlaw21_Iso2022Cuts.l0 kj10 l1 a2 x7_5 x9_2 (wrap64 (x10_2 + 1)) x267000_2 x267001_2 x267002_2 x267003_2))) else (none)) else (none)) = some r := by rw [if_pos rfl] at H; exact H
                  clear H
                  have H := H1
                  clear H1
                  by_cases c14 : 0 ≤ x10_2
                  · rw [if_pos c14] at H
                    have c14b0 : decide (0 ≤ x10_2) = true := decide_eq_true c14
                    clear c14
                    by_cases c15 : x10_2 < (l1.length : Int)
                    · rw [if_pos c15] at H
                      have c15b0 : decide (x10_2 < (l1.length : Int)) = true := decide_eq_true c15
                      clear c15
                      replace H := Option.bind_eq_some_iff.mp H
                      obtain ⟨⟨t268, t269, t270, t271, t272, t273⟩, A160, H⟩ := H
                      replace H : (if t268 = 0 then (if x9_2.size + t269.size ≤ 9223372036854775807 then (dragomanlaw21_Iso2022Cuts.l0 kj10 l1 a2 x7_5 (x9_2 ++ t269) (wrap64 (x10_2 + 1)) t270 t271 t272 t273) else (none)) else (dragomanlaw21_Iso2022Cuts.l0 kj10 l1 a2 x7_5 x9_2 (wrap64 (x10_2 + 1)) x267000_2 x267001_2 x267002_2 x267003_2)) = some r := H
                      have A16 := Aside0.mk A160
                      clear A160
                      by_cases c17 : t268 = 0
                      · rw [if_pos c17] at H
                        have c17b0 : (t268 == 0) = true := beq_iff_eq.mpr c17
                        have c17b1 : (t268 != 0) = false := bne_eq_false_iff_eq.mpr c17
                        clear c17
                        by_cases c18 : x9_2.size + t269.size ≤ 9223372036854775807
                        · rw [if_pos c18] at H
                          have c18b0 := eq_true c18
                          have c18b1 : decide (x9_2.size + t269.size ≤ 9223372036854775807) = true := decide_eq_true c18
                          try have c18b2 : (9223372036854775807 < x9_2.size + t269.size) = False := eq_false (Nat.not_lt.2 c18)
                          have H' := Aside0.mk H
                          clear H
                          try go_wp2
                          have n0_ := Aside0.mk (blk_drew BK266.out)
                          have n1_ := Aside0.mk (below_drew1 HB.out)
                          clear BK266
                          clear HB
                          have BK266 := n0_
                          have HB := n1_
                          clear n0_ n1_
                          have p267 : 0 ≤ (x10_2 : Int) := of_decide_eq_true (by first | (with_reducible assumption) | assumption)
                          have q267 : x10_2 < (l1.length : Int) := of_decide_eq_true (by first | (with_reducible assumption) | assumption)
                          obtain ⟨ad267, e267, hx267_0⟩ := Kd.at_int HR1.out x10_2 p267 q267
                          have hw267_0 := hx267_0
                          cases e267
                          replace hx267_0 := (HB.out.cell (World.block_lt_of_cell? w _ hx267_0)).trans hx267_0
                          replace p267 := eq_true p267
                          replace q267 := eq_true q267
                          refine start_ (n := 9) (S := fun w' => w'.cell? ⟨gb266, 0, none⟩ = some (.int .i64 x267000_2) ∧ w'.cell? ⟨gb266, 1, none⟩ = some (.int .i64 x267001_2) ∧ w'.cell? ⟨gb266, 2, none⟩ = some (.int .u32 x267002_2) ∧ w'.cell? ⟨gb266, 3, none⟩ = some (.int .i32 x267003_2) ∧ w'.cell? (ad267.add (x10_2).toNat) = some (.int .i32 (rd l1 x10_2))) (ds := []) #[false, false, false, false, false, false, false, false, false] (by kernel_rfl) rfl rfl ⟨(blk_cell BK266.out 0).trans rfl, (blk_cell BK266.out 1).trans rfl, (blk_cell BK266.out 2).trans rfl, (blk_cell BK266.out 3).trans rfl, ((HB.out.cell (World.block_lt_of_cell? w _ hw267_0)).trans hw267_0)⟩ (fun hHeld => ?_); refine with_tabW dragomanlaw21_Iso2022Cuts.tab11 dragomanlaw21_Iso2022Cuts.bits11 (fun HT_ HW_ => ?_)
                          generalize wc.drew = w19 at BK266 HB hx267_0 hHeld ⊢
                          refine pure_ (i := 0) (N := some 28) (v := ?_) (a' := ?_) #[true, false, false, false, false, false, false, false, false] rfl rfl (any_of HT_.out (by kernel_rfl)) (fun _ _ _ h => h) (Or.inl ⟨by rfl, ?_⟩) ?_ ?_
                          rotate_left
                          · intro w'
                            go_simp
                            with_reducible rfl
                          rotate_left
                          · simp only [Act.put, List.setIfInBounds_toArray, List.set_cons_zero, List.set_cons_succ, i64_w, i32_w]
                            rfl
                          refine pure_ (i := 2) (N := some 30) (v := ?_) (a' := ?_) #[true, false, true, false, false, false, false, false, false] rfl rfl (any_of HT_.out (by kernel_rfl)) (fun _ _ _ h => h) (Or.inl ⟨by rfl, ?_⟩) ?_ ?_
                          rotate_left
                          · intro w'
                            go_simp
                            with_reducible rfl
                          rotate_left
                          · simp only [Act.put, List.setIfInBounds_toArray, List.set_cons_zero, List.set_cons_succ, i64_w, i32_w]
                            rfl
                          refine pure_ (i := 3) (N := some 31) (v := ?_) (a' := ?_) #[true, false, true, true, false, false, false, false, false] rfl rfl (any_of HT_.out (by kernel_rfl)) (fun _ _ _ h => h) (Or.inl ⟨by rfl, ?_⟩) ?_ ?_
                          rotate_left
                          · intro w'
                            go_simp
                            with_reducible rfl
                          rotate_left
                          · simp only [Act.put, List.setIfInBounds_toArray, List.set_cons_zero, List.set_cons_succ, i64_w, i32_w]
                            rfl
                          refine pure_ (i := 4) (N := some 32) (v := ?_) (a' := ?_) #[true, false, true, true, true, false, false, false, false] rfl rfl (any_of HT_.out (by kernel_rfl)) (fun _ _ _ h => h) (Or.inl ⟨by rfl, ?_⟩) ?_ ?_
                          rotate_left
                          · intro w'
                            go_simp
                            with_reducible rfl
                          rotate_left
                          · simp only [Act.put, List.setIfInBounds_toArray, List.set_cons_zero, List.set_cons_succ, i64_w, i32_w]
                            rfl
                          refine take_ (i := 1) (N := some 29) (v := ?_) (a' := ?_) #[true, true, true, true, true, false, false, false, false] rfl rfl (take_ofW HT_.out HW_.out (by kernel_rfl)) (fun _ _ _ h => h) (Or.inl ⟨by rfl, ?_⟩) hHeld ?_ ?_
                          rotate_left
                          · rintro w' ⟨s0, s1, s2, s3, s4⟩
                            go_simp
                            with_reducible rfl
                          rotate_left
                          · simp only [Act.put, List.setIfInBounds_toArray, List.set_cons_zero, List.set_cons_succ, i64_w, i32_w]
                            rfl
                          refine take_ (i := 5) (N := some 33) (v := ?_) (a' := ?_) #[true, true, true, true, true, true, false, false, false] rfl rfl (take_ofW HT_.out HW_.out (by kernel_rfl)) (fun _ _ _ h => h) (Or.inl ⟨by rfl, ?_⟩) hHeld ?_ ?_
                          rotate_left
                          · rintro w' ⟨s0, s1, s2, s3, s4⟩
                            go_simp
                            with_reducible rfl
                          rotate_left
                          · simp only [Act.put, List.setIfInBounds_toArray, List.set_cons_zero, List.set_cons_succ, i64_w, i32_w]
                            rfl
                          refine join_ (σ := Nat) 1 #[true, true, true, true, true, true, true, true, false] (fun s_ => [(34, .agg #[.int .i64 t268, .string t269, .int .i64 t270, .int .i64 t271, .int .u32 t272, .int .i32 t273]), (11, .pointer (some ⟨s_, 0, none⟩))]) (fun s_ w' => (w'.cell? ⟨gb266, 0, none⟩ = some (.int .i64 x267000_2) ∧ w'.cell? ⟨gb266, 1, none⟩ = some (.int .i64 x267001_2) ∧ w'.cell? ⟨gb266, 2, none⟩ = some (.int .u32 x267002_2) ∧ w'.cell? ⟨gb266, 3, none⟩ = some (.int .i32 x267003_2) ∧ w'.cell? (ad267.add (x10_2).toNat) = some (.int .i32 (rd l1 x10_2))) ∧ (w'.heap[gb266]? = some (.cells #[.int .i64 x267000_2, .int .i64 x267001_2, .int .u32 x267002_2, .int .i32 x267003_2] 25 (0, 0))) ∧ (w'.heap[s_]? = some (.cells #[.int .i64 0, .string (⟨#[]⟩ : ByteArray), .int .i64 0, .int .i64 0, .int .u32 0, .int .i32 0] 27 (0, 0))) ∧ (w.heap.size ≤ s_) ∧ (w.heap.size ≤ s_) ∧ (gb266 ≠ s_) ∧ (s_ ≠ gb266) ∧ (Below w.heap.size w w')) ?_ ?_
                          rotate_left
                          · intro hCont
                            refine two_ (i := 6) (j := 7) (Ni := some 34) (Nj := some 11) #[true, true, true, true, true, true, true, false, false] #[true, true, true, true, true, true, false, true, false] rfl rfl rfl rfl (two_of HT_.out (by kernel_rfl)) (by decide) (by decide) (fun K hK => ?_) (fun K hK => ?_)
                            · skip
                              refine goes_ Try.func38 (by kernel_rfl) rfl #[.int .i64 x7_5, .agg #[.int .i64 x267000_2, .int .i64 x267001_2, .int .u32 x267002_2, .int .i32 x267003_2], .int .i32 (rd l1 x10_2)] (by rfl) rfl rfl (by (try simp only [List.map_toArray, List.map_cons, List.map_nil]); first | done | rfl | (simp only [List.length_drop, List.length_take]; rfl)) ?_
                              with_reducible refine (iso2022_Set.calls kj10 x7_5 x267000_2 x267001_2 x267002_2 x267003_2 (rd l1 x10_2) t268 t269 t270 t271 t272 t273 _ A16.out).mono ?_
                              rintro e w20 ⟨rfl, hb⟩
                              refine ⟨_, rfl, ?_⟩
                              have n0_ := Aside0.mk (blk_below (g := gb266) (o := .cells #[.int .i64 x267000_2, .int .i64 x267001_2, .int .u32 x267002_2, .int .i32 x267003_2] 25 (0, 0)) (by (with_reducible repeat (first | refine blk_drewN ?_ _ | refine blk_drew ?_ | refine blk_alloc ?_ _)); exact BK266.out) hb)
                              have n1_ := Aside0.mk (below_step (by repeat (first | (with_reducible first | exact HB.out | apply below_alloc | apply pw_below_drewN | apply below_drew1 | refine below_set ?_ GE266.out) | exact HB.out)) hb)
                              clear BK266
                              clear HB
                              have BK266 := n0_
                              have HB := n1_
                              clear n0_ n1_
                              (try clear hb)
                              (try clear hb2)
                              (try clear hk)
                              (try clear hi)
                              refine hK.out _ _ ⟨(blk_cell BK266.out 0).trans rfl, (blk_cell BK266.out 1).trans rfl, (blk_cell BK266.out 2).trans rfl, (blk_cell BK266.out 3).trans rfl, ((HB.out.cell (World.block_lt_of_cell? w _ hw267_0)).trans hw267_0)⟩ (fun hHeld => ?_)
                              clear hK K
                              refine norm_ (a' := ?_) ?_ ?_
                              rotate_left
                              · show Act.put _ (some 34) _ = _
                                simp only [Act.put, List.setIfInBounds_toArray, List.set_cons_zero, List.set_cons_succ, i64_w, i32_w]
                                rfl
                              refine one_ (i := 7) (N := some 11) #[true, true, true, true, true, true, true, true, false] rfl rfl (one_of HT_.out (by kernel_rfl)) (by decide) (fun K hK => ?_)
                              refine box_step ?hg (N := 11) ?hd (cs := #[.int .i64 0, .string (⟨#[]⟩ : ByteArray), .int .i64 0, .int .i64 0, .int .u32 0, .int .i32 0]) (t := 27) ?hr ?_; (case hd => rfl); (case hg => rfl); (case hr => first | (go_simp; done) | (go_simp; rfl))
                              intro gb274 hg w21 hbox hb
                              have n0_ := Aside0.mk (blk_below (g := gb266) (o := .cells #[.int .i64 x267000_2, .int .i64 x267001_2, .int .u32 x267002_2, .int .i32 x267003_2] 25 (0, 0)) (by (with_reducible repeat (first | refine blk_drewN ?_ _ | refine blk_drew ?_ | refine blk_alloc ?_ _)); exact BK266.out) hb)
                              have n1_ := Aside0.mk (below_step (by repeat (first | (with_reducible first | exact HB.out | apply below_alloc | apply pw_below_drewN | apply below_drew1 | refine below_set ?_ GE266.out) | exact HB.out)) hb)
                              have n2_ := Aside0.mk (hbox)
                              have n3_ := Aside0.mk ((by rw [hg]; exact (below_size (by repeat (first | (with_reducible first | exact HB.out | apply below_alloc | apply pw_below_drewN | apply below_drew1 | refine below_set ?_ GE266.out) | exact HB.out))) : w.heap.size ≤ gb274))
                              have n4_ := Aside0.mk ((by rw [hg]; exact (below_size (by repeat (first | (with_reducible first | exact HB.out | apply below_alloc | apply pw_below_drewN | apply below_drew1 | refine below_set ?_ GE266.out) | exact HB.out))) : w.heap.size ≤ gb274))
                              have n5_ := Aside0.mk ((by rw [hg]; exact Nat.ne_of_lt (blk_lt (g := gb266) (o := .cells #[.int .i64 x267000_2, .int .i64 x267001_2, .int .u32 x267002_2, .int .i32 x267003_2] 25 (0, 0)) (by (with_reducible repeat (first | refine blk_drewN ?_ _ | refine blk_drew ?_ | refine blk_alloc ?_ _)); exact BK266.out)) : gb266 ≠ gb274))
                              have n6_ := Aside0.mk ((by rw [hg]; exact Nat.ne_of_gt (blk_lt (g := gb266) (o := .cells #[.int .i64 x267000_2, .int .i64 x267001_2, .int .u32 x267002_2, .int .i32 x267003_2] 25 (0, 0)) (by (with_reducible repeat (first | refine blk_drewN ?_ _ | refine blk_drew ?_ | refine blk_alloc ?_ _)); exact BK266.out)) : gb274 ≠ gb266))
                              clear BK266
                              clear HB
                              have BK266 := n0_
                              have HB := n1_
                              have BK274 := n2_
                              have GW274 := n3_
                              have GE274 := n4_
                              have NB266_274 := n5_
                              have NB274_266 := n6_
                              clear n0_ n1_ n2_ n3_ n4_ n5_ n6_
                              clear hb hbox hg
                              refine hK.out _ _ ⟨(blk_cell BK266.out 0).trans rfl, (blk_cell BK266.out 1).trans rfl, (blk_cell BK266.out 2).trans rfl, (blk_cell BK266.out 3).trans rfl, ((HB.out.cell (World.block_lt_of_cell? w _ hw267_0)).trans hw267_0)⟩ (fun hHeld => ?_)
                              clear hK K
                              refine norm_ (a' := ?_) ?_ ?_
                              rotate_left
                              · show Act.put _ (some 11) _ = _
                                simp only [Act.put, List.setIfInBounds_toArray, List.set_cons_zero, List.set_cons_succ, i64_w, i32_w]
                                rfl
                              exact norm_ (by simp only [putAll, Act.put, List.setIfInBounds_toArray, List.set_cons_zero, List.set_cons_succ]) (hCont (gb274) _ ⟨hHeld, (by (with_reducible repeat (first | refine blk_drewN ?_ _ | refine blk_drew ?_ | refine blk_alloc ?_ _)); exact BK266.out), (by (with_reducible repeat (first | refine blk_drewN ?_ _ | refine blk_drew ?_ | refine blk_alloc ?_ _)); exact BK274.out), GW274.out, GE274.out, NB266_274.out, NB274_266.out, (by repeat (first | (with_reducible first | exact HB.out | apply below_alloc | apply pw_below_drewN | apply below_drew1 | refine below_set ?_ GE266.out | refine below_set ?_ GE274.out) | exact HB.out))⟩)
                            · skip
                              refine box_step ?hg (N := 11) ?hd (cs := #[.int .i64 0, .string (⟨#[]⟩ : ByteArray), .int .i64 0, .int .i64 0, .int .u32 0, .int .i32 0]) (t := 27) ?hr ?_; (case hd => rfl); (case hg => rfl); (case hr => first | (go_simp; done) | (go_simp; rfl))
                              intro gb274 hg w20 hbox hb
                              have n0_ := Aside0.mk (blk_below (g := gb266) (o := .cells #[.int .i64 x267000_2, .int .i64 x267001_2, .int .u32 x267002_2, .int .i32 x267003_2] 25 (0, 0)) (by (with_reducible repeat (first | refine blk_drewN ?_ _ | refine blk_drew ?_ | refine blk_alloc ?_ _)); exact BK266.out) hb)
                              have n1_ := Aside0.mk (below_step (by repeat (first | (with_reducible first | exact HB.out | apply below_alloc | apply pw_below_drewN | apply below_drew1 | refine below_set ?_ GE266.out) | exact HB.out)) hb)
                              have n2_ := Aside0.mk (hbox)
                              have n3_ := Aside0.mk ((by rw [hg]; exact (below_size (by repeat (first | (with_reducible first | exact HB.out | apply below_alloc | apply pw_below_drewN | apply below_drew1 | refine below_set ?_ GE266.out) | exact HB.out))) : w.heap.size ≤ gb274))
                              have n4_ := Aside0.mk ((by rw [hg]; exact (below_size (by repeat (first | (with_reducible first | exact HB.out | apply below_alloc | apply pw_below_drewN | apply below_drew1 | refine below_set ?_ GE266.out) | exact HB.out))) : w.heap.size ≤ gb274))
                              have n5_ := Aside0.mk ((by rw [hg]; exact Nat.ne_of_lt (blk_lt (g := gb266) (o := .cells #[.int .i64 x267000_2, .int .i64 x267001_2, .int .u32 x267002_2, .int .i32 x267003_2] 25 (0, 0)) (by (with_reducible repeat (first | refine blk_drewN ?_ _ | refine blk_drew ?_ | refine blk_alloc ?_ _)); exact BK266.out)) : gb266 ≠ gb274))
                              have n6_ := Aside0.mk ((by rw [hg]; exact Nat.ne_of_gt (blk_lt (g := gb266) (o := .cells #[.int .i64 x267000_2, .int .i64 x267001_2, .int .u32 x267002_2, .int .i32 x267003_2] 25 (0, 0)) (by (with_reducible repeat (first | refine blk_drewN ?_ _ | refine blk_drew ?_ | refine blk_alloc ?_ _)); exact BK266.out)) : gb274 ≠ gb266))
                              clear BK266
                              clear HB
                              have BK266 := n0_
                              have HB := n1_
                              have BK274 := n2_
                              have GW274 := n3_
                              have GE274 := n4_
                              have NB266_274 := n5_
                              have NB274_266 := n6_
                              clear n0_ n1_ n2_ n3_ n4_ n5_ n6_
                              clear hb hbox hg
                              refine hK.out _ _ ⟨(blk_cell BK266.out 0).trans rfl, (blk_cell BK266.out 1).trans rfl, (blk_cell BK266.out 2).trans rfl, (blk_cell BK266.out 3).trans rfl, ((HB.out.cell (World.block_lt_of_cell? w _ hw267_0)).trans hw267_0)⟩ (fun hHeld => ?_)
                              clear hK K
                              refine norm_ (a' := ?_) ?_ ?_
                              rotate_left
                              · show Act.put _ (some 11) _ = _
                                simp only [Act.put, List.setIfInBounds_toArray, List.set_cons_zero, List.set_cons_succ, i64_w, i32_w]
                                rfl
                              refine one_ (i := 6) (N := some 34) #[true, true, true, true, true, true, true, true, false] rfl rfl (one_of HT_.out (by kernel_rfl)) (by decide) (fun K hK => ?_)
                              refine goes_ Try.func38 (by kernel_rfl) rfl #[.int .i64 x7_5, .agg #[.int .i64 x267000_2, .int .i64 x267001_2, .int .u32 x267002_2, .int .i32 x267003_2], .int .i32 (rd l1 x10_2)] (by rfl) rfl rfl (by (try simp only [List.map_toArray, List.map_cons, List.map_nil]); first | done | rfl | (simp only [List.length_drop, List.length_take]; rfl)) ?_
                              with_reducible refine (iso2022_Set.calls kj10 x7_5 x267000_2 x267001_2 x267002_2 x267003_2 (rd l1 x10_2) t268 t269 t270 t271 t272 t273 _ A16.out).mono ?_
                              rintro e w21 ⟨rfl, hb⟩
                              refine ⟨_, rfl, ?_⟩
                              have n0_ := Aside0.mk (blk_below (g := gb266) (o := .cells #[.int .i64 x267000_2, .int .i64 x267001_2, .int .u32 x267002_2, .int .i32 x267003_2] 25 (0, 0)) (by (with_reducible repeat (first | refine blk_drewN ?_ _ | refine blk_drew ?_ | refine blk_alloc ?_ _)); exact BK266.out) hb)
                              have n1_ := Aside0.mk (blk_below (g := gb274) (o := .cells #[.int .i64 0, .string (⟨#[]⟩ : ByteArray), .int .i64 0, .int .i64 0, .int .u32 0, .int .i32 0] 27 (0, 0)) (by (with_reducible repeat (first | refine blk_drewN ?_ _ | refine blk_drew ?_ | refine blk_alloc ?_ _)); exact BK274.out) hb)
                              have n2_ := Aside0.mk (below_step (by repeat (first | (with_reducible first | exact HB.out | apply below_alloc | apply pw_below_drewN | apply below_drew1 | refine below_set ?_ GE266.out | refine below_set ?_ GE274.out) | exact HB.out)) hb)
                              clear BK266
                              clear BK274
                              clear HB
                              have BK266 := n0_
                              have BK274 := n1_
                              have HB := n2_
                              clear n0_ n1_ n2_
                              (try clear hb)
                              (try clear hb2)
                              (try clear hk)
                              (try clear hi)
                              refine hK.out _ _ ⟨(blk_cell BK266.out 0).trans rfl, (blk_cell BK266.out 1).trans rfl, (blk_cell BK266.out 2).trans rfl, (blk_cell BK266.out 3).trans rfl, ((HB.out.cell (World.block_lt_of_cell? w _ hw267_0)).trans hw267_0)⟩ (fun hHeld => ?_)
                              clear hK K
                              refine norm_ (a' := ?_) ?_ ?_
                              rotate_left
                              · show Act.put _ (some 34) _ = _
                                simp only [Act.put, List.setIfInBounds_toArray, List.set_cons_zero, List.set_cons_succ, i64_w, i32_w]
                                rfl
                              exact norm_ (by simp only [putAll, Act.put, List.setIfInBounds_toArray, List.set_cons_zero, List.set_cons_succ]) (hCont (gb274) _ ⟨hHeld, (by (with_reducible repeat (first | refine blk_drewN ?_ _ | refine blk_drew ?_ | refine blk_alloc ?_ _)); exact BK266.out), (by (with_reducible repeat (first | refine blk_drewN ?_ _ | refine blk_drew ?_ | refine blk_alloc ?_ _)); exact BK274.out), GW274.out, GE274.out, NB266_274.out, NB274_266.out, (by repeat (first | (with_reducible first | exact HB.out | apply below_alloc | apply pw_below_drewN | apply below_drew1 | refine below_set ?_ GE266.out | refine below_set ?_ GE274.out) | exact HB.out))⟩)
                          rintro gb274 w22 ⟨hS_, h0_, h1_, h2_, h3_, h4_, h5_, h6_⟩
                          have n0_ : Aside0 (w22.heap[gb266]? = some (.cells #[.int .i64 x267000_2, .int .i64 x267001_2, .int .u32 x267002_2, .int .i32 x267003_2] 25 (0, 0))) := ⟨h0_⟩
                          have n1_ : Aside0 (w22.heap[gb274]? = some (.cells #[.int .i64 0, .string (⟨#[]⟩ : ByteArray), .int .i64 0, .int .i64 0, .int .u32 0, .int .i32 0] 27 (0, 0))) := ⟨h1_⟩
                          have n2_ : Aside0 (w.heap.size ≤ gb274) := ⟨h2_⟩
                          have n3_ : Aside0 (w.heap.size ≤ gb274) := ⟨h3_⟩
                          have n4_ : Aside0 (gb266 ≠ gb274) := ⟨h4_⟩
                          have n5_ : Aside0 (gb274 ≠ gb266) := ⟨h5_⟩
                          have n6_ : Aside0 (Below w.heap.size w w22) := ⟨h6_⟩
                          clear BK266
                          clear HB
                          clear h0_ h1_ h2_ h3_ h4_ h5_ h6_
                          have BK266 := n0_
                          have BK274 := n1_
                          have GW274 := n2_
                          have GE274 := n3_
                          have NB266_274 := n4_
                          have NB274_266 := n5_
                          have HB := n6_
                          clear n0_ n1_ n2_ n3_ n4_ n5_ n6_
                          have hHeld : w22.cell? ⟨gb266, 0, none⟩ = some (.int .i64 x267000_2) ∧ w22.cell? ⟨gb266, 1, none⟩ = some (.int .i64 x267001_2) ∧ w22.cell? ⟨gb266, 2, none⟩ = some (.int .u32 x267002_2) ∧ w22.cell? ⟨gb266, 3, none⟩ = some (.int .i32 x267003_2) ∧ w22.cell? (ad267.add (x10_2).toNat) = some (.int .i32 (rd l1 x10_2)) := hS_
                          refine norm_ (a' := ?_) ?_ ?_
                          rotate_left
                          · simp only [putAll, Act.put, List.setIfInBounds_toArray, List.set_cons_zero, List.set_cons_succ]
                            rfl
                          refine one_ (i := 8) (N := none) #[true, true, true, true, true, true, true, true, true] rfl rfl (one_of HT_.out (by kernel_rfl)) (by decide) (fun K hK => ?_)
                          have hs23 : w22.cell? ⟨gb274, 0, none⟩ = some (.int .i64 0) := (blk_cell BK274.out 0).trans rfl
                          have hfs23 := blk_frozen BK274.out 0
                          have hns23_0 := NB266_274.out
                          have hms23_0 := NB274_266.out
                          have hs24 : w22.cell? ⟨gb274, 1, none⟩ = some (.string (⟨#[]⟩ : ByteArray)) := (blk_cell BK274.out 1).trans rfl
                          have hfs24 := blk_frozen BK274.out 1
                          have hns24_0 := NB266_274.out
                          have hms24_0 := NB274_266.out
                          have hs25 : w22.cell? ⟨gb274, 2, none⟩ = some (.int .i64 0) := (blk_cell BK274.out 2).trans rfl
                          have hfs25 := blk_frozen BK274.out 2
                          have hns25_0 := NB266_274.out
                          have hms25_0 := NB274_266.out
                          have hs26 : w22.cell? ⟨gb274, 3, none⟩ = some (.int .i64 0) := (blk_cell BK274.out 3).trans rfl
                          have hfs26 := blk_frozen BK274.out 3
                          have hns26_0 := NB266_274.out
                          have hms26_0 := NB274_266.out
                          have hs27 : w22.cell? ⟨gb274, 4, none⟩ = some (.int .u32 0) := (blk_cell BK274.out 4).trans rfl
                          have hfs27 := blk_frozen BK274.out 4
                          have hns27_0 := NB266_274.out
                          have hms27_0 := NB274_266.out
                          have hs28 : w22.cell? ⟨gb274, 5, none⟩ = some (.int .i32 0) := (blk_cell BK274.out 5).trans rfl
                          have hfs28 := blk_frozen BK274.out 5
                          have hns28_0 := NB266_274.out
                          have hms28_0 := NB274_266.out
                          refine skip_ (w1 := ?_) (by rfl) rfl ?_ ?_
                          rotate_left
                          · go_simp
                            rfl
                          refine hK.out _ _ ⟨((cell_far (p := ⟨gb274, _, none⟩) NB266_274.out _).trans (((cell_far (p := ⟨gb274, _, none⟩) NB266_274.out _).trans (((cell_far (p := ⟨gb274, _, none⟩) NB266_274.out _).trans (((cell_far (p := ⟨gb274, _, none⟩) NB266_274.out _).trans (((cell_far (p := ⟨gb274, _, none⟩) NB266_274.out _).trans (((cell_far (p := ⟨gb274, _, none⟩) NB266_274.out _).trans (hHeld.1)))))))))))), ((cell_far (p := ⟨gb274, _, none⟩) NB266_274.out _).trans (((cell_far (p := ⟨gb274, _, none⟩) NB266_274.out _).trans (((cell_far (p := ⟨gb274, _, none⟩) NB266_274.out _).trans (((cell_far (p := ⟨gb274, _, none⟩) NB266_274.out _).trans (((cell_far (p := ⟨gb274, _, none⟩) NB266_274.out _).trans (((cell_far (p := ⟨gb274, _, none⟩) NB266_274.out _).trans (hHeld.2.1)))))))))))), ((cell_far (p := ⟨gb274, _, none⟩) NB266_274.out _).trans (((cell_far (p := ⟨gb274, _, none⟩) NB266_274.out _).trans (((cell_far (p := ⟨gb274, _, none⟩) NB266_274.out _).trans (((cell_far (p := ⟨gb274, _, none⟩) NB266_274.out _).trans (((cell_far (p := ⟨gb274, _, none⟩) NB266_274.out _).trans (((cell_far (p := ⟨gb274, _, none⟩) NB266_274.out _).trans (hHeld.2.2.1)))))))))))), ((cell_far (p := ⟨gb274, _, none⟩) NB266_274.out _).trans (((cell_far (p := ⟨gb274, _, none⟩) NB266_274.out _).trans (((cell_far (p := ⟨gb274, _, none⟩) NB266_274.out _).trans (((cell_far (p := ⟨gb274, _, none⟩) NB266_274.out _).trans (((cell_far (p := ⟨gb274, _, none⟩) NB266_274.out _).trans (((cell_far (p := ⟨gb274, _, none⟩) NB266_274.out _).trans (hHeld.2.2.2.1)))))))))))), ((cell_far (p := ⟨gb274, _, none⟩) (by first | exact Nat.ne_of_lt (Nat.lt_of_lt_of_le (by have := World.block_lt_of_cell? _ _ hw267_0; first | rwa [add_block] at this | exact this) GW274.out) | (rw [add_block]; exact Nat.ne_of_lt (Nat.lt_of_lt_of_le (by have := World.block_lt_of_cell? _ _ hw267_0; first | rwa [add_block] at this | exact this) GW274.out)) | (show (Addr.add _ _).block ≠ _; rw [add_block]; exact Nat.ne_of_lt (Nat.lt_of_lt_of_le (by have := World.block_lt_of_cell? _ _ hw267_0; first | rwa [add_block] at this | exact this) GW274.out)) | (dsimp only; exact Nat.ne_of_lt (Nat.lt_of_lt_of_le (by have := World.block_lt_of_cell? _ _ hw267_0; first | rwa [add_block] at this | exact this) GW274.out))) _).trans (((cell_far (p := ⟨gb274, _, none⟩) (by first | exact Nat.ne_of_lt (Nat.lt_of_lt_of_le (by have := World.block_lt_of_cell? _ _ hw267_0; first | rwa [add_block] at this | exact this) GW274.out) | (rw [add_block]; exact Nat.ne_of_lt (Nat.lt_of_lt_of_le (by have := World.block_lt_of_cell? _ _ hw267_0; first | rwa [add_block] at this | exact this) GW274.out)) | (show (Addr.add _ _).block ≠ _; rw [add_block]; exact Nat.ne_of_lt (Nat.lt_of_lt_of_le (by have := World.block_lt_of_cell? _ _ hw267_0; first | rwa [add_block] at this | exact this) GW274.out)) | (dsimp only; exact Nat.ne_of_lt (Nat.lt_of_lt_of_le (by have := World.block_lt_of_cell? _ _ hw267_0; first | rwa [add_block] at this | exact this) GW274.out))) _).trans (((cell_far (p := ⟨gb274, _, none⟩) (by first | exact Nat.ne_of_lt (Nat.lt_of_lt_of_le (by have := World.block_lt_of_cell? _ _ hw267_0; first | rwa [add_block] at this | exact this) GW274.out) | (rw [add_block]; exact Nat.ne_of_lt (Nat.lt_of_lt_of_le (by have := World.block_lt_of_cell? _ _ hw267_0; first | rwa [add_block] at this | exact this) GW274.out)) | (show (Addr.add _ _).block ≠ _; rw [add_block]; exact Nat.ne_of_lt (Nat.lt_of_lt_of_le (by have := World.block_lt_of_cell? _ _ hw267_0; first | rwa [add_block] at this | exact this) GW274.out)) | (dsimp only; exact Nat.ne_of_lt (Nat.lt_of_lt_of_le (by have := World.block_lt_of_cell? _ _ hw267_0; first | rwa [add_block] at this | exact this) GW274.out))) _).trans (((cell_far (p := ⟨gb274, _, none⟩) (by first | exact Nat.ne_of_lt (Nat.lt_of_lt_of_le (by have := World.block_lt_of_cell? _ _ hw267_0; first | rwa [add_block] at this | exact this) GW274.out) | (rw [add_block]; exact Nat.ne_of_lt (Nat.lt_of_lt_of_le (by have := World.block_lt_of_cell? _ _ hw267_0; first | rwa [add_block] at this | exact this) GW274.out)) | (show (Addr.add _ _).block ≠ _; rw [add_block]; exact Nat.ne_of_lt (Nat.lt_of_lt_of_le (by have := World.block_lt_of_cell? _ _ hw267_0; first | rwa [add_block] at this | exact this) GW274.out)) | (dsimp only; exact Nat.ne_of_lt (Nat.lt_of_lt_of_le (by have := World.block_lt_of_cell? _ _ hw267_0; first | rwa [add_block] at this | exact this) GW274.out))) _).trans (((cell_far (p := ⟨gb274, _, none⟩) (by first | exact Nat.ne_of_lt (Nat.lt_of_lt_of_le (by have := World.block_lt_of_cell? _ _ hw267_0; first | rwa [add_block] at this | exact this) GW274.out) | (rw [add_block]; exact Nat.ne_of_lt (Nat.lt_of_lt_of_le (by have := World.block_lt_of_cell? _ _ hw267_0; first | rwa [add_block] at this | exact this) GW274.out)) | (show (Addr.add _ _).block ≠ _; rw [add_block]; exact Nat.ne_of_lt (Nat.lt_of_lt_of_le (by have := World.block_lt_of_cell? _ _ hw267_0; first | rwa [add_block] at this | exact this) GW274.out)) | (dsimp only; exact Nat.ne_of_lt (Nat.lt_of_lt_of_le (by have := World.block_lt_of_cell? _ _ hw267_0; first | rwa [add_block] at this | exact this) GW274.out))) _).trans (((cell_far (p := ⟨gb274, _, none⟩) (by first | exact Nat.ne_of_lt (Nat.lt_of_lt_of_le (by have := World.block_lt_of_cell? _ _ hw267_0; first | rwa [add_block] at this | exact this) GW274.out) | (rw [add_block]; exact Nat.ne_of_lt (Nat.lt_of_lt_of_le (by have := World.block_lt_of_cell? _ _ hw267_0; first | rwa [add_block] at this | exact this) GW274.out)) | (show (Addr.add _ _).block ≠ _; rw [add_block]; exact Nat.ne_of_lt (Nat.lt_of_lt_of_le (by have := World.block_lt_of_cell? _ _ hw267_0; first | rwa [add_block] at this | exact this) GW274.out)) | (dsimp only; exact Nat.ne_of_lt (Nat.lt_of_lt_of_le (by have := World.block_lt_of_cell? _ _ hw267_0; first | rwa [add_block] at this | exact this) GW274.out))) _).trans (hHeld.2.2.2.2))))))))))))⟩ (fun hHeld => ?_)
                          clear hK K
                          refine done_ (done_of HT_.out (by kernel_rfl)) ?_
                          have hnb29 := NB274_266.out
                          have hnc29 := NB266_274.out
                          have hcz30_0 : w22.cell? ⟨gb274, 0, none⟩ = some (.int .i64 0) := (blk_cell BK274.out 0).trans rfl
                          have hcz30_1 : w22.cell? ⟨gb274, 1, none⟩ = some (.string (⟨#[]⟩ : ByteArray)) := (blk_cell BK274.out 1).trans rfl
                          have hcz30_2 : w22.cell? ⟨gb274, 2, none⟩ = some (.int .i64 0) := (blk_cell BK274.out 2).trans rfl
                          have hcz30_3 : w22.cell? ⟨gb274, 3, none⟩ = some (.int .i64 0) := (blk_cell BK274.out 3).trans rfl
                          have hcz30_4 : w22.cell? ⟨gb274, 4, none⟩ = some (.int .u32 0) := (blk_cell BK274.out 4).trans rfl
                          have hcz30_5 : w22.cell? ⟨gb274, 5, none⟩ = some (.int .i32 0) := (blk_cell BK274.out 5).trans rfl
                          have hfz30_0 := blk_frozen BK274.out 0
                          have hfz30_1 := blk_frozen BK274.out 1
                          have hfz30_2 := blk_frozen BK274.out 2
                          have hfz30_3 := blk_frozen BK274.out 3
                          have hfz30_4 := blk_frozen BK274.out 4
                          have hfz30_5 := blk_frozen BK274.out 5
                          try go_wp2
                          have n0_ : Aside0 (((((((w22.setCell ⟨gb274, 0, none⟩ (.int .i64 t268)).setCell ⟨gb274, 1, none⟩ (.string t269)).setCell ⟨gb274, 2, none⟩ (.int .i64 t270)).setCell ⟨gb274, 3, none⟩ (.int .i64 t271)).setCell ⟨gb274, 4, none⟩ (.int .u32 t272)).setCell ⟨gb274, 5, none⟩ (.int .i32 t273)).heap[gb266]? = some (.cells #[.int .i64 x267000_2, .int .i64 x267001_2, .int .u32 x267002_2, .int .i32 x267003_2] 25 (0, 0))) := ⟨by (with_reducible repeat (first | refine blk_drewN ?_ _ | refine blk_drew ?_ | refine blk_alloc ?_ _)); refine blk_far ?_ NB266_274.out _; (with_reducible repeat (first | refine blk_drewN ?_ _ | refine blk_drew ?_ | refine blk_alloc ?_ _)); refine blk_far ?_ NB266_274.out _; (with_reducible repeat (first | refine blk_drewN ?_ _ | refine blk_drew ?_ | refine blk_alloc ?_ _)); refine blk_far ?_ NB266_274.out _; (with_reducible repeat (first | refine blk_drewN ?_ _ | refine blk_drew ?_ | refine blk_alloc ?_ _)); refine blk_far ?_ NB266_274.out _; (with_reducible repeat (first | refine blk_drewN ?_ _ | refine blk_drew ?_ | refine blk_alloc ?_ _)); refine blk_far ?_ NB266_274.out _; (with_reducible repeat (first | refine blk_drewN ?_ _ | refine blk_drew ?_ | refine blk_alloc ?_ _)); refine blk_far ?_ NB266_274.out _; (with_reducible repeat (first | refine blk_drewN ?_ _ | refine blk_drew ?_ | refine blk_alloc ?_ _)); exact BK266.out⟩
                          have n1_ : Aside0 (((((((w22.setCell ⟨gb274, 0, none⟩ (.int .i64 t268)).setCell ⟨gb274, 1, none⟩ (.string t269)).setCell ⟨gb274, 2, none⟩ (.int .i64 t270)).setCell ⟨gb274, 3, none⟩ (.int .i64 t271)).setCell ⟨gb274, 4, none⟩ (.int .u32 t272)).setCell ⟨gb274, 5, none⟩ (.int .i32 t273)).heap[gb274]? = some (.cells #[.int .i64 t268, .string t269, .int .i64 t270, .int .i64 t271, .int .u32 t272, .int .i32 t273] 27 (0, 0))) := ⟨by (with_reducible repeat (first | refine blk_drewN ?_ _ | refine blk_drew ?_ | refine blk_alloc ?_ _)); refine blk_put (cs := #[.int .i64 t268, .string t269, .int .i64 t270, .int .i64 t271, .int .u32 t272, .int .i32 0]) ?_ 5 _ rfl; (with_reducible repeat (first | refine blk_drewN ?_ _ | refine blk_drew ?_ | refine blk_alloc ?_ _)); refine blk_put (cs := #[.int .i64 t268, .string t269, .int .i64 t270, .int .i64 t271, .int .u32 0, .int .i32 0]) ?_ 4 _ rfl; (with_reducible repeat (first | refine blk_drewN ?_ _ | refine blk_drew ?_ | refine blk_alloc ?_ _)); refine blk_put (cs := #[.int .i64 t268, .string t269, .int .i64 t270, .int .i64 0, .int .u32 0, .int .i32 0]) ?_ 3 _ rfl; (with_reducible repeat (first | refine blk_drewN ?_ _ | refine blk_drew ?_ | refine blk_alloc ?_ _)); refine blk_put (cs := #[.int .i64 t268, .string t269, .int .i64 0, .int .i64 0, .int .u32 0, .int .i32 0]) ?_ 2 _ rfl; (with_reducible repeat (first | refine blk_drewN ?_ _ | refine blk_drew ?_ | refine blk_alloc ?_ _)); refine blk_put (cs := #[.int .i64 t268, .string (⟨#[]⟩ : ByteArray), .int .i64 0, .int .i64 0, .int .u32 0, .int .i32 0]) ?_ 1 _ rfl; (with_reducible repeat (first | refine blk_drewN ?_ _ | refine blk_drew ?_ | refine blk_alloc ?_ _)); refine blk_put (cs := #[.int .i64 0, .string (⟨#[]⟩ : ByteArray), .int .i64 0, .int .i64 0, .int .u32 0, .int .i32 0]) ?_ 0 _ rfl; (with_reducible repeat (first | refine blk_drewN ?_ _ | refine blk_drew ?_ | refine blk_alloc ?_ _)); exact BK274.out⟩
                          have n2_ : Aside0 (Below w.heap.size w ((((((w22.setCell ⟨gb274, 0, none⟩ (.int .i64 t268)).setCell ⟨gb274, 1, none⟩ (.string t269)).setCell ⟨gb274, 2, none⟩ (.int .i64 t270)).setCell ⟨gb274, 3, none⟩ (.int .i64 t271)).setCell ⟨gb274, 4, none⟩ (.int .u32 t272)).setCell ⟨gb274, 5, none⟩ (.int .i32 t273))) := ⟨by repeat (first | (with_reducible first | exact HB.out | apply below_alloc | apply pw_below_drewN | apply below_drew1 | refine below_set ?_ GE266.out | refine below_set ?_ GE274.out) | exact HB.out)⟩
                          (try clear BK266)
                          (try clear BK274)
                          (try clear HB)
                          generalize ((((((w22.setCell ⟨gb274, 0, none⟩ (.int .i64 t268)).setCell ⟨gb274, 1, none⟩ (.string t269)).setCell ⟨gb274, 2, none⟩ (.int .i64 t270)).setCell ⟨gb274, 3, none⟩ (.int .i64 t271)).setCell ⟨gb274, 4, none⟩ (.int .u32 t272)).setCell ⟨gb274, 5, none⟩ (.int .i32 t273)) = w31 at n0_ n1_ n2_ ⊢
                          have BK266 := n0_
                          have BK274 := n1_
                          have HB := n2_
                          clear n0_ n1_ n2_
                          have n0_ := Aside0.mk (blk_drew BK266.out)
                          have n1_ := Aside0.mk (blk_drew BK274.out)
                          have n2_ := Aside0.mk (below_drew1 HB.out)
                          clear BK266
                          clear BK274
                          clear HB
                          have BK266 := n0_
                          have BK274 := n1_
                          have HB := n2_
                          clear n0_ n1_ n2_
                          refine start_ (n := 8) (S := fun w' => w'.cell? ⟨gb274, 0, none⟩ = some (.int .i64 t268) ∧ w'.cell? ⟨gb274, 1, none⟩ = some (.string t269) ∧ w'.cell? ⟨gb274, 2, none⟩ = some (.int .i64 t270) ∧ w'.cell? ⟨gb274, 3, none⟩ = some (.int .i64 t271) ∧ w'.cell? ⟨gb274, 4, none⟩ = some (.int .u32 t272) ∧ w'.cell? ⟨gb274, 5, none⟩ = some (.int .i32 t273)) (ds := []) #[false, false, false, false, false, false, false, false] (by kernel_rfl) rfl rfl ⟨(blk_cell BK274.out 0).trans rfl, (blk_cell BK274.out 1).trans rfl, (blk_cell BK274.out 2).trans rfl, (blk_cell BK274.out 3).trans rfl, (blk_cell BK274.out 4).trans rfl, (blk_cell BK274.out 5).trans rfl⟩ (fun hHeld => ?_); refine with_tabW dragomanlaw21_Iso2022Cuts.tab13 dragomanlaw21_Iso2022Cuts.bits13 (fun HT_ HW_ => ?_)
                          generalize w31.drew = w32 at BK266 BK274 HB hHeld ⊢
                          refine pure_ (i := 0) (N := some 38) (v := ?_) (a' := ?_) #[true, false, false, false, false, false, false, false] rfl rfl (any_of HT_.out (by kernel_rfl)) (fun _ _ _ h => h) (Or.inl ⟨by rfl, ?_⟩) ?_ ?_
                          rotate_left
                          · intro w'
                            go_simp
                            with_reducible rfl
                          rotate_left
                          · simp only [Act.put, List.setIfInBounds_toArray, List.set_cons_zero, List.set_cons_succ, i64_w, i32_w]
                            rfl
                          refine pure_ (i := 1) (N := some 39) (v := ?_) (a' := ?_) #[true, true, false, false, false, false, false, false] rfl rfl (any_of HT_.out (by kernel_rfl)) (fun _ _ _ h => h) (Or.inl ⟨by rfl, ?_⟩) ?_ ?_
                          rotate_left
                          · intro w'
                            go_simp
                            with_reducible rfl
                          rotate_left
                          · simp only [Act.put, List.setIfInBounds_toArray, List.set_cons_zero, List.set_cons_succ, i64_w, i32_w]
                            rfl
                          refine pure_ (i := 4) (N := some 42) (v := ?_) (a' := ?_) #[true, true, false, false, true, false, false, false] rfl rfl (any_of HT_.out (by kernel_rfl)) (fun _ _ _ h => h) (Or.inl ⟨by rfl, ?_⟩) ?_ ?_
                          rotate_left
                          · intro w'
                            go_simp
                            with_reducible rfl
                          rotate_left
                          · simp only [Act.put, List.setIfInBounds_toArray, List.set_cons_zero, List.set_cons_succ, i64_w, i32_w]
                            rfl
                          refine take_ (i := 2) (N := some 40) (v := ?_) (a' := ?_) #[true, true, true, false, true, false, false, false] rfl rfl (take_ofW HT_.out HW_.out (by kernel_rfl)) (fun _ _ _ h => h) (Or.inl ⟨by rfl, ?_⟩) hHeld ?_ ?_
                          rotate_left
                          · rintro w' ⟨s0, s1, s2, s3, s4, s5⟩
                            go_simp
                            with_reducible rfl
                          rotate_left
                          · simp only [Act.put, List.setIfInBounds_toArray, List.set_cons_zero, List.set_cons_succ, i64_w, i32_w]
                            rfl
                          refine pure_ (i := 3) (N := some 41) (v := ?_) (a' := ?_) #[true, true, true, true, true, false, false, false] rfl rfl (any_of HT_.out (by kernel_rfl)) (fun _ _ _ h => h) (Or.inl ⟨by rfl, ?_⟩) ?_ ?_
                          rotate_left
                          · intro w'
                            go_simp
                            with_reducible rfl
                          rotate_left
                          · simp only [Act.put, List.setIfInBounds_toArray, List.set_cons_zero, List.set_cons_succ, i64_w, i32_w]
                            rfl
                          refine pure_ (i := 6) (N := some 9) (v := ?_) (a' := ?_) #[true, true, true, true, true, false, true, false] rfl rfl (any_of HT_.out (by kernel_rfl)) (fun _ _ _ h => h) (Or.inl ⟨by rfl, ?_⟩) ?_ ?_
                          rotate_left
                          · intro w'
                            go_simp
                            with_reducible rfl
                          rotate_left
                          · simp only [Act.put, List.setIfInBounds_toArray, List.set_cons_zero, List.set_cons_succ, i64_w, i32_w]
                            rfl
                          refine take_ (i := 5) (N := some 43) (v := ?_) (a' := ?_) #[true, true, true, true, true, true, true, false] rfl rfl (take_ofW HT_.out HW_.out (by kernel_rfl)) (fun _ _ _ h => h) (Or.inl ⟨by rfl, ?_⟩) hHeld ?_ ?_
                          rotate_left
                          · rintro w' ⟨s0, s1, s2, s3, s4, s5⟩
                            go_simp
                            with_reducible rfl
                          rotate_left
                          · simp only [Act.put, List.setIfInBounds_toArray, List.set_cons_zero, List.set_cons_succ, i64_w, i32_w]
                            rfl
                          refine one_ (i := 7) (N := none) #[true, true, true, true, true, true, true, true] rfl rfl (one_of HT_.out (by kernel_rfl)) (by decide) (fun K hK => ?_)
                          have hs33 : w32.cell? ⟨gb266, 0, none⟩ = some (.int .i64 x267000_2) := (blk_cell BK266.out 0).trans rfl
                          have hfs33 := blk_frozen BK266.out 0
                          have hns33_1 := NB274_266.out
                          have hms33_1 := NB266_274.out
                          have hs34 : w32.cell? ⟨gb266, 1, none⟩ = some (.int .i64 x267001_2) := (blk_cell BK266.out 1).trans rfl
                          have hfs34 := blk_frozen BK266.out 1
                          have hns34_1 := NB274_266.out
                          have hms34_1 := NB266_274.out
                          have hs35 : w32.cell? ⟨gb266, 2, none⟩ = some (.int .u32 x267002_2) := (blk_cell BK266.out 2).trans rfl
                          have hfs35 := blk_frozen BK266.out 2
                          have hns35_1 := NB274_266.out
                          have hms35_1 := NB266_274.out
                          have hs36 : w32.cell? ⟨gb266, 3, none⟩ = some (.int .i32 x267003_2) := (blk_cell BK266.out 3).trans rfl
                          have hfs36 := blk_frozen BK266.out 3
                          have hns36_1 := NB274_266.out
                          have hms36_1 := NB266_274.out
                          refine skip_ (w1 := ?_) (by rfl) rfl ?_ ?_
                          rotate_left
                          · go_simp
                            rfl
                          refine hK.out _ _ ⟨((cell_far (p := ⟨gb266, _, none⟩) NB274_266.out _).trans (((cell_far (p := ⟨gb266, _, none⟩) NB274_266.out _).trans (((cell_far (p := ⟨gb266, _, none⟩) NB274_266.out _).trans (((cell_far (p := ⟨gb266, _, none⟩) NB274_266.out _).trans (hHeld.1)))))))), ((cell_far (p := ⟨gb266, _, none⟩) NB274_266.out _).trans (((cell_far (p := ⟨gb266, _, none⟩) NB274_266.out _).trans (((cell_far (p := ⟨gb266, _, none⟩) NB274_266.out _).trans (((cell_far (p := ⟨gb266, _, none⟩) NB274_266.out _).trans (hHeld.2.1)))))))), ((cell_far (p := ⟨gb266, _, none⟩) NB274_266.out _).trans (((cell_far (p := ⟨gb266, _, none⟩) NB274_266.out _).trans (((cell_far (p := ⟨gb266, _, none⟩) NB274_266.out _).trans (((cell_far (p := ⟨gb266, _, none⟩) NB274_266.out _).trans (hHeld.2.2.1)))))))), ((cell_far (p := ⟨gb266, _, none⟩) NB274_266.out _).trans (((cell_far (p := ⟨gb266, _, none⟩) NB274_266.out _).trans (((cell_far (p := ⟨gb266, _, none⟩) NB274_266.out _).trans (((cell_far (p := ⟨gb266, _, none⟩) NB274_266.out _).trans (hHeld.2.2.2.1)))))))), ((cell_far (p := ⟨gb266, _, none⟩) NB274_266.out _).trans (((cell_far (p := ⟨gb266, _, none⟩) NB274_266.out _).trans (((cell_far (p := ⟨gb266, _, none⟩) NB274_266.out _).trans (((cell_far (p := ⟨gb266, _, none⟩) NB274_266.out _).trans (hHeld.2.2.2.2.1)))))))), ((cell_far (p := ⟨gb266, _, none⟩) NB274_266.out _).trans (((cell_far (p := ⟨gb266, _, none⟩) NB274_266.out _).trans (((cell_far (p := ⟨gb266, _, none⟩) NB274_266.out _).trans (((cell_far (p := ⟨gb266, _, none⟩) NB274_266.out _).trans (hHeld.2.2.2.2.2))))))))⟩ (fun hHeld => ?_)
                          clear hK K
                          refine done_ (done_of HT_.out (by kernel_rfl)) ?_
                          try go_wp2
                          go_roundg kj10
                          case measure => have := HJ5.out; have := HK2.out; have := HJ10.out; omega
                          case rel => exact ⟨(x9_2 ++ t269), (wrap64 (x10_2 + 1)), (t270), (t271), (t272), (t273), (by first | rfl | (simp; done) | (simp [*]; done)), (by first | rfl | (simp; done) | (simp [*]; done)), H', ⟨by have := HJ5.out; have := HK2.out; have := HJ10.out; omega⟩, ⟨by (with_reducible repeat (first | refine blk_drewN ?_ _ | refine blk_drew ?_ | refine blk_alloc ?_ _)); refine blk_put (cs := #[.int .i64 t270, .int .i64 t271, .int .u32 t272, .int .i32 x267003_2]) ?_ 3 _ rfl; (with_reducible repeat (first | refine blk_drewN ?_ _ | refine blk_drew ?_ | refine blk_alloc ?_ _)); refine blk_put (cs := #[.int .i64 t270, .int .i64 t271, .int .u32 x267002_2, .int .i32 x267003_2]) ?_ 2 _ rfl; (with_reducible repeat (first | refine blk_drewN ?_ _ | refine blk_drew ?_ | refine blk_alloc ?_ _)); refine blk_put (cs := #[.int .i64 t270, .int .i64 x267001_2, .int .u32 x267002_2, .int .i32 x267003_2]) ?_ 1 _ rfl; (with_reducible repeat (first | refine blk_drewN ?_ _ | refine blk_drew ?_ | refine blk_alloc ?_ _)); refine blk_put (cs := #[.int .i64 x267000_2, .int .i64 x267001_2, .int .u32 x267002_2, .int .i32 x267003_2]) ?_ 0 _ rfl; (with_reducible repeat (first | refine blk_drewN ?_ _ | refine blk_drew ?_ | refine blk_alloc ?_ _)); exact BK266.out⟩, ⟨by repeat (first | (with_reducible first | exact HB.out | apply below_alloc | apply pw_below_drewN | apply below_drew1 | refine below_set ?_ GE266.out | refine below_set ?_ GE274.out) | exact HB.out)⟩⟩
                        · rw [if_neg c18] at H
                          exact absurd H (by simp)
                      · rw [if_neg c17] at H
                        have c17b0 : (t268 == 0) = false := beq_eq_false_iff_ne.mpr c17
                        have c17b1 : (t268 != 0) = true := bne_iff_ne.mpr c17
                        have H' := Aside0.mk H
                        clear H
                        try go_wp2
                        have n0_ := Aside0.mk (blk_drew BK266.out)
                        have n1_ := Aside0.mk (below_drew1 HB.out)
                        clear BK266
                        clear HB
                        have BK266 := n0_
                        have HB := n1_
                        clear n0_ n1_
                        have p267 : 0 ≤ (x10_2 : Int) := of_decide_eq_true (by first | (with_reducible assumption) | assumption)
                        have q267 : x10_2 < (l1.length : Int) := of_decide_eq_true (by first | (with_reducible assumption) | assumption)
                        obtain ⟨ad267, e267, hx267_0⟩ := Kd.at_int HR1.out x10_2 p267 q267
                        have hw267_0 := hx267_0
                        cases e267
                        replace hx267_0 := (HB.out.cell (World.block_lt_of_cell? w _ hx267_0)).trans hx267_0
                        replace p267 := eq_true p267
                        replace q267 := eq_true q267
                        refine start_ (n := 9) (S := fun w' => w'.cell? ⟨gb266, 0, none⟩ = some (.int .i64 x267000_2) ∧ w'.cell? ⟨gb266, 1, none⟩ = some (.int .i64 x267001_2) ∧ w'.cell? ⟨gb266, 2, none⟩ = some (.int .u32 x267002_2) ∧ w'.cell? ⟨gb266, 3, none⟩ = some (.int .i32 x267003_2) ∧ w'.cell? (ad267.add (x10_2).toNat) = some (.int .i32 (rd l1 x10_2))) (ds := []) #[false, false, false, false, false, false, false, false, false] (by kernel_rfl) rfl rfl ⟨(blk_cell BK266.out 0).trans rfl, (blk_cell BK266.out 1).trans rfl, (blk_cell BK266.out 2).trans rfl, (blk_cell BK266.out 3).trans rfl, ((HB.out.cell (World.block_lt_of_cell? w _ hw267_0)).trans hw267_0)⟩ (fun hHeld => ?_); refine with_tabW dragomanlaw21_Iso2022Cuts.tab11 dragomanlaw21_Iso2022Cuts.bits11 (fun HT_ HW_ => ?_)
                        generalize wc.drew = w37 at BK266 HB hx267_0 hHeld ⊢
                        refine pure_ (i := 0) (N := some 28) (v := ?_) (a' := ?_) #[true, false, false, false, false, false, false, false, false] rfl rfl (any_of HT_.out (by kernel_rfl)) (fun _ _ _ h => h) (Or.inl ⟨by rfl, ?_⟩) ?_ ?_
                        rotate_left
                        · intro w'
                          go_simp
                          with_reducible rfl
                        rotate_left
                        · simp only [Act.put, List.setIfInBounds_toArray, List.set_cons_zero, List.set_cons_succ, i64_w, i32_w]
                          rfl
                        refine pure_ (i := 2) (N := some 30) (v := ?_) (a' := ?_) #[true, false, true, false, false, false, false, false, false] rfl rfl (any_of HT_.out (by kernel_rfl)) (fun _ _ _ h => h) (Or.inl ⟨by rfl, ?_⟩) ?_ ?_
                        rotate_left
                        · intro w'
                          go_simp
                          with_reducible rfl
                        rotate_left
                        · simp only [Act.put, List.setIfInBounds_toArray, List.set_cons_zero, List.set_cons_succ, i64_w, i32_w]
                          rfl
                        refine pure_ (i := 3) (N := some 31) (v := ?_) (a' := ?_) #[true, false, true, true, false, false, false, false, false] rfl rfl (any_of HT_.out (by kernel_rfl)) (fun _ _ _ h => h) (Or.inl ⟨by rfl, ?_⟩) ?_ ?_
                        rotate_left
                        · intro w'
                          go_simp
                          with_reducible rfl
                        rotate_left
                        · simp only [Act.put, List.setIfInBounds_toArray, List.set_cons_zero, List.set_cons_succ, i64_w, i32_w]
                          rfl
                        refine pure_ (i := 4) (N := some 32) (v := ?_) (a' := ?_) #[true, false, true, true, true, false, false, false, false] rfl rfl (any_of HT_.out (by kernel_rfl)) (fun _ _ _ h => h) (Or.inl ⟨by rfl, ?_⟩) ?_ ?_
                        rotate_left
                        · intro w'
                          go_simp
                          with_reducible rfl
                        rotate_left
                        · simp only [Act.put, List.setIfInBounds_toArray, List.set_cons_zero, List.set_cons_succ, i64_w, i32_w]
                          rfl
                        refine take_ (i := 1) (N := some 29) (v := ?_) (a' := ?_) #[true, true, true, true, true, false, false, false, false] rfl rfl (take_ofW HT_.out HW_.out (by kernel_rfl)) (fun _ _ _ h => h) (Or.inl ⟨by rfl, ?_⟩) hHeld ?_ ?_
                        rotate_left
                        · rintro w' ⟨s0, s1, s2, s3, s4⟩
                          go_simp
                          with_reducible rfl
                        rotate_left
                        · simp only [Act.put, List.setIfInBounds_toArray, List.set_cons_zero, List.set_cons_succ, i64_w, i32_w]
                          rfl
                        refine take_ (i := 5) (N := some 33) (v := ?_) (a' := ?_) #[true, true, true, true, true, true, false, false, false] rfl rfl (take_ofW HT_.out HW_.out (by kernel_rfl)) (fun _ _ _ h => h) (Or.inl ⟨by rfl, ?_⟩) hHeld ?_ ?_
                        rotate_left
                        · rintro w' ⟨s0, s1, s2, s3, s4⟩
                          go_simp
                          with_reducible rfl
                        rotate_left
                        · simp only [Act.put, List.setIfInBounds_toArray, List.set_cons_zero, List.set_cons_succ, i64_w, i32_w]
                          rfl
                        refine join_ (σ := Nat) 1 #[true, true, true, true, true, true, true, true, false] (fun s_ => [(34, .agg #[.int .i64 t268, .string t269, .int .i64 t270, .int .i64 t271, .int .u32 t272, .int .i32 t273]), (11, .pointer (some ⟨s_, 0, none⟩))]) (fun s_ w' => (w'.cell? ⟨gb266, 0, none⟩ = some (.int .i64 x267000_2) ∧ w'.cell? ⟨gb266, 1, none⟩ = some (.int .i64 x267001_2) ∧ w'.cell? ⟨gb266, 2, none⟩ = some (.int .u32 x267002_2) ∧ w'.cell? ⟨gb266, 3, none⟩ = some (.int .i32 x267003_2) ∧ w'.cell? (ad267.add (x10_2).toNat) = some (.int .i32 (rd l1 x10_2))) ∧ (w'.heap[gb266]? = some (.cells #[.int .i64 x267000_2, .int .i64 x267001_2, .int .u32 x267002_2, .int .i32 x267003_2] 25 (0, 0))) ∧ (w'.heap[s_]? = some (.cells #[.int .i64 0, .string (⟨#[]⟩ : ByteArray), .int .i64 0, .int .i64 0, .int .u32 0, .int .i32 0] 27 (0, 0))) ∧ (w.heap.size ≤ s_) ∧ (w.heap.size ≤ s_) ∧ (gb266 ≠ s_) ∧ (s_ ≠ gb266) ∧ (Below w.heap.size w w')) ?_ ?_
                        rotate_left
                        · intro hCont
                          refine two_ (i := 6) (j := 7) (Ni := some 34) (Nj := some 11) #[true, true, true, true, true, true, true, false, false] #[true, true, true, true, true, true, false, true, false] rfl rfl rfl rfl (two_of HT_.out (by kernel_rfl)) (by decide) (by decide) (fun K hK => ?_) (fun K hK => ?_)
                          · skip
                            refine goes_ Try.func38 (by kernel_rfl) rfl #[.int .i64 x7_5, .agg #[.int .i64 x267000_2, .int .i64 x267001_2, .int .u32 x267002_2, .int .i32 x267003_2], .int .i32 (rd l1 x10_2)] (by rfl) rfl rfl (by (try simp only [List.map_toArray, List.map_cons, List.map_nil]); first | done | rfl | (simp only [List.length_drop, List.length_take]; rfl)) ?_
                            with_reducible refine (iso2022_Set.calls kj10 x7_5 x267000_2 x267001_2 x267002_2 x267003_2 (rd l1 x10_2) t268 t269 t270 t271 t272 t273 _ A16.out).mono ?_
                            rintro e w38 ⟨rfl, hb⟩
                            refine ⟨_, rfl, ?_⟩
                            have n0_ := Aside0.mk (blk_below (g := gb266) (o := .cells #[.int .i64 x267000_2, .int .i64 x267001_2, .int .u32 x267002_2, .int .i32 x267003_2] 25 (0, 0)) (by (with_reducible repeat (first | refine blk_drewN ?_ _ | refine blk_drew ?_ | refine blk_alloc ?_ _)); exact BK266.out) hb)
                            have n1_ := Aside0.mk (below_step (by repeat (first | (with_reducible first | exact HB.out | apply below_alloc | apply pw_below_drewN | apply below_drew1 | refine below_set ?_ GE266.out) | exact HB.out)) hb)
                            clear BK266
                            clear HB
                            have BK266 := n0_
                            have HB := n1_
                            clear n0_ n1_
                            (try clear hb)
                            (try clear hb2)
                            (try clear hk)
                            (try clear hi)
                            refine hK.out _ _ ⟨(blk_cell BK266.out 0).trans rfl, (blk_cell BK266.out 1).trans rfl, (blk_cell BK266.out 2).trans rfl, (blk_cell BK266.out 3).trans rfl, ((HB.out.cell (World.block_lt_of_cell? w _ hw267_0)).trans hw267_0)⟩ (fun hHeld => ?_)
                            clear hK K
                            refine norm_ (a' := ?_) ?_ ?_
                            rotate_left
                            · show Act.put _ (some 34) _ = _
                              simp only [Act.put, List.setIfInBounds_toArray, List.set_cons_zero, List.set_cons_succ, i64_w, i32_w]
                              rfl
                            refine one_ (i := 7) (N := some 11) #[true, true, true, true, true, true, true, true, false] rfl rfl (one_of HT_.out (by kernel_rfl)) (by decide) (fun K hK => ?_)
                            refine box_step ?hg (N := 11) ?hd (cs := #[.int .i64 0, .string (⟨#[]⟩ : ByteArray), .int .i64 0, .int .i64 0, .int .u32 0, .int .i32 0]) (t := 27) ?hr ?_; (case hd => rfl); (case hg => rfl); (case hr => first | (go_simp; done) | (go_simp; rfl))
                            intro gb274 hg w39 hbox hb
                            have n0_ := Aside0.mk (blk_below (g := gb266) (o := .cells #[.int .i64 x267000_2, .int .i64 x267001_2, .int .u32 x267002_2, .int .i32 x267003_2] 25 (0, 0)) (by (with_reducible repeat (first | refine blk_drewN ?_ _ | refine blk_drew ?_ | refine blk_alloc ?_ _)); exact BK266.out) hb)
                            have n1_ := Aside0.mk (below_step (by repeat (first | (with_reducible first | exact HB.out | apply below_alloc | apply pw_below_drewN | apply below_drew1 | refine below_set ?_ GE266.out) | exact HB.out)) hb)
                            have n2_ := Aside0.mk (hbox)
                            have n3_ := Aside0.mk ((by rw [hg]; exact (below_size (by repeat (first | (with_reducible first | exact HB.out | apply below_alloc | apply pw_below_drewN | apply below_drew1 | refine below_set ?_ GE266.out) | exact HB.out))) : w.heap.size ≤ gb274))
                            have n4_ := Aside0.mk ((by rw [hg]; exact (below_size (by repeat (first | (with_reducible first | exact HB.out | apply below_alloc | apply pw_below_drewN | apply below_drew1 | refine below_set ?_ GE266.out) | exact HB.out))) : w.heap.size ≤ gb274))
                            have n5_ := Aside0.mk ((by rw [hg]; exact Nat.ne_of_lt (blk_lt (g := gb266) (o := .cells #[.int .i64 x267000_2, .int .i64 x267001_2, .int .u32 x267002_2, .int .i32 x267003_2] 25 (0, 0)) (by (with_reducible repeat (first | refine blk_drewN ?_ _ | refine blk_drew ?_ | refine blk_alloc ?_ _)); exact BK266.out)) : gb266 ≠ gb274))
                            have n6_ := Aside0.mk ((by rw [hg]; exact Nat.ne_of_gt (blk_lt (g := gb266) (o := .cells #[.int .i64 x267000_2, .int .i64 x267001_2, .int .u32 x267002_2, .int .i32 x267003_2] 25 (0, 0)) (by (with_reducible repeat (first | refine blk_drewN ?_ _ | refine blk_drew ?_ | refine blk_alloc ?_ _)); exact BK266.out)) : gb274 ≠ gb266))
                            clear BK266
                            clear HB
                            have BK266 := n0_
                            have HB := n1_
                            have BK274 := n2_
                            have GW274 := n3_
                            have GE274 := n4_
                            have NB266_274 := n5_
                            have NB274_266 := n6_
                            clear n0_ n1_ n2_ n3_ n4_ n5_ n6_
                            clear hb hbox hg
                            refine hK.out _ _ ⟨(blk_cell BK266.out 0).trans rfl, (blk_cell BK266.out 1).trans rfl, (blk_cell BK266.out 2).trans rfl, (blk_cell BK266.out 3).trans rfl, ((HB.out.cell (World.block_lt_of_cell? w _ hw267_0)).trans hw267_0)⟩ (fun hHeld => ?_)
                            clear hK K
                            refine norm_ (a' := ?_) ?_ ?_
                            rotate_left
                            · show Act.put _ (some 11) _ = _
                              simp only [Act.put, List.setIfInBounds_toArray, List.set_cons_zero, List.set_cons_succ, i64_w, i32_w]
                              rfl
                            exact norm_ (by simp only [putAll, Act.put, List.setIfInBounds_toArray, List.set_cons_zero, List.set_cons_succ]) (hCont (gb274) _ ⟨hHeld, (by (with_reducible repeat (first | refine blk_drewN ?_ _ | refine blk_drew ?_ | refine blk_alloc ?_ _)); exact BK266.out), (by (with_reducible repeat (first | refine blk_drewN ?_ _ | refine blk_drew ?_ | refine blk_alloc ?_ _)); exact BK274.out), GW274.out, GE274.out, NB266_274.out, NB274_266.out, (by repeat (first | (with_reducible first | exact HB.out | apply below_alloc | apply pw_below_drewN | apply below_drew1 | refine below_set ?_ GE266.out | refine below_set ?_ GE274.out) | exact HB.out))⟩)
                          · skip
                            refine box_step ?hg (N := 11) ?hd (cs := #[.int .i64 0, .string (⟨#[]⟩ : ByteArray), .int .i64 0, .int .i64 0, .int .u32 0, .int .i32 0]) (t := 27) ?hr ?_; (case hd => rfl); (case hg => rfl); (case hr => first | (go_simp; done) | (go_simp; rfl))
                            intro gb274 hg w38 hbox hb
                            have n0_ := Aside0.mk (blk_below (g := gb266) (o := .cells #[.int .i64 x267000_2, .int .i64 x267001_2, .int .u32 x267002_2, .int .i32 x267003_2] 25 (0, 0)) (by (with_reducible repeat (first | refine blk_drewN ?_ _ | refine blk_drew ?_ | refine blk_alloc ?_ _)); exact BK266.out) hb)
                            have n1_ := Aside0.mk (below_step (by repeat (first | (with_reducible first | exact HB.out | apply below_alloc | apply pw_below_drewN | apply below_drew1 | refine below_set ?_ GE266.out) | exact HB.out)) hb)
                            have n2_ := Aside0.mk (hbox)
                            have n3_ := Aside0.mk ((by rw [hg]; exact (below_size (by repeat (first | (with_reducible first | exact HB.out | apply below_alloc | apply pw_below_drewN | apply below_drew1 | refine below_set ?_ GE266.out) | exact HB.out))) : w.heap.size ≤ gb274))
                            have n4_ := Aside0.mk ((by rw [hg]; exact (below_size (by repeat (first | (with_reducible first | exact HB.out | apply below_alloc | apply pw_below_drewN | apply below_drew1 | refine below_set ?_ GE266.out) | exact HB.out))) : w.heap.size ≤ gb274))
                            have n5_ := Aside0.mk ((by rw [hg]; exact Nat.ne_of_lt (blk_lt (g := gb266) (o := .cells #[.int .i64 x267000_2, .int .i64 x267001_2, .int .u32 x267002_2, .int .i32 x267003_2] 25 (0, 0)) (by (with_reducible repeat (first | refine blk_drewN ?_ _ | refine blk_drew ?_ | refine blk_alloc ?_ _)); exact BK266.out)) : gb266 ≠ gb274))
                            have n6_ := Aside0.mk ((by rw [hg]; exact Nat.ne_of_gt (blk_lt (g := gb266) (o := .cells #[.int .i64 x267000_2, .int .i64 x267001_2, .int .u32 x267002_2, .int .i32 x267003_2] 25 (0, 0)) (by (with_reducible repeat (first | refine blk_drewN ?_ _ | refine blk_drew ?_ | refine blk_alloc ?_ _)); exact BK266.out)) : gb274 ≠ gb266))
                            clear BK266
                            clear HB
                            have BK266 := n0_
                            have HB := n1_
                            have BK274 := n2_
                            have GW274 := n3_
                            have GE274 := n4_
                            have NB266_274 := n5_
                            have NB274_266 := n6_
                            clear n0_ n1_ n2_ n3_ n4_ n5_ n6_
                            clear hb hbox hg
                            refine hK.out _ _ ⟨(blk_cell BK266.out 0).trans rfl, (blk_cell BK266.out 1).trans rfl, (blk_cell BK266.out 2).trans rfl, (blk_cell BK266.out 3).trans rfl, ((HB.out.cell (World.block_lt_of_cell? w _ hw267_0)).trans hw267_0)⟩ (fun hHeld => ?_)
                            clear hK K
                            refine norm_ (a' := ?_) ?_ ?_
                            rotate_left
                            · show Act.put _ (some 11) _ = _
                              simp only [Act.put, List.setIfInBounds_toArray, List.set_cons_zero, List.set_cons_succ, i64_w, i32_w]
                              rfl
                            refine one_ (i := 6) (N := some 34) #[true, true, true, true, true, true, true, true, false] rfl rfl (one_of HT_.out (by kernel_rfl)) (by decide) (fun K hK => ?_)
                            refine goes_ Try.func38 (by kernel_rfl) rfl #[.int .i64 x7_5, .agg #[.int .i64 x267000_2, .int .i64 x267001_2, .int .u32 x267002_2, .int .i32 x267003_2], .int .i32 (rd l1 x10_2)] (by rfl) rfl rfl (by (try simp only [List.map_toArray, List.map_cons, List.map_nil]); first | done | rfl | (simp only [List.length_drop, List.length_take]; rfl)) ?_
                            with_reducible refine (iso2022_Set.calls kj10 x7_5 x267000_2 x267001_2 x267002_2 x267003_2 (rd l1 x10_2) t268 t269 t270 t271 t272 t273 _ A16.out).mono ?_
                            rintro e w39 ⟨rfl, hb⟩
                            refine ⟨_, rfl, ?_⟩
                            have n0_ := Aside0.mk (blk_below (g := gb266) (o := .cells #[.int .i64 x267000_2, .int .i64 x267001_2, .int .u32 x267002_2, .int .i32 x267003_2] 25 (0, 0)) (by (with_reducible repeat (first | refine blk_drewN ?_ _ | refine blk_drew ?_ | refine blk_alloc ?_ _)); exact BK266.out) hb)
                            have n1_ := Aside0.mk (blk_below (g := gb274) (o := .cells #[.int .i64 0, .string (⟨#[]⟩ : ByteArray), .int .i64 0, .int .i64 0, .int .u32 0, .int .i32 0] 27 (0, 0)) (by (with_reducible repeat (first | refine blk_drewN ?_ _ | refine blk_drew ?_ | refine blk_alloc ?_ _)); exact BK274.out) hb)
                            have n2_ := Aside0.mk (below_step (by repeat (first | (with_reducible first | exact HB.out | apply below_alloc | apply pw_below_drewN | apply below_drew1 | refine below_set ?_ GE266.out | refine below_set ?_ GE274.out) | exact HB.out)) hb)
                            clear BK266
                            clear BK274
                            clear HB
                            have BK266 := n0_
                            have BK274 := n1_
                            have HB := n2_
                            clear n0_ n1_ n2_
                            (try clear hb)
                            (try clear hb2)
                            (try clear hk)
                            (try clear hi)
                            refine hK.out _ _ ⟨(blk_cell BK266.out 0).trans rfl, (blk_cell BK266.out 1).trans rfl, (blk_cell BK266.out 2).trans rfl, (blk_cell BK266.out 3).trans rfl, ((HB.out.cell (World.block_lt_of_cell? w _ hw267_0)).trans hw267_0)⟩ (fun hHeld => ?_)
                            clear hK K
                            refine norm_ (a' := ?_) ?_ ?_
                            rotate_left
                            · show Act.put _ (some 34) _ = _
                              simp only [Act.put, List.setIfInBounds_toArray, List.set_cons_zero, List.set_cons_succ, i64_w, i32_w]
                              rfl
                            exact norm_ (by simp only [putAll, Act.put, List.setIfInBounds_toArray, List.set_cons_zero, List.set_cons_succ]) (hCont (gb274) _ ⟨hHeld, (by (with_reducible repeat (first | refine blk_drewN ?_ _ | refine blk_drew ?_ | refine blk_alloc ?_ _)); exact BK266.out), (by (with_reducible repeat (first | refine blk_drewN ?_ _ | refine blk_drew ?_ | refine blk_alloc ?_ _)); exact BK274.out), GW274.out, GE274.out, NB266_274.out, NB274_266.out, (by repeat (first | (with_reducible first | exact HB.out | apply below_alloc | apply pw_below_drewN | apply below_drew1 | refine below_set ?_ GE266.out | refine below_set ?_ GE274.out) | exact HB.out))⟩)
                        rintro gb274 w40 ⟨hS_, h0_, h1_, h2_, h3_, h4_, h5_, h6_⟩
                        have n0_ : Aside0 (w40.heap[gb266]? = some (.cells #[.int .i64 x267000_2, .int .i64 x267001_2, .int .u32 x267002_2, .int .i32 x267003_2] 25 (0, 0))) := ⟨h0_⟩
                        have n1_ : Aside0 (w40.heap[gb274]? = some (.cells #[.int .i64 0, .string (⟨#[]⟩ : ByteArray), .int .i64 0, .int .i64 0, .int .u32 0, .int .i32 0] 27 (0, 0))) := ⟨h1_⟩
                        have n2_ : Aside0 (w.heap.size ≤ gb274) := ⟨h2_⟩
                        have n3_ : Aside0 (w.heap.size ≤ gb274) := ⟨h3_⟩
                        have n4_ : Aside0 (gb266 ≠ gb274) := ⟨h4_⟩
                        have n5_ : Aside0 (gb274 ≠ gb266) := ⟨h5_⟩
                        have n6_ : Aside0 (Below w.heap.size w w40) := ⟨h6_⟩
                        clear BK266
                        clear HB
                        clear h0_ h1_ h2_ h3_ h4_ h5_ h6_
                        have BK266 := n0_
                        have BK274 := n1_
                        have GW274 := n2_
                        have GE274 := n3_
                        have NB266_274 := n4_
                        have NB274_266 := n5_
                        have HB := n6_
                        clear n0_ n1_ n2_ n3_ n4_ n5_ n6_
                        have hHeld : w40.cell? ⟨gb266, 0, none⟩ = some (.int .i64 x267000_2) ∧ w40.cell? ⟨gb266, 1, none⟩ = some (.int .i64 x267001_2) ∧ w40.cell? ⟨gb266, 2, none⟩ = some (.int .u32 x267002_2) ∧ w40.cell? ⟨gb266, 3, none⟩ = some (.int .i32 x267003_2) ∧ w40.cell? (ad267.add (x10_2).toNat) = some (.int .i32 (rd l1 x10_2)) := hS_
                        refine norm_ (a' := ?_) ?_ ?_
                        rotate_left
                        · simp only [putAll, Act.put, List.setIfInBounds_toArray, List.set_cons_zero, List.set_cons_succ]
                          rfl
                        refine one_ (i := 8) (N := none) #[true, true, true, true, true, true, true, true, true] rfl rfl (one_of HT_.out (by kernel_rfl)) (by decide) (fun K hK => ?_)
                        have hs41 : w40.cell? ⟨gb274, 0, none⟩ = some (.int .i64 0) := (blk_cell BK274.out 0).trans rfl
                        have hfs41 := blk_frozen BK274.out 0
                        have hns41_0 := NB266_274.out
                        have hms41_0 := NB274_266.out
                        have hs42 : w40.cell? ⟨gb274, 1, none⟩ = some (.string (⟨#[]⟩ : ByteArray)) := (blk_cell BK274.out 1).trans rfl
                        have hfs42 := blk_frozen BK274.out 1
                        have hns42_0 := NB266_274.out
                        have hms42_0 := NB274_266.out
                        have hs43 : w40.cell? ⟨gb274, 2, none⟩ = some (.int .i64 0) := (blk_cell BK274.out 2).trans rfl
                        have hfs43 := blk_frozen BK274.out 2
                        have hns43_0 := NB266_274.out
                        have hms43_0 := NB274_266.out
                        have hs44 : w40.cell? ⟨gb274, 3, none⟩ = some (.int .i64 0) := (blk_cell BK274.out 3).trans rfl
                        have hfs44 := blk_frozen BK274.out 3
                        have hns44_0 := NB266_274.out
                        have hms44_0 := NB274_266.out
                        have hs45 : w40.cell? ⟨gb274, 4, none⟩ = some (.int .u32 0) := (blk_cell BK274.out 4).trans rfl
                        have hfs45 := blk_frozen BK274.out 4
                        have hns45_0 := NB266_274.out
                        have hms45_0 := NB274_266.out
                        have hs46 : w40.cell? ⟨gb274, 5, none⟩ = some (.int .i32 0) := (blk_cell BK274.out 5).trans rfl
                        have hfs46 := blk_frozen BK274.out 5
                        have hns46_0 := NB266_274.out
                        have hms46_0 := NB274_266.out
                        refine skip_ (w1 := ?_) (by rfl) rfl ?_ ?_
                        rotate_left
                        · go_simp
                          rfl
                        refine hK.out _ _ ⟨((cell_far (p := ⟨gb274, _, none⟩) NB266_274.out _).trans (((cell_far (p := ⟨gb274, _, none⟩) NB266_274.out _).trans (((cell_far (p := ⟨gb274, _, none⟩) NB266_274.out _).trans (((cell_far (p := ⟨gb274, _, none⟩) NB266_274.out _).trans (((cell_far (p := ⟨gb274, _, none⟩) NB266_274.out _).trans (((cell_far (p := ⟨gb274, _, none⟩) NB266_274.out _).trans (hHeld.1)))))))))))), ((cell_far (p := ⟨gb274, _, none⟩) NB266_274.out _).trans (((cell_far (p := ⟨gb274, _, none⟩) NB266_274.out _).trans (((cell_far (p := ⟨gb274, _, none⟩) NB266_274.out _).trans (((cell_far (p := ⟨gb274, _, none⟩) NB266_274.out _).trans (((cell_far (p := ⟨gb274, _, none⟩) NB266_274.out _).trans (((cell_far (p := ⟨gb274, _, none⟩) NB266_274.out _).trans (hHeld.2.1)))))))))))), ((cell_far (p := ⟨gb274, _, none⟩) NB266_274.out _).trans (((cell_far (p := ⟨gb274, _, none⟩) NB266_274.out _).trans (((cell_far (p := ⟨gb274, _, none⟩) NB266_274.out _).trans (((cell_far (p := ⟨gb274, _, none⟩) NB266_274.out _).trans (((cell_far (p := ⟨gb274, _, none⟩) NB266_274.out _).trans (((cell_far (p := ⟨gb274, _, none⟩) NB266_274.out _).trans (hHeld.2.2.1)))))))))))), ((cell_far (p := ⟨gb274, _, none⟩) NB266_274.out _).trans (((cell_far (p := ⟨gb274, _, none⟩) NB266_274.out _).trans (((cell_far (p := ⟨gb274, _, none⟩) NB266_274.out _).trans (((cell_far (p := ⟨gb274, _, none⟩) NB266_274.out _).trans (((cell_far (p := ⟨gb274, _, none⟩) NB266_274.out _).trans (((cell_far (p := ⟨gb274, _, none⟩) NB266_274.out _).trans (hHeld.2.2.2.1)))))))))))), ((cell_far (p := ⟨gb274, _, none⟩) (by first | exact Nat.ne_of_lt (Nat.lt_of_lt_of_le (by have := World.block_lt_of_cell? _ _ hw267_0; first | rwa [add_block] at this | exact this) GW274.out) | (rw [add_block]; exact Nat.ne_of_lt (Nat.lt_of_lt_of_le (by have := World.block_lt_of_cell? _ _ hw267_0; first | rwa [add_block] at this | exact this) GW274.out)) | (show (Addr.add _ _).block ≠ _; rw [add_block]; exact Nat.ne_of_lt (Nat.lt_of_lt_of_le (by have := World.block_lt_of_cell? _ _ hw267_0; first | rwa [add_block] at this | exact this) GW274.out)) | (dsimp only; exact Nat.ne_of_lt (Nat.lt_of_lt_of_le (by have := World.block_lt_of_cell? _ _ hw267_0; first | rwa [add_block] at this | exact this) GW274.out))) _).trans (((cell_far (p := ⟨gb274, _, none⟩) (by first | exact Nat.ne_of_lt (Nat.lt_of_lt_of_le (by have := World.block_lt_of_cell? _ _ hw267_0; first | rwa [add_block] at this | exact this) GW274.out) | (rw [add_block]; exact Nat.ne_of_lt (Nat.lt_of_lt_of_le (by have := World.block_lt_of_cell? _ _ hw267_0; first | rwa [add_block] at this | exact this) GW274.out)) | (show (Addr.add _ _).block ≠ _; rw [add_block]; exact Nat.ne_of_lt (Nat.lt_of_lt_of_le (by have := World.block_lt_of_cell? _ _ hw267_0; first | rwa [add_block] at this | exact this) GW274.out)) | (dsimp only; exact Nat.ne_of_lt (Nat.lt_of_lt_of_le (by have := World.block_lt_of_cell? _ _ hw267_0; first | rwa [add_block] at this | exact this) GW274.out))) _).trans (((cell_far (p := ⟨gb274, _, none⟩) (by first | exact Nat.ne_of_lt (Nat.lt_of_lt_of_le (by have := World.block_lt_of_cell? _ _ hw267_0; first | rwa [add_block] at this | exact this) GW274.out) | (rw [add_block]; exact Nat.ne_of_lt (Nat.lt_of_lt_of_le (by have := World.block_lt_of_cell? _ _ hw267_0; first | rwa [add_block] at this | exact this) GW274.out)) | (show (Addr.add _ _).block ≠ _; rw [add_block]; exact Nat.ne_of_lt (Nat.lt_of_lt_of_le (by have := World.block_lt_of_cell? _ _ hw267_0; first | rwa [add_block] at this | exact this) GW274.out)) | (dsimp only; exact Nat.ne_of_lt (Nat.lt_of_lt_of_le (by have := World.block_lt_of_cell? _ _ hw267_0; first | rwa [add_block] at this | exact this) GW274.out))) _).trans (((cell_far (p := ⟨gb274, _, none⟩) (by first | exact Nat.ne_of_lt (Nat.lt_of_lt_of_le (by have := World.block_lt_of_cell? _ _ hw267_0; first | rwa [add_block] at this | exact this) GW274.out) | (rw [add_block]; exact Nat.ne_of_lt (Nat.lt_of_lt_of_le (by have := World.block_lt_of_cell? _ _ hw267_0; first | rwa [add_block] at this | exact this) GW274.out)) | (show (Addr.add _ _).block ≠ _; rw [add_block]; exact Nat.ne_of_lt (Nat.lt_of_lt_of_le (by have := World.block_lt_of_cell? _ _ hw267_0; first | rwa [add_block] at this | exact this) GW274.out)) | (dsimp only; exact Nat.ne_of_lt (Nat.lt_of_lt_of_le (by have := World.block_lt_of_cell? _ _ hw267_0; first | rwa [add_block] at this | exact this) GW274.out))) _).trans (((cell_far (p := ⟨gb274, _, none⟩) (by first | exact Nat.ne_of_lt (Nat.lt_of_lt_of_le (by have := World.block_lt_of_cell? _ _ hw267_0; first | rwa [add_block] at this | exact this) GW274.out) | (rw [add_block]; exact Nat.ne_of_lt (Nat.lt_of_lt_of_le (by have := World.block_lt_of_cell? _ _ hw267_0; first | rwa [add_block] at this | exact this) GW274.out)) | (show (Addr.add _ _).block ≠ _; rw [add_block]; exact Nat.ne_of_lt (Nat.lt_of_lt_of_le (by have := World.block_lt_of_cell? _ _ hw267_0; first | rwa [add_block] at this | exact this) GW274.out)) | (dsimp only; exact Nat.ne_of_lt (Nat.lt_of_lt_of_le (by have := World.block_lt_of_cell? _ _ hw267_0; first | rwa [add_block] at this | exact this) GW274.out))) _).trans (((cell_far (p := ⟨gb274, _, none⟩) (by first | exact Nat.ne_of_lt (Nat.lt_of_lt_of_le (by have := World.block_lt_of_cell? _ _ hw267_0; first | rwa [add_block] at this | exact this) GW274.out) | (rw [add_block]; exact Nat.ne_of_lt (Nat.lt_of_lt_of_le (by have := World.block_lt_of_cell? _ _ hw267_0; first | rwa [add_block] at this | exact this) GW274.out)) | (show (Addr.add _ _).block ≠ _; rw [add_block]; exact Nat.ne_of_lt (Nat.lt_of_lt_of_le (by have := World.block_lt_of_cell? _ _ hw267_0; first | rwa [add_block] at this | exact this) GW274.out)) | (dsimp only; exact Nat.ne_of_lt (Nat.lt_of_lt_of_le (by have := World.block_lt_of_cell? _ _ hw267_0; first | rwa [add_block] at this | exact this) GW274.out))) _).trans (hHeld.2.2.2.2))))))))))))⟩ (fun hHeld => ?_)
                        clear hK K
                        refine done_ (done_of HT_.out (by kernel_rfl)) ?_
                        have hnb47 := NB274_266.out
                        have hnc47 := NB266_274.out
                        have hcz48_0 : w40.cell? ⟨gb274, 0, none⟩ = some (.int .i64 0) := (blk_cell BK274.out 0).trans rfl
                        have hcz48_1 : w40.cell? ⟨gb274, 1, none⟩ = some (.string (⟨#[]⟩ : ByteArray)) := (blk_cell BK274.out 1).trans rfl
                        have hcz48_2 : w40.cell? ⟨gb274, 2, none⟩ = some (.int .i64 0) := (blk_cell BK274.out 2).trans rfl
                        have hcz48_3 : w40.cell? ⟨gb274, 3, none⟩ = some (.int .i64 0) := (blk_cell BK274.out 3).trans rfl
                        have hcz48_4 : w40.cell? ⟨gb274, 4, none⟩ = some (.int .u32 0) := (blk_cell BK274.out 4).trans rfl
                        have hcz48_5 : w40.cell? ⟨gb274, 5, none⟩ = some (.int .i32 0) := (blk_cell BK274.out 5).trans rfl
                        have hfz48_0 := blk_frozen BK274.out 0
                        have hfz48_1 := blk_frozen BK274.out 1
                        have hfz48_2 := blk_frozen BK274.out 2
                        have hfz48_3 := blk_frozen BK274.out 3
                        have hfz48_4 := blk_frozen BK274.out 4
                        have hfz48_5 := blk_frozen BK274.out 5
                        try go_wp2
                        go_roundg kj10
                        case measure => have := HJ5.out; have := HK2.out; have := HJ10.out; omega
                        case rel => exact ⟨(x9_2), (wrap64 (x10_2 + 1)), (x267000_2), (x267001_2), (x267002_2), (x267003_2), (by first | rfl | (simp; done) | (simp [*]; done)), (by first | rfl | (simp; done) | (simp [*]; done)), H', ⟨by have := HJ5.out; have := HK2.out; have := HJ10.out; omega⟩, ⟨by (with_reducible repeat (first | refine blk_drewN ?_ _ | refine blk_drew ?_ | refine blk_alloc ?_ _)); refine blk_far ?_ NB266_274.out _; (with_reducible repeat (first | refine blk_drewN ?_ _ | refine blk_drew ?_ | refine blk_alloc ?_ _)); refine blk_far ?_ NB266_274.out _; (with_reducible repeat (first | refine blk_drewN ?_ _ | refine blk_drew ?_ | refine blk_alloc ?_ _)); refine blk_far ?_ NB266_274.out _; (with_reducible repeat (first | refine blk_drewN ?_ _ | refine blk_drew ?_ | refine blk_alloc ?_ _)); refine blk_far ?_ NB266_274.out _; (with_reducible repeat (first | refine blk_drewN ?_ _ | refine blk_drew ?_ | refine blk_alloc ?_ _)); refine blk_far ?_ NB266_274.out _; (with_reducible repeat (first | refine blk_drewN ?_ _ | refine blk_drew ?_ | refine blk_alloc ?_ _)); refine blk_far ?_ NB266_274.out _; (with_reducible repeat (first | refine blk_drewN ?_ _ | refine blk_drew ?_ | refine blk_alloc ?_ _)); exact BK266.out⟩, ⟨by repeat (first | (with_reducible first | exact HB.out | apply below_alloc | apply pw_below_drewN | apply below_drew1 | refine below_set ?_ GE266.out | refine below_set ?_ GE274.out) | exact HB.out)⟩⟩
                    · rw [if_neg c15] at H
                      exact absurd H (by simp)
                  · rw [if_neg c14] at H
                    exact absurd H (by simp)
                · replace c13 := Bool.eq_false_iff.mpr c13
                  subst c13
                  have H1 : (if (IntKind.u64.wrap (wrap64 ((x9_2.size : Int) + 1))) = 0 then (none) else (if 0 ≤ (wrap64 (Int.tmod (IntKind.u64.wrap (a2)) (IntKind.u64.wrap (wrap64 ((x9_2.size : Int) + 1))))) then (if (wrap64 (Int.tmod (IntKind.u64.wrap (a2)) (IntKind.u64.wrap (wrap64 ((x9_2.size : Int) + 1))))) ≤ (x9_2.size : Int) then ((strbytes.f (x9_2.extract 0 ((wrap64 (Int.tmod (IntKind.u64.wrap (a2)) (IntKind.u64.wrap (wrap64 ((x9_2.size : Int) + 1))))) : Int).toNat)).bind fun t275 => (dragomanlaw21_Iso2022Cuts.l1 kj10 x7_5 t275 0 0 0 0)) else (none)) else (none))) = some r := by rw [if_neg (show ¬ (false = true) by decide)] at H; exact H
                  clear H
                  have H := H1
                  clear H1
                  by_cases c49 : (IntKind.u64.wrap (wrap64 ((x9_2.size : Int) + 1))) = 0
                  · rw [if_pos c49] at H
                    exact absurd H (by simp)
                  · rw [if_neg c49] at H
                    have c49b0 : ((IntKind.u64.wrap (wrap64 ((x9_2.size : Int) + 1))) == 0) = false := beq_eq_false_iff_ne.mpr c49
                    have c49b1 : ((IntKind.u64.wrap (wrap64 ((x9_2.size : Int) + 1))) != 0) = true := bne_iff_ne.mpr c49
                    obtain ⟨ji50, hji50⟩ : ∃ j_ : Int, (wrap64 (Int.tmod (IntKind.u64.wrap (a2)) (IntKind.u64.wrap (wrap64 ((x9_2.size : Int) + 1))))) = j_ := ⟨_, rfl⟩
                    replace H : (if 0 ≤ (ji50) then (if (ji50) ≤ (x9_2.size : Int) then ((strbytes.f (x9_2.extract 0 ((ji50) : Int).toNat)).bind fun t275 => (dragomanlaw21_Iso2022Cuts.l1 kj10 x7_5 t275 0 0 0 0)) else (none)) else (none)) = some r := by first | (rw [hji50] at H; exact H) | (simp only [hji50] at H ⊢; exact H)
                    have hji50w : (IntKind.i64.wrap (Int.tmod (IntKind.u64.wrap (a2)) (IntKind.u64.wrap (wrap64 ((x9_2.size : Int) + 1))))) = ji50 := (i64_w _).trans hji50
                    by_cases c51 : 0 ≤ (ji50)
                    · rw [if_pos c51] at H
                      have c51b0 := eq_true c51
                      have c51b1 : decide (0 ≤ (ji50)) = true := decide_eq_true c51
                      clear c51
                      by_cases c52 : (ji50) ≤ (x9_2.size : Int)
                      · rw [if_pos c52] at H
                        have c52b0 := eq_true c52
                        have c52b1 : decide ((ji50) ≤ (x9_2.size : Int)) = true := decide_eq_true c52
                        clear c52
                        replace H := Option.bind_eq_some_iff.mp H
                        obtain ⟨t275, A530, H⟩ := H
                        replace H : (dragomanlaw21_Iso2022Cuts.l1 kj10 x7_5 t275 0 0 0 0) = some r := H
                        have A53 := Aside0.mk A530
                        clear A530
                        have H' := Aside0.mk H
                        clear H
                        go_wp2_with (first | ((with_reducible refine gate_conv rfl ?_); refine convL_ (some 54) rfl rfl (x9_2.extract 0 ((ji50) : Int).toNat) rfl (by first | rfl | (simp; done)) ?_; (with_reducible refine (strbytes.calls (x9_2.extract 0 ((ji50) : Int).toNat) t275 _ A53.out).mono ?_); rintro e w54 ⟨v276, rfl, ho0, hb⟩; refine ⟨_, rfl, ?_⟩; have n0_ := Aside0.mk (Kd.V_lower (Kd.V_mono (ok' := fun k_ => k_ ≠ gb266) ho0 (fun k_ hk_ => (Kd.freshB (g := gb266) (o := .cells #[.int .i64 x267000_2, .int .i64 x267001_2, .int .u32 x267002_2, .int .i32 x267003_2] 25 (0, 0)) (by (with_reducible repeat (first | refine blk_drewN ?_ _ | refine blk_drew ?_ | refine blk_alloc ?_ _)); exact BK266.out) k_ hk_))) (below_size (by repeat (first | (with_reducible first | exact HB.out | apply below_alloc | apply pw_below_drewN | apply below_drew1 | refine below_set ?_ GE266.out) | exact HB.out)))); have n1_ := Aside0.mk (blk_below (g := gb266) (o := .cells #[.int .i64 x267000_2, .int .i64 x267001_2, .int .u32 x267002_2, .int .i32 x267003_2] 25 (0, 0)) (by (with_reducible repeat (first | refine blk_drewN ?_ _ | refine blk_drew ?_ | refine blk_alloc ?_ _)); exact BK266.out) hb); have n2_ := Aside0.mk (below_step (by repeat (first | (with_reducible first | exact HB.out | apply below_alloc | apply pw_below_drewN | apply below_drew1 | refine below_set ?_ GE266.out) | exact HB.out)) hb); clear BK266; clear HB; have HO277 := n0_; have BK266 := n1_; have HB := n2_; clear n0_ n1_ n2_; (try clear hb); (try clear hb2); (try clear hk); (try clear hi); (try clear ho0); have hcz55_0 : w54.cell? ⟨gb266, 0, none⟩ = some (.int .i64 x267000_2) := (blk_cell BK266.out 0).trans rfl; have hcz55_1 : w54.cell? ⟨gb266, 1, none⟩ = some (.int .i64 x267001_2) := (blk_cell BK266.out 1).trans rfl; have hcz55_2 : w54.cell? ⟨gb266, 2, none⟩ = some (.int .u32 x267002_2) := (blk_cell BK266.out 2).trans rfl; have hcz55_3 : w54.cell? ⟨gb266, 3, none⟩ = some (.int .i32 x267003_2) := (blk_cell BK266.out 3).trans rfl; have hfz55_0 := blk_frozen BK266.out 0; have hfz55_1 := blk_frozen BK266.out 1; have hfz55_2 := blk_frozen BK266.out 2; have hfz55_3 := blk_frozen BK266.out 3))
                        go_loopg [12] kj10 (fun kq v12 w' => ∃ (x12_4 : List Int) (x267000_4 : Int) (x267001_4 : Int) (x267002_4 : Int) (x267003_4 : Int), Aside0 (dragomanlaw21_Iso2022Cuts.l1 kq x7_5 x12_4 x267000_4 x267001_4 x267002_4 x267003_4 = some r) ∧ Aside0 (kq ≤ kj10) ∧ Aside0 (Kd.V (Kd.int .u8) 5 w' w.heap.size (fun k_ => k_ ≠ gb266) v12 x12_4) ∧ Aside0 (w'.heap[gb266]? = some (.cells #[.int .i64 x267000_4, .int .i64 x267001_4, .int .u32 x267002_4, .int .i32 x267003_4] 25 (0, 0))) ∧ Aside0 (Below w.heap.size w w'))
                        case atStart => exact ⟨(t275), (0), (0), (0), (0), H', ⟨Nat.le_refl _⟩, ⟨by (with_reducible repeat (first | apply Kd.V_alloc | apply Kd.V_drewN | apply Kd.V_drew)); exact Kd.V_mono (Kd.V_far (p := ⟨gb266, 3, none⟩) (Kd.V_far (p := ⟨gb266, 2, none⟩) (Kd.V_far (p := ⟨gb266, 1, none⟩) (Kd.V_far (p := ⟨gb266, 0, none⟩) (Kd.V_mono HO277.out (fun k_ hk => (⟨hk, hk⟩ : _ ∧ k_ ≠ gb266))) (fun _ hk => hk.2) (.int .i64 0)) (fun _ hk => hk.2) (.int .i64 0)) (fun _ hk => hk.2) (.int .u32 0)) (fun _ hk => hk.2) (.int .i32 0)) (fun _ hk => hk.1)⟩, ⟨by (with_reducible repeat (first | refine blk_drewN ?_ _ | refine blk_drew ?_ | refine blk_alloc ?_ _)); refine blk_put (cs := #[.int .i64 0, .int .i64 0, .int .u32 0, .int .i32 x267003_2]) ?_ 3 _ rfl; (with_reducible repeat (first | refine blk_drewN ?_ _ | refine blk_drew ?_ | refine blk_alloc ?_ _)); refine blk_put (cs := #[.int .i64 0, .int .i64 0, .int .u32 x267002_2, .int .i32 x267003_2]) ?_ 2 _ rfl; (with_reducible repeat (first | refine blk_drewN ?_ _ | refine blk_drew ?_ | refine blk_alloc ?_ _)); refine blk_put (cs := #[.int .i64 0, .int .i64 x267001_2, .int .u32 x267002_2, .int .i32 x267003_2]) ?_ 1 _ rfl; (with_reducible repeat (first | refine blk_drewN ?_ _ | refine blk_drew ?_ | refine blk_alloc ?_ _)); refine blk_put (cs := #[.int .i64 x267000_2, .int .i64 x267001_2, .int .u32 x267002_2, .int .i32 x267003_2]) ?_ 0 _ rfl; (with_reducible repeat (first | refine blk_drewN ?_ _ | refine blk_drew ?_ | refine blk_alloc ?_ _)); exact BK266.out⟩, ⟨by repeat (first | (with_reducible first | exact HB.out | apply below_alloc | apply pw_below_drewN | apply below_drew1 | refine below_set ?_ GE266.out) | exact HB.out)⟩⟩
                        case round =>
                          clear H'
                          try clear c1
                          try clear c2
                          try clear p2
                          try clear q2
                          try clear hx2
                          try clear c3
                          try clear c4
                          try clear c5
                          try clear p6
                          try clear c10
                          try clear c13
                          try clear c14
                          try clear c15
                          try clear c17
                          try clear c17b0
                          try clear c17b1
                          try clear c18
                          try clear p26
                          try clear q26
                          try clear hx26
                          try clear c29
                          try clear c38
                          try clear c47
                          try clear c49
                          try clear c49b0
                          try clear c49b1
                          try clear c51
                          try clear c51b0
                          try clear c51b1
                          try clear c52
                          try clear c52b0
                          try clear c52b1
                          try clear hcz30_0
                          try clear hcz30_1
                          try clear hcz30_2
                          try clear hcz30_3
                          try clear hcz30_4
                          try clear hcz30_5
                          try clear hcz48_0
                          try clear hcz48_1
                          try clear hcz48_2
                          try clear hcz48_3
                          try clear hcz48_4
                          try clear hcz48_5
                          try clear hcz55_0
                          try clear hcz55_1
                          try clear hcz55_2
                          try clear hcz55_3
                          try clear hfz30_0
                          try clear hfz30_1
                          try clear hfz30_2
                          try clear hfz30_3
                          try clear hfz30_4
                          try clear hfz30_5
                          try clear hfz48_0
                          try clear hfz48_1
                          try clear hfz48_2
                          try clear hfz48_3
                          try clear hfz48_4
                          try clear hfz48_5
                          try clear hfz55_0
                          try clear hfz55_1
                          try clear hfz55_2
                          try clear hfz55_3
                          try clear hx267_0
                          try clear p267
                          try clear q267
                          obtain ⟨x12_4, x267000_4, x267001_4, x267002_4, x267003_4, HA, HK4, HO_12, BK266, HB⟩ := hrel
                          cases gk with
                          | zero => exact absurd HA.out (by simp [dragomanlaw21_Iso2022Cuts.l1])
                          | succ k4 =>
                            have H := HA.out
                            clear HA
                            simp only [dragomanlaw21_Iso2022Cuts.l1] at H
                            by_cases c56 : (x12_4.length : Int) > 0
                            · rw [if_pos c56] at H
                              have c56b0 : decide (0 < (x12_4.length : Int)) = true := decide_eq_true c56
                              have c56b1 : decide (0 < x12_4.length) = true := decide_eq_true (by omega)
                              clear c56
                              replace H := Option.bind_eq_some_iff.mp H
                              obtain ⟨⟨t278, t279, t280, t281, t282, t283, t284, t285, t286⟩, A570, H⟩ := H
                              replace H : (if t278 = 1 then (some (decide ((x12_4.length : Int) < 4))) else (if t278 = 0 then (if t279 < 1 then (some false) else (if t279 > (x12_4.length : Int) then (some false) else (if 0 ≤ t279 then (if t279 ≤ (x12_4.length : Int) then (dragomanlaw21_Iso2022Cuts.l1 k4 x7_5 (x12_4.drop (t279 : Int).toNat) t283 t284 t285 t286) else (none)) else (none)))) else (some false))) = some r := H
                              have A57 := Aside0.mk A570
                              clear A570
                              by_cases c58 : t278 = 1
                              · rw [if_pos c58] at H
                                have c58b0 : (t278 == 1) = true := beq_iff_eq.mpr c58
                                have c58b1 : (t278 != 1) = false := bne_eq_false_iff_eq.mpr c58
                                clear c58
                                obtain rfl := Option.some.inj H
                                obtain ⟨Ao59, co59, eo59⟩ := Kd.V_slice HO_12.out
                                subst eo59
                                have hcz60_0 : wr.cell? ⟨gb266, 0, none⟩ = some (.int .i64 x267000_4) := (blk_cell BK266.out 0).trans rfl
                                have hcz60_1 : wr.cell? ⟨gb266, 1, none⟩ = some (.int .i64 x267001_4) := (blk_cell BK266.out 1).trans rfl
                                have hcz60_2 : wr.cell? ⟨gb266, 2, none⟩ = some (.int .u32 x267002_4) := (blk_cell BK266.out 2).trans rfl
                                have hcz60_3 : wr.cell? ⟨gb266, 3, none⟩ = some (.int .i32 x267003_4) := (blk_cell BK266.out 3).trans rfl
                                have hfz60_0 := blk_frozen BK266.out 0
                                have hfz60_1 := blk_frozen BK266.out 1
                                have hfz60_2 := blk_frozen BK266.out 2
                                have hfz60_3 := blk_frozen BK266.out 3
                                go_wp2_with (first | ((with_reducible refine gate_callee (f := 32) rfl ?_); refine goesL_ (some 62) rfl rfl Try.func32 (by kernel_rfl) rfl #[.int .i64 x7_5, .agg #[.int .i64 x267000_4, .int .i64 x267001_4, .int .u32 x267002_4, .int .i32 x267003_4], .slice Ao59 x12_4.length co59] rfl (by (try simp only [List.map_toArray, List.map_cons, List.map_nil]); first | done | rfl | (simp only [List.length_drop, List.length_take]; rfl)) ?_; (with_reducible refine (iso2022_Get.calls k4 x7_5 x267000_4 x267001_4 x267002_4 x267003_4 _ _ x12_4 t278 t279 t280 t281 t282 t283 t284 t285 t286 _ ?side1 ?side2 A57.out).mono ?_); (case side1 => repeat (first | exact (Kd.V_reads' HO_12.out).2.2 | (with_reducible refine Kd.C_alloc ?_ _) | (with_reducible refine Kd.C_drewN ?_ _) | (with_reducible refine Kd.C_drew ?_))); (case side2 => exact (Kd.V_reads' HO_12.out).2.1); rintro e w61 ⟨rfl, hb⟩; refine ⟨_, rfl, ?_⟩; have n0_ := Aside0.mk (Kd.V_below (by (with_reducible repeat (first | apply Kd.V_alloc | apply Kd.V_drewN | apply Kd.V_drew)); exact HO_12.out) hb); have n1_ := Aside0.mk (blk_below (g := gb266) (o := .cells #[.int .i64 x267000_4, .int .i64 x267001_4, .int .u32 x267002_4, .int .i32 x267003_4] 25 (0, 0)) (by (with_reducible repeat (first | refine blk_drewN ?_ _ | refine blk_drew ?_ | refine blk_alloc ?_ _)); exact BK266.out) hb); have n2_ := Aside0.mk (below_step (by repeat (first | (with_reducible first | exact HB.out | apply below_alloc | apply pw_below_drewN | apply below_drew1 | refine below_set ?_ GE266.out) | exact HB.out)) hb); clear HO_12; clear BK266; clear HB; have HO_12 := n0_; have BK266 := n1_; have HB := n2_; clear n0_ n1_ n2_; (try clear hb); (try clear hb2); (try clear hk); (try clear hi)) | ((with_reducible refine gate_dst (N := 13) rfl ?_); (try (refine gate_guard (by rfl) ?_; dsimp only)); refine box_event ?hg (N := 13) ?hd (cs := #[.int .i64 0, .int .i64 0, .int .i64 0, .int .i32 0, .int .i32 0, .int .i64 0, .int .i64 0, .int .u32 0, .int .i32 0]) (t := 36) ?hr ?_; (case hd => rfl); (case hg => rfl); (case hr => first | (go_simp; done) | (go_simp; rfl)); intro gb287 hg w62 hbox hb; have n0_ := Aside0.mk (Kd.V_below (Kd.V_elderB (by (with_reducible repeat (first | apply Kd.V_alloc | apply Kd.V_drewN | apply Kd.V_drew)); exact HO_12.out) gb287 (Nat.le_of_eq hg.symm)) hb); have n1_ := Aside0.mk (blk_below (g := gb266) (o := .cells #[.int .i64 x267000_4, .int .i64 x267001_4, .int .u32 x267002_4, .int .i32 x267003_4] 25 (0, 0)) (by (with_reducible repeat (first | refine blk_drewN ?_ _ | refine blk_drew ?_ | refine blk_alloc ?_ _)); exact BK266.out) hb); have n2_ := Aside0.mk (below_step (by repeat (first | (with_reducible first | exact HB.out | apply below_alloc | apply pw_below_drewN | apply below_drew1 | refine below_set ?_ GE266.out) | exact HB.out)) hb); have n3_ := Aside0.mk (hbox); have n4_ := Aside0.mk ((by rw [hg]; exact (below_size (by repeat (first | (with_reducible first | exact HB.out | apply below_alloc | apply pw_below_drewN | apply below_drew1 | refine below_set ?_ GE266.out) | exact HB.out))) : w.heap.size ≤ gb287)); have n5_ := Aside0.mk ((by rw [hg]; exact (below_size (by repeat (first | (with_reducible first | exact HB.out | apply below_alloc | apply pw_below_drewN | apply below_drew1 | refine below_set ?_ GE266.out) | exact HB.out))) : w.heap.size ≤ gb287)); have n6_ := Aside0.mk ((by rw [hg]; exact Nat.ne_of_lt (blk_lt (g := gb266) (o := .cells #[.int .i64 x267000_4, .int .i64 x267001_4, .int .u32 x267002_4, .int .i32 x267003_4] 25 (0, 0)) (by (with_reducible repeat (first | refine blk_drewN ?_ _ | refine blk_drew ?_ | refine blk_alloc ?_ _)); exact BK266.out)) : gb266 ≠ gb287)); have n7_ := Aside0.mk ((by rw [hg]; exact Nat.ne_of_gt (blk_lt (g := gb266) (o := .cells #[.int .i64 x267000_4, .int .i64 x267001_4, .int .u32 x267002_4, .int .i32 x267003_4] 25 (0, 0)) (by (with_reducible repeat (first | refine blk_drewN ?_ _ | refine blk_drew ?_ | refine blk_alloc ?_ _)); exact BK266.out)) : gb287 ≠ gb266)); clear HO_12; clear BK266; clear HB; have HO_12 := n0_; have BK266 := n1_; have HB := n2_; have BK287 := n3_; have GW287 := n4_; have GE287 := n5_; have NB266_287 := n6_; have NB287_266 := n7_; clear n0_ n1_ n2_ n3_ n4_ n5_ n6_ n7_; clear hb hbox hg; have hnb63 := NB287_266.out; have hnc63 := NB266_287.out; have hcz64_0 : w62.cell? ⟨gb287, 0, none⟩ = some (.int .i64 0) := (blk_cell BK287.out 0).trans rfl; have hcz64_1 : w62.cell? ⟨gb287, 1, none⟩ = some (.int .i64 0) := (blk_cell BK287.out 1).trans rfl; have hcz64_2 : w62.cell? ⟨gb287, 2, none⟩ = some (.int .i64 0) := (blk_cell BK287.out 2).trans rfl; have hcz64_3 : w62.cell? ⟨gb287, 3, none⟩ = some (.int .i32 0) := (blk_cell BK287.out 3).trans rfl; have hcz64_4 : w62.cell? ⟨gb287, 4, none⟩ = some (.int .i32 0) := (blk_cell BK287.out 4).trans rfl; have hcz64_5 : w62.cell? ⟨gb287, 5, none⟩ = some (.int .i64 0) := (blk_cell BK287.out 5).trans rfl; have hcz64_6 : w62.cell? ⟨gb287, 6, none⟩ = some (.int .i64 0) := (blk_cell BK287.out 6).trans rfl; have hcz64_7 : w62.cell? ⟨gb287, 7, none⟩ = some (.int .u32 0) := (blk_cell BK287.out 7).trans rfl; have hcz64_8 : w62.cell? ⟨gb287, 8, none⟩ = some (.int .i32 0) := (blk_cell BK287.out 8).trans rfl; have hfz64_0 := blk_frozen BK287.out 0; have hfz64_1 := blk_frozen BK287.out 1; have hfz64_2 := blk_frozen BK287.out 2; have hfz64_3 := blk_frozen BK287.out 3; have hfz64_4 := blk_frozen BK287.out 4; have hfz64_5 := blk_frozen BK287.out 5; have hfz64_6 := blk_frozen BK287.out 6; have hfz64_7 := blk_frozen BK287.out 7; have hfz64_8 := blk_frozen BK287.out 8))
                                go_ret
                                exact ⟨by first | rfl | (simp [errW_none, errW_some] <;> rfl) | (simp only [← hji50]; first | rfl | (simp [errW_none, errW_some] <;> rfl)) | (simp [*, errW_none, errW_some] <;> rfl), by repeat (first | (with_reducible first | exact HB.out | apply below_alloc | apply pw_below_drewN | apply below_drew1 | refine below_set ?_ GE266.out | refine below_set ?_ GE287.out) | exact HB.out)⟩
                              · rw [if_neg c58] at H
                                have c58b0 : (t278 == 1) = false := beq_eq_false_iff_ne.mpr c58
                                have c58b1 : (t278 != 1) = true := bne_iff_ne.mpr c58
                                by_cases c65 : t278 = 0
                                · rw [if_pos c65] at H
                                  have c65b0 : (t278 == 0) = true := beq_iff_eq.mpr c65
                                  have c65b1 : (t278 != 0) = false := bne_eq_false_iff_eq.mpr c65
                                  clear c65
                                  by_cases c66 : t279 < 1
                                  · rw [if_pos c66] at H
                                    have c66b0 : decide (t279 < 1) = true := decide_eq_true c66
                                    clear c66
                                    obtain rfl := Option.some.inj H
                                    obtain ⟨Ao67, co67, eo67⟩ := Kd.V_slice HO_12.out
                                    subst eo67
                                    have hcz68_0 : wr.cell? ⟨gb266, 0, none⟩ = some (.int .i64 x267000_4) := (blk_cell BK266.out 0).trans rfl
                                    have hcz68_1 : wr.cell? ⟨gb266, 1, none⟩ = some (.int .i64 x267001_4) := (blk_cell BK266.out 1).trans rfl
                                    have hcz68_2 : wr.cell? ⟨gb266, 2, none⟩ = some (.int .u32 x267002_4) := (blk_cell BK266.out 2).trans rfl
                                    have hcz68_3 : wr.cell? ⟨gb266, 3, none⟩ = some (.int .i32 x267003_4) := (blk_cell BK266.out 3).trans rfl
                                    have hfz68_0 := blk_frozen BK266.out 0
                                    have hfz68_1 := blk_frozen BK266.out 1
                                    have hfz68_2 := blk_frozen BK266.out 2
                                    have hfz68_3 := blk_frozen BK266.out 3
                                    go_wp2_with (first | ((with_reducible refine gate_callee (f := 32) rfl ?_); refine goesL_ (some 62) rfl rfl Try.func32 (by kernel_rfl) rfl #[.int .i64 x7_5, .agg #[.int .i64 x267000_4, .int .i64 x267001_4, .int .u32 x267002_4, .int .i32 x267003_4], .slice Ao67 x12_4.length co67] rfl (by (try simp only [List.map_toArray, List.map_cons, List.map_nil]); first | done | rfl | (simp only [List.length_drop, List.length_take]; rfl)) ?_; (with_reducible refine (iso2022_Get.calls k4 x7_5 x267000_4 x267001_4 x267002_4 x267003_4 _ _ x12_4 t278 t279 t280 t281 t282 t283 t284 t285 t286 _ ?side1 ?side2 A57.out).mono ?_); (case side1 => repeat (first | exact (Kd.V_reads' HO_12.out).2.2 | (with_reducible refine Kd.C_alloc ?_ _) | (with_reducible refine Kd.C_drewN ?_ _) | (with_reducible refine Kd.C_drew ?_))); (case side2 => exact (Kd.V_reads' HO_12.out).2.1); rintro e w69 ⟨rfl, hb⟩; refine ⟨_, rfl, ?_⟩; have n0_ := Aside0.mk (Kd.V_below (by (with_reducible repeat (first | apply Kd.V_alloc | apply Kd.V_drewN | apply Kd.V_drew)); exact HO_12.out) hb); have n1_ := Aside0.mk (blk_below (g := gb266) (o := .cells #[.int .i64 x267000_4, .int .i64 x267001_4, .int .u32 x267002_4, .int .i32 x267003_4] 25 (0, 0)) (by (with_reducible repeat (first | refine blk_drewN ?_ _ | refine blk_drew ?_ | refine blk_alloc ?_ _)); exact BK266.out) hb); have n2_ := Aside0.mk (below_step (by repeat (first | (with_reducible first | exact HB.out | apply below_alloc | apply pw_below_drewN | apply below_drew1 | refine below_set ?_ GE266.out) | exact HB.out)) hb); clear HO_12; clear BK266; clear HB; have HO_12 := n0_; have BK266 := n1_; have HB := n2_; clear n0_ n1_ n2_; (try clear hb); (try clear hb2); (try clear hk); (try clear hi)) | ((with_reducible refine gate_dst (N := 13) rfl ?_); (try (refine gate_guard (by rfl) ?_; dsimp only)); refine box_event ?hg (N := 13) ?hd (cs := #[.int .i64 0, .int .i64 0, .int .i64 0, .int .i32 0, .int .i32 0, .int .i64 0, .int .i64 0, .int .u32 0, .int .i32 0]) (t := 36) ?hr ?_; (case hd => rfl); (case hg => rfl); (case hr => first | (go_simp; done) | (go_simp; rfl)); intro gb287 hg w70 hbox hb; have n0_ := Aside0.mk (Kd.V_below (Kd.V_elderB (by (with_reducible repeat (first | apply Kd.V_alloc | apply Kd.V_drewN | apply Kd.V_drew)); exact HO_12.out) gb287 (Nat.le_of_eq hg.symm)) hb); have n1_ := Aside0.mk (blk_below (g := gb266) (o := .cells #[.int .i64 x267000_4, .int .i64 x267001_4, .int .u32 x267002_4, .int .i32 x267003_4] 25 (0, 0)) (by (with_reducible repeat (first | refine blk_drewN ?_ _ | refine blk_drew ?_ | refine blk_alloc ?_ _)); exact BK266.out) hb); have n2_ := Aside0.mk (below_step (by repeat (first | (with_reducible first | exact HB.out | apply below_alloc | apply pw_below_drewN | apply below_drew1 | refine below_set ?_ GE266.out) | exact HB.out)) hb); have n3_ := Aside0.mk (hbox); have n4_ := Aside0.mk ((by rw [hg]; exact (below_size (by repeat (first | (with_reducible first | exact HB.out | apply below_alloc | apply pw_below_drewN | apply below_drew1 | refine below_set ?_ GE266.out) | exact HB.out))) : w.heap.size ≤ gb287)); have n5_ := Aside0.mk ((by rw [hg]; exact (below_size (by repeat (first | (with_reducible first | exact HB.out | apply below_alloc | apply pw_below_drewN | apply below_drew1 | refine below_set ?_ GE266.out) | exact HB.out))) : w.heap.size ≤ gb287)); have n6_ := Aside0.mk ((by rw [hg]; exact Nat.ne_of_lt (blk_lt (g := gb266) (o := .cells #[.int .i64 x267000_4, .int .i64 x267001_4, .int .u32 x267002_4, .int .i32 x267003_4] 25 (0, 0)) (by (with_reducible repeat (first | refine blk_drewN ?_ _ | refine blk_drew ?_ | refine blk_alloc ?_ _)); exact BK266.out)) : gb266 ≠ gb287)); have n7_ := Aside0.mk ((by rw [hg]; exact Nat.ne_of_gt (blk_lt (g := gb266) (o := .cells #[.int .i64 x267000_4, .int .i64 x267001_4, .int .u32 x267002_4, .int .i32 x267003_4] 25 (0, 0)) (by (with_reducible repeat (first | refine blk_drewN ?_ _ | refine blk_drew ?_ | refine blk_alloc ?_ _)); exact BK266.out)) : gb287 ≠ gb266)); clear HO_12; clear BK266; clear HB; have HO_12 := n0_; have BK266 := n1_; have HB := n2_; have BK287 := n3_; have GW287 := n4_; have GE287 := n5_; have NB266_287 := n6_; have NB287_266 := n7_; clear n0_ n1_ n2_ n3_ n4_ n5_ n6_ n7_; clear hb hbox hg; have hnb71 := NB287_266.out; have hnc71 := NB266_287.out; have hcz72_0 : w70.cell? ⟨gb287, 0, none⟩ = some (.int .i64 0) := (blk_cell BK287.out 0).trans rfl; have hcz72_1 : w70.cell? ⟨gb287, 1, none⟩ = some (.int .i64 0) := (blk_cell BK287.out 1).trans rfl; have hcz72_2 : w70.cell? ⟨gb287, 2, none⟩ = some (.int .i64 0) := (blk_cell BK287.out 2).trans rfl; have hcz72_3 : w70.cell? ⟨gb287, 3, none⟩ = some (.int .i32 0) := (blk_cell BK287.out 3).trans rfl; have hcz72_4 : w70.cell? ⟨gb287, 4, none⟩ = some (.int .i32 0) := (blk_cell BK287.out 4).trans rfl; have hcz72_5 : w70.cell? ⟨gb287, 5, none⟩ = some (.int .i64 0) := (blk_cell BK287.out 5).trans rfl; have hcz72_6 : w70.cell? ⟨gb287, 6, none⟩ = some (.int .i64 0) := (blk_cell BK287.out 6).trans rfl; have hcz72_7 : w70.cell? ⟨gb287, 7, none⟩ = some (.int .u32 0) := (blk_cell BK287.out 7).trans rfl; have hcz72_8 : w70.cell? ⟨gb287, 8, none⟩ = some (.int .i32 0) := (blk_cell BK287.out 8).trans rfl; have hfz72_0 := blk_frozen BK287.out 0; have hfz72_1 := blk_frozen BK287.out 1; have hfz72_2 := blk_frozen BK287.out 2; have hfz72_3 := blk_frozen BK287.out 3; have hfz72_4 := blk_frozen BK287.out 4; have hfz72_5 := blk_frozen BK287.out 5; have hfz72_6 := blk_frozen BK287.out 6; have hfz72_7 := blk_frozen BK287.out 7; have hfz72_8 := blk_frozen BK287.out 8))
                                    go_ret
                                    exact ⟨by first | rfl | (simp [errW_none, errW_some] <;> rfl) | (simp only [← hji50]; first | rfl | (simp [errW_none, errW_some] <;> rfl)) | (simp [*, errW_none, errW_some] <;> rfl), by repeat (first | (with_reducible first | exact HB.out | apply below_alloc | apply pw_below_drewN | apply below_drew1 | refine below_set ?_ GE266.out | refine below_set ?_ GE287.out) | exact HB.out)⟩
                                  · rw [if_neg c66] at H
                                    have c66b0 : decide (t279 < 1) = false := decide_eq_false c66
                                    clear c66
                                    by_cases c73 : t279 > (x12_4.length : Int)
                                    · rw [if_pos c73] at H
                                      have c73b0 : decide ((x12_4.length : Int) < t279) = true := decide_eq_true c73
                                      clear c73
                                      obtain rfl := Option.some.inj H
                                      obtain ⟨Ao74, co74, eo74⟩ := Kd.V_slice HO_12.out
                                      subst eo74
                                      have hcz75_0 : wr.cell? ⟨gb266, 0, none⟩ = some (.int .i64 x267000_4) := (blk_cell BK266.out 0).trans rfl
                                      have hcz75_1 : wr.cell? ⟨gb266, 1, none⟩ = some (.int .i64 x267001_4) := (blk_cell BK266.out 1).trans rfl
                                      have hcz75_2 : wr.cell? ⟨gb266, 2, none⟩ = some (.int .u32 x267002_4) := (blk_cell BK266.out 2).trans rfl
                                      have hcz75_3 : wr.cell? ⟨gb266, 3, none⟩ = some (.int .i32 x267003_4) := (blk_cell BK266.out 3).trans rfl
                                      have hfz75_0 := blk_frozen BK266.out 0
                                      have hfz75_1 := blk_frozen BK266.out 1
                                      have hfz75_2 := blk_frozen BK266.out 2
                                      have hfz75_3 := blk_frozen BK266.out 3
                                      go_wp2_with (first | ((with_reducible refine gate_callee (f := 32) rfl ?_); refine goesL_ (some 62) rfl rfl Try.func32 (by kernel_rfl) rfl #[.int .i64 x7_5, .agg #[.int .i64 x267000_4, .int .i64 x267001_4, .int .u32 x267002_4, .int .i32 x267003_4], .slice Ao74 x12_4.length co74] rfl (by (try simp only [List.map_toArray, List.map_cons, List.map_nil]); first | done | rfl | (simp only [List.length_drop, List.length_take]; rfl)) ?_; (with_reducible refine (iso2022_Get.calls k4 x7_5 x267000_4 x267001_4 x267002_4 x267003_4 _ _ x12_4 t278 t279 t280 t281 t282 t283 t284 t285 t286 _ ?side1 ?side2 A57.out).mono ?_); (case side1 => repeat (first | exact (Kd.V_reads' HO_12.out).2.2 | (with_reducible refine Kd.C_alloc ?_ _) | (with_reducible refine Kd.C_drewN ?_ _) | (with_reducible refine Kd.C_drew ?_))); (case side2 => exact (Kd.V_reads' HO_12.out).2.1); rintro e w76 ⟨rfl, hb⟩; refine ⟨_, rfl, ?_⟩; have n0_ := Aside0.mk (Kd.V_below (by (with_reducible repeat (first | apply Kd.V_alloc | apply Kd.V_drewN | apply Kd.V_drew)); exact HO_12.out) hb); have n1_ := Aside0.mk (blk_below (g := gb266) (o := .cells #[.int .i64 x267000_4, .int .i64 x267001_4, .int .u32 x267002_4, .int .i32 x267003_4] 25 (0, 0)) (by (with_reducible repeat (first | refine blk_drewN ?_ _ | refine blk_drew ?_ | refine blk_alloc ?_ _)); exact BK266.out) hb); have n2_ := Aside0.mk (below_step (by repeat (first | (with_reducible first | exact HB.out | apply below_alloc | apply pw_below_drewN | apply below_drew1 | refine below_set ?_ GE266.out) | exact HB.out)) hb); clear HO_12; clear BK266; clear HB; have HO_12 := n0_; have BK266 := n1_; have HB := n2_; clear n0_ n1_ n2_; (try clear hb); (try clear hb2); (try clear hk); (try clear hi)) | ((with_reducible refine gate_dst (N := 13) rfl ?_); (try (refine gate_guard (by rfl) ?_; dsimp only)); refine box_event ?hg (N := 13) ?hd (cs := #[.int .i64 0, .int .i64 0, .int .i64 0, .int .i32 0, .int .i32 0, .int .i64 0, .int .i64 0, .int .u32 0, .int .i32 0]) (t := 36) ?hr ?_; (case hd => rfl); (case hg => rfl); (case hr => first | (go_simp; done) | (go_simp; rfl)); intro gb287 hg w77 hbox hb; have n0_ := Aside0.mk (Kd.V_below (Kd.V_elderB (by (with_reducible repeat (first | apply Kd.V_alloc | apply Kd.V_drewN | apply Kd.V_drew)); exact HO_12.out) gb287 (Nat.le_of_eq hg.symm)) hb); have n1_ := Aside0.mk (blk_below (g := gb266) (o := .cells #[.int .i64 x267000_4, .int .i64 x267001_4, .int .u32 x267002_4, .int .i32 x267003_4] 25 (0, 0)) (by (with_reducible repeat (first | refine blk_drewN ?_ _ | refine blk_drew ?_ | refine blk_alloc ?_ _)); exact BK266.out) hb); have n2_ := Aside0.mk (below_step (by repeat (first | (with_reducible first | exact HB.out | apply below_alloc | apply pw_below_drewN | apply below_drew1 | refine below_set ?_ GE266.out) | exact HB.out)) hb); have n3_ := Aside0.mk (hbox); have n4_ := Aside0.mk ((by rw [hg]; exact (below_size (by repeat (first | (with_reducible first | exact HB.out | apply below_alloc | apply pw_below_drewN | apply below_drew1 | refine below_set ?_ GE266.out) | exact HB.out))) : w.heap.size ≤ gb287)); have n5_ := Aside0.mk ((by rw [hg]; exact (below_size (by repeat (first | (with_reducible first | exact HB.out | apply below_alloc | apply pw_below_drewN | apply below_drew1 | refine below_set ?_ GE266.out) | exact HB.out))) : w.heap.size ≤ gb287)); have n6_ := Aside0.mk ((by rw [hg]; exact Nat.ne_of_lt (blk_lt (g := gb266) (o := .cells #[.int .i64 x267000_4, .int .i64 x267001_4, .int .u32 x267002_4, .int .i32 x267003_4] 25 (0, 0)) (by (with_reducible repeat (first | refine blk_drewN ?_ _ | refine blk_drew ?_ | refine blk_alloc ?_ _)); exact BK266.out)) : gb266 ≠ gb287)); have n7_ := Aside0.mk ((by rw [hg]; exact Nat.ne_of_gt (blk_lt (g := gb266) (o := .cells #[.int .i64 x267000_4, .int .i64 x267001_4, .int .u32 x267002_4, .int .i32 x267003_4] 25 (0, 0)) (by (with_reducible repeat (first | refine blk_drewN ?_ _ | refine blk_drew ?_ | refine blk_alloc ?_ _)); exact BK266.out)) : gb287 ≠ gb266)); clear HO_12; clear BK266; clear HB; have HO_12 := n0_; have BK266 := n1_; have HB := n2_; have BK287 := n3_; have GW287 := n4_; have GE287 := n5_; have NB266_287 := n6_; have NB287_266 := n7_; clear n0_ n1_ n2_ n3_ n4_ n5_ n6_ n7_; clear hb hbox hg; have hnb78 := NB287_266.out; have hnc78 := NB266_287.out; have hcz79_0 : w77.cell? ⟨gb287, 0, none⟩ = some (.int .i64 0) := (blk_cell BK287.out 0).trans rfl; have hcz79_1 : w77.cell? ⟨gb287, 1, none⟩ = some (.int .i64 0) := (blk_cell BK287.out 1).trans rfl; have hcz79_2 : w77.cell? ⟨gb287, 2, none⟩ = some (.int .i64 0) := (blk_cell BK287.out 2).trans rfl; have hcz79_3 : w77.cell? ⟨gb287, 3, none⟩ = some (.int .i32 0) := (blk_cell BK287.out 3).trans rfl; have hcz79_4 : w77.cell? ⟨gb287, 4, none⟩ = some (.int .i32 0) := (blk_cell BK287.out 4).trans rfl; have hcz79_5 : w77.cell? ⟨gb287, 5, none⟩ = some (.int .i64 0) := (blk_cell BK287.out 5).trans rfl; have hcz79_6 : w77.cell? ⟨gb287, 6, none⟩ = some (.int .i64 0) := (blk_cell BK287.out 6).trans rfl; have hcz79_7 : w77.cell? ⟨gb287, 7, none⟩ = some (.int .u32 0) := (blk_cell BK287.out 7).trans rfl; have hcz79_8 : w77.cell? ⟨gb287, 8, none⟩ = some (.int .i32 0) := (blk_cell BK287.out 8).trans rfl; have hfz79_0 := blk_frozen BK287.out 0; have hfz79_1 := blk_frozen BK287.out 1; have hfz79_2 := blk_frozen BK287.out 2; have hfz79_3 := blk_frozen BK287.out 3; have hfz79_4 := blk_frozen BK287.out 4; have hfz79_5 := blk_frozen BK287.out 5; have hfz79_6 := blk_frozen BK287.out 6; have hfz79_7 := blk_frozen BK287.out 7; have hfz79_8 := blk_frozen BK287.out 8))
                                      go_ret
                                      exact ⟨by first | rfl | (simp [errW_none, errW_some] <;> rfl) | (simp only [← hji50]; first | rfl | (simp [errW_none, errW_some] <;> rfl)) | (simp [*, errW_none, errW_some] <;> rfl), by repeat (first | (with_reducible first | exact HB.out | apply below_alloc | apply pw_below_drewN | apply below_drew1 | refine below_set ?_ GE266.out | refine below_set ?_ GE287.out) | exact HB.out)⟩
                                    · rw [if_neg c73] at H
                                      have c73b0 : decide ((x12_4.length : Int) < t279) = false := decide_eq_false c73
                                      clear c73
                                      by_cases c80 : 0 ≤ t279
                                      · rw [if_pos c80] at H
                                        have c80b0 := eq_true c80
                                        have c80b1 : decide (0 ≤ t279) = true := decide_eq_true c80
                                        clear c80
                                        by_cases c81 : t279 ≤ (x12_4.length : Int)
                                        · rw [if_pos c81] at H
                                          have c81b0 := eq_true c81
                                          have c81b1 : decide (t279 ≤ (x12_4.length : Int)) = true := decide_eq_true c81
                                          clear c81
                                          obtain ⟨y288, hy288⟩ : ∃ y_ : List Int, y_ = (x12_4.drop (t279 : Int).toNat) := ⟨_, rfl⟩
                                          replace H : (dragomanlaw21_Iso2022Cuts.l1 k4 x7_5 y288 t283 t284 t285 t286) = some r := by first | (rw [hy288]; with_reducible exact H) | (have H2_ := (Option.bind_some _ _).symm.trans H; rw [hy288]; with_reducible exact H2_) | (have H2_ := (Option.bind_some _ _).symm.trans H; with_reducible exact H2_) | with_reducible exact H | (rw [hy288]; exact H) | exact H
                                          have Ny288 := Aside0.mk hy288
                                          clear hy288
                                          have H' := Aside0.mk H
                                          clear H
                                          obtain ⟨Ao82, co82, eo82⟩ := Kd.V_slice HO_12.out
                                          subst eo82
                                          have hcz83_0 : wr.cell? ⟨gb266, 0, none⟩ = some (.int .i64 x267000_4) := (blk_cell BK266.out 0).trans rfl
                                          have hcz83_1 : wr.cell? ⟨gb266, 1, none⟩ = some (.int .i64 x267001_4) := (blk_cell BK266.out 1).trans rfl
                                          have hcz83_2 : wr.cell? ⟨gb266, 2, none⟩ = some (.int .u32 x267002_4) := (blk_cell BK266.out 2).trans rfl
                                          have hcz83_3 : wr.cell? ⟨gb266, 3, none⟩ = some (.int .i32 x267003_4) := (blk_cell BK266.out 3).trans rfl
                                          have hfz83_0 := blk_frozen BK266.out 0
                                          have hfz83_1 := blk_frozen BK266.out 1
                                          have hfz83_2 := blk_frozen BK266.out 2
                                          have hfz83_3 := blk_frozen BK266.out 3
                                          try go_wp2_with (first | ((with_reducible refine gate_callee (f := 32) rfl ?_); refine goesL_ (some 62) rfl rfl Try.func32 (by kernel_rfl) rfl #[.int .i64 x7_5, .agg #[.int .i64 x267000_4, .int .i64 x267001_4, .int .u32 x267002_4, .int .i32 x267003_4], .slice Ao82 x12_4.length co82] rfl (by (try simp only [List.map_toArray, List.map_cons, List.map_nil]); first | done | rfl | (simp only [List.length_drop, List.length_take]; rfl)) ?_; (with_reducible refine (iso2022_Get.calls k4 x7_5 x267000_4 x267001_4 x267002_4 x267003_4 _ _ x12_4 t278 t279 t280 t281 t282 t283 t284 t285 t286 _ ?side1 ?side2 A57.out).mono ?_); (case side1 => repeat (first | exact (Kd.V_reads' HO_12.out).2.2 | (with_reducible refine Kd.C_alloc ?_ _) | (with_reducible refine Kd.C_drewN ?_ _) | (with_reducible refine Kd.C_drew ?_))); (case side2 => exact (Kd.V_reads' HO_12.out).2.1); rintro e w84 ⟨rfl, hb⟩; refine ⟨_, rfl, ?_⟩; have n0_ := Aside0.mk (Kd.V_below (by (with_reducible repeat (first | apply Kd.V_alloc | apply Kd.V_drewN | apply Kd.V_drew)); exact HO_12.out) hb); have n1_ := Aside0.mk (blk_below (g := gb266) (o := .cells #[.int .i64 x267000_4, .int .i64 x267001_4, .int .u32 x267002_4, .int .i32 x267003_4] 25 (0, 0)) (by (with_reducible repeat (first | refine blk_drewN ?_ _ | refine blk_drew ?_ | refine blk_alloc ?_ _)); exact BK266.out) hb); have n2_ := Aside0.mk (below_step (by repeat (first | (with_reducible first | exact HB.out | apply below_alloc | apply pw_below_drewN | apply below_drew1 | refine below_set ?_ GE266.out) | exact HB.out)) hb); clear HO_12; clear BK266; clear HB; have HO_12 := n0_; have BK266 := n1_; have HB := n2_; clear n0_ n1_ n2_; (try clear hb); (try clear hb2); (try clear hk); (try clear hi)) | ((with_reducible refine gate_dst (N := 13) rfl ?_); (try (refine gate_guard (by rfl) ?_; dsimp only)); refine box_event ?hg (N := 13) ?hd (cs := #[.int .i64 0, .int .i64 0, .int .i64 0, .int .i32 0, .int .i32 0, .int .i64 0, .int .i64 0, .int .u32 0, .int .i32 0]) (t := 36) ?hr ?_; (case hd => rfl); (case hg => rfl); (case hr => first | (go_simp; done) | (go_simp; rfl)); intro gb287 hg w85 hbox hb; have n0_ := Aside0.mk (Kd.V_below (Kd.V_elderB (by (with_reducible repeat (first | apply Kd.V_alloc | apply Kd.V_drewN | apply Kd.V_drew)); exact HO_12.out) gb287 (Nat.le_of_eq hg.symm)) hb); have n1_ := Aside0.mk (blk_below (g := gb266) (o := .cells #[.int .i64 x267000_4, .int .i64 x267001_4, .int .u32 x267002_4, .int .i32 x267003_4] 25 (0, 0)) (by (with_reducible repeat (first | refine blk_drewN ?_ _ | refine blk_drew ?_ | refine blk_alloc ?_ _)); exact BK266.out) hb); have n2_ := Aside0.mk (below_step (by repeat (first | (with_reducible first | exact HB.out | apply below_alloc | apply pw_below_drewN | apply below_drew1 | refine below_set ?_ GE266.out) | exact HB.out)) hb); have n3_ := Aside0.mk (hbox); have n4_ := Aside0.mk ((by rw [hg]; exact (below_size (by repeat (first | (with_reducible first | exact HB.out | apply below_alloc | apply pw_below_drewN | apply below_drew1 | refine below_set ?_ GE266.out) | exact HB.out))) : w.heap.size ≤ gb287)); have n5_ := Aside0.mk ((by rw [hg]; exact (below_size (by repeat (first | (with_reducible first | exact HB.out | apply below_alloc | apply pw_below_drewN | apply below_drew1 | refine below_set ?_ GE266.out) | exact HB.out))) : w.heap.size ≤ gb287)); have n6_ := Aside0.mk ((by rw [hg]; exact Nat.ne_of_lt (blk_lt (g := gb266) (o := .cells #[.int .i64 x267000_4, .int .i64 x267001_4, .int .u32 x267002_4, .int .i32 x267003_4] 25 (0, 0)) (by (with_reducible repeat (first | refine blk_drewN ?_ _ | refine blk_drew ?_ | refine blk_alloc ?_ _)); exact BK266.out)) : gb266 ≠ gb287)); have n7_ := Aside0.mk ((by rw [hg]; exact Nat.ne_of_gt (blk_lt (g := gb266) (o := .cells #[.int .i64 x267000_4, .int .i64 x267001_4, .int .u32 x267002_4, .int .i32 x267003_4] 25 (0, 0)) (by (with_reducible repeat (first | refine blk_drewN ?_ _ | refine blk_drew ?_ | refine blk_alloc ?_ _)); exact BK266.out)) : gb287 ≠ gb266)); clear HO_12; clear BK266; clear HB; have HO_12 := n0_; have BK266 := n1_; have HB := n2_; have BK287 := n3_; have GW287 := n4_; have GE287 := n5_; have NB266_287 := n6_; have NB287_266 := n7_; clear n0_ n1_ n2_ n3_ n4_ n5_ n6_ n7_; clear hb hbox hg; have hnb86 := NB287_266.out; have hnc86 := NB266_287.out; have hcz87_0 : w85.cell? ⟨gb287, 0, none⟩ = some (.int .i64 0) := (blk_cell BK287.out 0).trans rfl; have hcz87_1 : w85.cell? ⟨gb287, 1, none⟩ = some (.int .i64 0) := (blk_cell BK287.out 1).trans rfl; have hcz87_2 : w85.cell? ⟨gb287, 2, none⟩ = some (.int .i64 0) := (blk_cell BK287.out 2).trans rfl; have hcz87_3 : w85.cell? ⟨gb287, 3, none⟩ = some (.int .i32 0) := (blk_cell BK287.out 3).trans rfl; have hcz87_4 : w85.cell? ⟨gb287, 4, none⟩ = some (.int .i32 0) := (blk_cell BK287.out 4).trans rfl; have hcz87_5 : w85.cell? ⟨gb287, 5, none⟩ = some (.int .i64 0) := (blk_cell BK287.out 5).trans rfl; have hcz87_6 : w85.cell? ⟨gb287, 6, none⟩ = some (.int .i64 0) := (blk_cell BK287.out 6).trans rfl; have hcz87_7 : w85.cell? ⟨gb287, 7, none⟩ = some (.int .u32 0) := (blk_cell BK287.out 7).trans rfl; have hcz87_8 : w85.cell? ⟨gb287, 8, none⟩ = some (.int .i32 0) := (blk_cell BK287.out 8).trans rfl; have hfz87_0 := blk_frozen BK287.out 0; have hfz87_1 := blk_frozen BK287.out 1; have hfz87_2 := blk_frozen BK287.out 2; have hfz87_3 := blk_frozen BK287.out 3; have hfz87_4 := blk_frozen BK287.out 4; have hfz87_5 := blk_frozen BK287.out 5; have hfz87_6 := blk_frozen BK287.out 6; have hfz87_7 := blk_frozen BK287.out 7; have hfz87_8 := blk_frozen BK287.out 8))
                                          have n0_ : Aside0 (Kd.V (Kd.int .u8) 5 (((((((((w85.setCell ⟨gb287, 0, none⟩ (.int .i64 t278)).setCell ⟨gb287, 1, none⟩ (.int .i64 t279)).setCell ⟨gb287, 2, none⟩ (.int .i64 t280)).setCell ⟨gb287, 3, none⟩ (.int .i32 t281)).setCell ⟨gb287, 4, none⟩ (.int .i32 t282)).setCell ⟨gb287, 5, none⟩ (.int .i64 t283)).setCell ⟨gb287, 6, none⟩ (.int .i64 t284)).setCell ⟨gb287, 7, none⟩ (.int .u32 t285)).setCell ⟨gb287, 8, none⟩ (.int .i32 t286)) w.heap.size (fun k_ => k_ ≠ gb266 ∧ k_ ≠ gb287) (.slice Ao82 x12_4.length co82) x12_4) := ⟨by (with_reducible repeat (first | apply Kd.V_alloc | apply Kd.V_drewN | apply Kd.V_drew)); exact Kd.V_mono (Kd.V_far (p := ⟨gb287, 8, none⟩) (Kd.V_far (p := ⟨gb287, 7, none⟩) (Kd.V_far (p := ⟨gb287, 6, none⟩) (Kd.V_far (p := ⟨gb287, 5, none⟩) (Kd.V_far (p := ⟨gb287, 4, none⟩) (Kd.V_far (p := ⟨gb287, 3, none⟩) (Kd.V_far (p := ⟨gb287, 2, none⟩) (Kd.V_far (p := ⟨gb287, 1, none⟩) (Kd.V_far (p := ⟨gb287, 0, none⟩) (Kd.V_mono HO_12.out (fun k_ hk => (⟨hk, hk.2⟩ : _ ∧ k_ ≠ gb287))) (fun _ hk => hk.2) (.int .i64 t278)) (fun _ hk => hk.2) (.int .i64 t279)) (fun _ hk => hk.2) (.int .i64 t280)) (fun _ hk => hk.2) (.int .i32 t281)) (fun _ hk => hk.2) (.int .i32 t282)) (fun _ hk => hk.2) (.int .i64 t283)) (fun _ hk => hk.2) (.int .i64 t284)) (fun _ hk => hk.2) (.int .u32 t285)) (fun _ hk => hk.2) (.int .i32 t286)) (fun _ hk => ⟨hk.1.1, hk.1.2⟩)⟩
                                          have n1_ : Aside0 ((((((((((w85.setCell ⟨gb287, 0, none⟩ (.int .i64 t278)).setCell ⟨gb287, 1, none⟩ (.int .i64 t279)).setCell ⟨gb287, 2, none⟩ (.int .i64 t280)).setCell ⟨gb287, 3, none⟩ (.int .i32 t281)).setCell ⟨gb287, 4, none⟩ (.int .i32 t282)).setCell ⟨gb287, 5, none⟩ (.int .i64 t283)).setCell ⟨gb287, 6, none⟩ (.int .i64 t284)).setCell ⟨gb287, 7, none⟩ (.int .u32 t285)).setCell ⟨gb287, 8, none⟩ (.int .i32 t286)).heap[gb266]? = some (.cells #[.int .i64 x267000_4, .int .i64 x267001_4, .int .u32 x267002_4, .int .i32 x267003_4] 25 (0, 0))) := ⟨by (with_reducible repeat (first | refine blk_drewN ?_ _ | refine blk_drew ?_ | refine blk_alloc ?_ _)); refine blk_far ?_ NB266_287.out _; (with_reducible repeat (first | refine blk_drewN ?_ _ | refine blk_drew ?_ | refine blk_alloc ?_ _)); refine blk_far ?_ NB266_287.out _; (with_reducible repeat (first | refine blk_drewN ?_ _ | refine blk_drew ?_ | refine blk_alloc ?_ _)); refine blk_far ?_ NB266_287.out _; (with_reducible repeat (first | refine blk_drewN ?_ _ | refine blk_drew ?_ | refine blk_alloc ?_ _)); refine blk_far ?_ NB266_287.out _; (with_reducible repeat (first | refine blk_drewN ?_ _ | refine blk_drew ?_ | refine blk_alloc ?_ _)); refine blk_far ?_ NB266_287.out _; (with_reducible repeat (first | refine blk_drewN ?_ _ | refine blk_drew ?_ | refine blk_alloc ?_ _)); refine blk_far ?_ NB266_287.out _; (with_reducible repeat (first | refine blk_drewN ?_ _ | refine blk_drew ?_ | refine blk_alloc ?_ _)); refine blk_far ?_ NB266_287.out _; (with_reducible repeat (first | refine blk_drewN ?_ _ | refine blk_drew ?_ | refine blk_alloc ?_ _)); refine blk_far ?_ NB266_287.out _; (with_reducible repeat (first | refine blk_drewN ?_ _ | refine blk_drew ?_ | refine blk_alloc ?_ _)); refine blk_far ?_ NB266_287.out _; (with_reducible repeat (first | refine blk_drewN ?_ _ | refine blk_drew ?_ | refine blk_alloc ?_ _)); exact BK266.out⟩
                                          have n2_ : Aside0 ((((((((((w85.setCell ⟨gb287, 0, none⟩ (.int .i64 t278)).setCell ⟨gb287, 1, none⟩ (.int .i64 t279)).setCell ⟨gb287, 2, none⟩ (.int .i64 t280)).setCell ⟨gb287, 3, none⟩ (.int .i32 t281)).setCell ⟨gb287, 4, none⟩ (.int .i32 t282)).setCell ⟨gb287, 5, none⟩ (.int .i64 t283)).setCell ⟨gb287, 6, none⟩ (.int .i64 t284)).setCell ⟨gb287, 7, none⟩ (.int .u32 t285)).setCell ⟨gb287, 8, none⟩ (.int .i32 t286)).heap[gb287]? = some (.cells #[.int .i64 t278, .int .i64 t279, .int .i64 t280, .int .i32 t281, .int .i32 t282, .int .i64 t283, .int .i64 t284, .int .u32 t285, .int .i32 t286] 36 (0, 0))) := ⟨by (with_reducible repeat (first | refine blk_drewN ?_ _ | refine blk_drew ?_ | refine blk_alloc ?_ _)); refine blk_put (cs := #[.int .i64 t278, .int .i64 t279, .int .i64 t280, .int .i32 t281, .int .i32 t282, .int .i64 t283, .int .i64 t284, .int .u32 t285, .int .i32 0]) ?_ 8 _ rfl; (with_reducible repeat (first | refine blk_drewN ?_ _ | refine blk_drew ?_ | refine blk_alloc ?_ _)); refine blk_put (cs := #[.int .i64 t278, .int .i64 t279, .int .i64 t280, .int .i32 t281, .int .i32 t282, .int .i64 t283, .int .i64 t284, .int .u32 0, .int .i32 0]) ?_ 7 _ rfl; (with_reducible repeat (first | refine blk_drewN ?_ _ | refine blk_drew ?_ | refine blk_alloc ?_ _)); refine blk_put (cs := #[.int .i64 t278, .int .i64 t279, .int .i64 t280, .int .i32 t281, .int .i32 t282, .int .i64 t283, .int .i64 0, .int .u32 0, .int .i32 0]) ?_ 6 _ rfl; (with_reducible repeat (first | refine blk_drewN ?_ _ | refine blk_drew ?_ | refine blk_alloc ?_ _)); refine blk_put (cs := #[.int .i64 t278, .int .i64 t279, .int .i64 t280, .int .i32 t281, .int .i32 t282, .int .i64 0, .int .i64 0, .int .u32 0, .int .i32 0]) ?_ 5 _ rfl; (with_reducible repeat (first | refine blk_drewN ?_ _ | refine blk_drew ?_ | refine blk_alloc ?_ _)); refine blk_put (cs := #[.int .i64 t278, .int .i64 t279, .int .i64 t280, .int .i32 t281, .int .i32 0, .int .i64 0, .int .i64 0, .int .u32 0, .int .i32 0]) ?_ 4 _ rfl; (with_reducible repeat (first | refine blk_drewN ?_ _ | refine blk_drew ?_ | refine blk_alloc ?_ _)); refine blk_put (cs := #[.int .i64 t278, .int .i64 t279, .int .i64 t280, .int .i32 0, .int .i32 0, .int .i64 0, .int .i64 0, .int .u32 0, .int .i32 0]) ?_ 3 _ rfl; (with_reducible repeat (first | refine blk_drewN ?_ _ | refine blk_drew ?_ | refine blk_alloc ?_ _)); refine blk_put (cs := #[.int .i64 t278, .int .i64 t279, .int .i64 0, .int .i32 0, .int .i32 0, .int .i64 0, .int .i64 0, .int .u32 0, .int .i32 0]) ?_ 2 _ rfl; (with_reducible repeat (first | refine blk_drewN ?_ _ | refine blk_drew ?_ | refine blk_alloc ?_ _)); refine blk_put (cs := #[.int .i64 t278, .int .i64 0, .int .i64 0, .int .i32 0, .int .i32 0, .int .i64 0, .int .i64 0, .int .u32 0, .int .i32 0]) ?_ 1 _ rfl; (with_reducible repeat (first | refine blk_drewN ?_ _ | refine blk_drew ?_ | refine blk_alloc ?_ _)); refine blk_put (cs := #[.int .i64 0, .int .i64 0, .int .i64 0, .int .i32 0, .int .i32 0, .int .i64 0, .int .i64 0, .int .u32 0, .int .i32 0]) ?_ 0 _ rfl; (with_reducible repeat (first | refine blk_drewN ?_ _ | refine blk_drew ?_ | refine blk_alloc ?_ _)); exact BK287.out⟩
                                          have n3_ : Aside0 (Below w.heap.size w (((((((((w85.setCell ⟨gb287, 0, none⟩ (.int .i64 t278)).setCell ⟨gb287, 1, none⟩ (.int .i64 t279)).setCell ⟨gb287, 2, none⟩ (.int .i64 t280)).setCell ⟨gb287, 3, none⟩ (.int .i32 t281)).setCell ⟨gb287, 4, none⟩ (.int .i32 t282)).setCell ⟨gb287, 5, none⟩ (.int .i64 t283)).setCell ⟨gb287, 6, none⟩ (.int .i64 t284)).setCell ⟨gb287, 7, none⟩ (.int .u32 t285)).setCell ⟨gb287, 8, none⟩ (.int .i32 t286))) := ⟨by repeat (first | (with_reducible first | exact HB.out | apply below_alloc | apply pw_below_drewN | apply below_drew1 | refine below_set ?_ GE266.out | refine below_set ?_ GE287.out) | exact HB.out)⟩
                                          (try clear HO_12)
                                          (try clear BK266)
                                          (try clear BK287)
                                          (try clear HB)
                                          generalize (((((((((w85.setCell ⟨gb287, 0, none⟩ (.int .i64 t278)).setCell ⟨gb287, 1, none⟩ (.int .i64 t279)).setCell ⟨gb287, 2, none⟩ (.int .i64 t280)).setCell ⟨gb287, 3, none⟩ (.int .i32 t281)).setCell ⟨gb287, 4, none⟩ (.int .i32 t282)).setCell ⟨gb287, 5, none⟩ (.int .i64 t283)).setCell ⟨gb287, 6, none⟩ (.int .i64 t284)).setCell ⟨gb287, 7, none⟩ (.int .u32 t285)).setCell ⟨gb287, 8, none⟩ (.int .i32 t286)) = w88 at n0_ n1_ n2_ n3_ ⊢
                                          have HO_12 := n0_
                                          have BK266 := n1_
                                          have BK287 := n2_
                                          have HB := n3_
                                          clear n0_ n1_ n2_ n3_
                                          have n0_ := Aside0.mk (Kd.V_drew HO_12.out)
                                          have n1_ := Aside0.mk (blk_drew BK266.out)
                                          have n2_ := Aside0.mk (blk_drew BK287.out)
                                          have n3_ := Aside0.mk (below_drew1 HB.out)
                                          clear HO_12
                                          clear BK266
                                          clear BK287
                                          clear HB
                                          have HO_12 := n0_
                                          have BK266 := n1_
                                          have BK287 := n2_
                                          have HB := n3_
                                          clear n0_ n1_ n2_ n3_
                                          have q90 : (t279 : Int) ≤ ((x12_4.length : Int) : Int) := of_decide_eq_true (by first | (with_reducible assumption) | assumption)
                                          obtain ⟨i090, hi090, _, hsz90, _⟩ := info_parts info5
                                          have hroom90 : x12_4.length ≤ co82 := (Kd.V_reads' HO_12.out).2.1
                                          have hC90 : Kd.F (Kd.int .u8) _ _ Ao82 x12_4.length x12_4 := (Kd.V_at (base := w.heap.size) HO_12.out).2.2
                                          have q090 : (0 : Int) ≤ (t279 : Int) := of_decide_eq_true (by first | (with_reducible assumption) | assumption)
                                          have hcut90 := cut_from (P := Try.prog) 34 5 .i64 Try.underlying34 hi090 1 hsz90 Ao82 x12_4.length co82 t279 q090 q90
                                          have hr90 := Kd.F_cut (m := (t279 : Int).toNat) (c := co82) hC90 (by omega) hroom90
                                          obtain ⟨A90, hA90⟩ : ∃ A1, A1 = (if co82 = (t279 : Int).toNat then Ao82 else (Ao82 : Option Addr).map (·.add ((t279 : Int).toNat * 1))) := ⟨_, rfl⟩
                                          obtain ⟨c90, hc90⟩ : ∃ c1, c1 = co82 - (t279 : Int).toNat := ⟨_, rfl⟩
                                          have hy90 : y288.length = x12_4.length - (t279 : Int).toNat := (by rw [Ny288.out, List.length_drop] <;> omega)
                                          rw [show (x12_4).drop (t279 : Int).toNat = y288 from Ny288.out.symm] at hr90
                                          replace hr90 : Kd.F (Kd.int .u8) _ _ A90 y288.length y288 := (by rw [hA90]; exact hr90)
                                          rw [← hy90, ← hA90, ← hc90] at hcut90
                                          have HO292 := Aside0.mk (show Kd.V (Kd.int .u8) 5 _ w.heap.size _ (.slice A90 y288.length c90) y288 from Kd.V_mk (by rw [hy90, hc90]; exact Nat.sub_le_sub_right hroom90 _) hr90)
                                          have HC292 := Aside0.mk (show y288.length ≤ c90 from by rw [hy90, hc90]; exact Nat.sub_le_sub_right hroom90 _)
                                          clear hr90 hC90 hroom90 hi090 hsz90 hc90
                                          have KY90 := Aside0.mk hy90
                                          have KA90 := Aside0.mk hA90
                                          clear hy90 hA90
                                          replace q90 := eq_true q90
                                          refine start_ (n := 8) (S := fun w' => w'.cell? ⟨gb287, 0, none⟩ = some (.int .i64 t278) ∧ w'.cell? ⟨gb287, 1, none⟩ = some (.int .i64 t279) ∧ w'.cell? ⟨gb287, 2, none⟩ = some (.int .i64 t280) ∧ w'.cell? ⟨gb287, 3, none⟩ = some (.int .i32 t281) ∧ w'.cell? ⟨gb287, 4, none⟩ = some (.int .i32 t282) ∧ w'.cell? ⟨gb287, 5, none⟩ = some (.int .i64 t283) ∧ w'.cell? ⟨gb287, 6, none⟩ = some (.int .i64 t284) ∧ w'.cell? ⟨gb287, 7, none⟩ = some (.int .u32 t285) ∧ w'.cell? ⟨gb287, 8, none⟩ = some (.int .i32 t286)) (ds := []) #[false, false, false, false, false, false, false, false] (by kernel_rfl) rfl rfl ⟨(blk_cell BK287.out 0).trans rfl, (blk_cell BK287.out 1).trans rfl, (blk_cell BK287.out 2).trans rfl, (blk_cell BK287.out 3).trans rfl, (blk_cell BK287.out 4).trans rfl, (blk_cell BK287.out 5).trans rfl, (blk_cell BK287.out 6).trans rfl, (blk_cell BK287.out 7).trans rfl, (blk_cell BK287.out 8).trans rfl⟩ (fun hHeld => ?_); refine with_tabW dragomanlaw21_Iso2022Cuts.tab22 dragomanlaw21_Iso2022Cuts.bits22 (fun HT_ HW_ => ?_)
                                          generalize w88.drew = w89 at HO_12 BK266 BK287 HB HO292 hHeld ⊢
                                          refine pure_ (i := 0) (N := some 84) (v := ?_) (a' := ?_) #[true, false, false, false, false, false, false, false] rfl rfl (any_of HT_.out (by kernel_rfl)) (fun _ _ _ h => h) (Or.inl ⟨by rfl, ?_⟩) ?_ ?_
                                          rotate_left
                                          · intro w'
                                            go_simp
                                            with_reducible rfl
                                          rotate_left
                                          · simp only [Act.put, List.setIfInBounds_toArray, List.set_cons_zero, List.set_cons_succ, i64_w, i32_w]
                                            rfl
                                          refine pure_ (i := 1) (N := some 85) (v := ?_) (a' := ?_) #[true, true, false, false, false, false, false, false] rfl rfl (any_of HT_.out (by kernel_rfl)) (fun _ _ _ h => h) (Or.inl ⟨by rfl, ?_⟩) ?_ ?_
                                          rotate_left
                                          · intro w'
                                            go_simp
                                            with_reducible rfl
                                          rotate_left
                                          · simp only [Act.put, List.setIfInBounds_toArray, List.set_cons_zero, List.set_cons_succ, i64_w, i32_w]
                                            rfl
                                          refine pure_ (i := 4) (N := some 88) (v := ?_) (a' := ?_) #[true, true, false, false, true, false, false, false] rfl rfl (any_of HT_.out (by kernel_rfl)) (fun _ _ _ h => h) (Or.inl ⟨by rfl, ?_⟩) ?_ ?_
                                          rotate_left
                                          · intro w'
                                            go_simp
                                            with_reducible rfl
                                          rotate_left
                                          · simp only [Act.put, List.setIfInBounds_toArray, List.set_cons_zero, List.set_cons_succ, i64_w, i32_w]
                                            rfl
                                          refine take_ (i := 2) (N := some 86) (v := ?_) (a' := ?_) #[true, true, true, false, true, false, false, false] rfl rfl (take_ofW HT_.out HW_.out (by kernel_rfl)) (fun _ _ _ h => h) (Or.inl ⟨by rfl, ?_⟩) hHeld ?_ ?_
                                          rotate_left
                                          · rintro w' ⟨s0, s1, s2, s3, s4, s5, s6, s7, s8⟩
                                            go_simp
                                            with_reducible rfl
                                          rotate_left
                                          · simp only [Act.put, List.setIfInBounds_toArray, List.set_cons_zero, List.set_cons_succ, i64_w, i32_w]
                                            rfl
                                          refine pure_ (i := 3) (N := some 87) (v := ?_) (a' := ?_) #[true, true, true, true, true, false, false, false] rfl rfl (any_of HT_.out (by kernel_rfl)) (fun _ _ _ h => h) (Or.inl ⟨by rfl, ?_⟩) ?_ ?_
                                          rotate_left
                                          · intro w'
                                            go_simp
                                            with_reducible rfl
                                          rotate_left
                                          · simp only [Act.put, List.setIfInBounds_toArray, List.set_cons_zero, List.set_cons_succ, i64_w, i32_w]
                                            rfl
                                          refine pure_ (i := 6) (N := some 12) (v := ?_) (a' := ?_) #[true, true, true, true, true, false, true, false] rfl rfl (any_of HT_.out (by kernel_rfl)) (fun _ _ _ h => h) (Or.inl ⟨by rfl, ?_⟩) ?_ ?_
                                          rotate_left
                                          · intro w'
                                            go_simp
                                            with_reducible rfl
                                          rotate_left
                                          · simp only [Act.put, List.setIfInBounds_toArray, List.set_cons_zero, List.set_cons_succ, i64_w, i32_w]
                                            rfl
                                          refine take_ (i := 5) (N := some 89) (v := ?_) (a' := ?_) #[true, true, true, true, true, true, true, false] rfl rfl (take_ofW HT_.out HW_.out (by kernel_rfl)) (fun _ _ _ h => h) (Or.inl ⟨by rfl, ?_⟩) hHeld ?_ ?_
                                          rotate_left
                                          · rintro w' ⟨s0, s1, s2, s3, s4, s5, s6, s7, s8⟩
                                            go_simp
                                            with_reducible rfl
                                          rotate_left
                                          · simp only [Act.put, List.setIfInBounds_toArray, List.set_cons_zero, List.set_cons_succ, i64_w, i32_w]
                                            rfl
                                          refine one_ (i := 7) (N := none) #[true, true, true, true, true, true, true, true] rfl rfl (one_of HT_.out (by kernel_rfl)) (by decide) (fun K hK => ?_)
                                          have hs91 : w89.cell? ⟨gb266, 0, none⟩ = some (.int .i64 x267000_4) := (blk_cell BK266.out 0).trans rfl
                                          have hfs91 := blk_frozen BK266.out 0
                                          have hns91_1 := NB287_266.out
                                          have hms91_1 := NB266_287.out
                                          have hs92 : w89.cell? ⟨gb266, 1, none⟩ = some (.int .i64 x267001_4) := (blk_cell BK266.out 1).trans rfl
                                          have hfs92 := blk_frozen BK266.out 1
                                          have hns92_1 := NB287_266.out
                                          have hms92_1 := NB266_287.out
                                          have hs93 : w89.cell? ⟨gb266, 2, none⟩ = some (.int .u32 x267002_4) := (blk_cell BK266.out 2).trans rfl
                                          have hfs93 := blk_frozen BK266.out 2
                                          have hns93_1 := NB287_266.out
                                          have hms93_1 := NB266_287.out
                                          have hs94 : w89.cell? ⟨gb266, 3, none⟩ = some (.int .i32 x267003_4) := (blk_cell BK266.out 3).trans rfl
                                          have hfs94 := blk_frozen BK266.out 3
                                          have hns94_1 := NB287_266.out
                                          have hms94_1 := NB266_287.out
                                          refine skip_ (w1 := ?_) (by rfl) rfl ?_ ?_
                                          rotate_left
                                          · go_simp
                                            rfl
                                          refine hK.out _ _ ⟨((cell_far (p := ⟨gb266, _, none⟩) NB287_266.out _).trans (((cell_far (p := ⟨gb266, _, none⟩) NB287_266.out _).trans (((cell_far (p := ⟨gb266, _, none⟩) NB287_266.out _).trans (((cell_far (p := ⟨gb266, _, none⟩) NB287_266.out _).trans (hHeld.1)))))))), ((cell_far (p := ⟨gb266, _, none⟩) NB287_266.out _).trans (((cell_far (p := ⟨gb266, _, none⟩) NB287_266.out _).trans (((cell_far (p := ⟨gb266, _, none⟩) NB287_266.out _).trans (((cell_far (p := ⟨gb266, _, none⟩) NB287_266.out _).trans (hHeld.2.1)))))))), ((cell_far (p := ⟨gb266, _, none⟩) NB287_266.out _).trans (((cell_far (p := ⟨gb266, _, none⟩) NB287_266.out _).trans (((cell_far (p := ⟨gb266, _, none⟩) NB287_266.out _).trans (((cell_far (p := ⟨gb266, _, none⟩) NB287_266.out _).trans (hHeld.2.2.1)))))))), ((cell_far (p := ⟨gb266, _, none⟩) NB287_266.out _).trans (((cell_far (p := ⟨gb266, _, none⟩) NB287_266.out _).trans (((cell_far (p := ⟨gb266, _, none⟩) NB287_266.out _).trans (((cell_far (p := ⟨gb266, _, none⟩) NB287_266.out _).trans (hHeld.2.2.2.1)))))))), ((cell_far (p := ⟨gb266, _, none⟩) NB287_266.out _).trans (((cell_far (p := ⟨gb266, _, none⟩) NB287_266.out _).trans (((cell_far (p := ⟨gb266, _, none⟩) NB287_266.out _).trans (((cell_far (p := ⟨gb266, _, none⟩) NB287_266.out _).trans (hHeld.2.2.2.2.1)))))))), ((cell_far (p := ⟨gb266, _, none⟩) NB287_266.out _).trans (((cell_far (p := ⟨gb266, _, none⟩) NB287_266.out _).trans (((cell_far (p := ⟨gb266, _, none⟩) NB287_266.out _).trans (((cell_far (p := ⟨gb266, _, none⟩) NB287_266.out _).trans (hHeld.2.2.2.2.2.1)))))))), ((cell_far (p := ⟨gb266, _, none⟩) NB287_266.out _).trans (((cell_far (p := ⟨gb266, _, none⟩) NB287_266.out _).trans (((cell_far (p := ⟨gb266, _, none⟩) NB287_266.out _).trans (((cell_far (p := ⟨gb266, _, none⟩) NB287_266.out _).trans (hHeld.2.2.2.2.2.2.1)))))))), ((cell_far (p := ⟨gb266, _, none⟩) NB287_266.out _).trans (((cell_far (p := ⟨gb266, _, none⟩) NB287_266.out _).trans (((cell_far (p := ⟨gb266, _, none⟩) NB287_266.out _).trans (((cell_far (p := ⟨gb266, _, none⟩) NB287_266.out _).trans (hHeld.2.2.2.2.2.2.2.1)))))))), ((cell_far (p := ⟨gb266, _, none⟩) NB287_266.out _).trans (((cell_far (p := ⟨gb266, _, none⟩) NB287_266.out _).trans (((cell_far (p := ⟨gb266, _, none⟩) NB287_266.out _).trans (((cell_far (p := ⟨gb266, _, none⟩) NB287_266.out _).trans (hHeld.2.2.2.2.2.2.2.2))))))))⟩ (fun hHeld => ?_)
                                          clear hK K
                                          refine done_ (done_of HT_.out (by kernel_rfl)) ?_
                                          try go_wp2
                                          go_roundg k4
                                          case measure => have := HJ5.out; have := HK2.out; have := HJ10.out; have := HK4.out; omega
                                          case rel => exact ⟨(y288), (t283), (t284), (t285), (t286), H', ⟨by have := HJ5.out; have := HK2.out; have := HJ10.out; have := HK4.out; omega⟩, ⟨by (with_reducible repeat (first | apply Kd.V_alloc | apply Kd.V_drewN | apply Kd.V_drew)); exact Kd.V_mono (Kd.V_far (p := ⟨gb266, 3, none⟩) (Kd.V_far (p := ⟨gb266, 2, none⟩) (Kd.V_far (p := ⟨gb266, 1, none⟩) (Kd.V_far (p := ⟨gb266, 0, none⟩) (Kd.V_mono HO292.out (fun k_ hk => (⟨hk, hk.1⟩ : _ ∧ k_ ≠ gb266))) (fun _ hk => hk.2) (.int .i64 t283)) (fun _ hk => hk.2) (.int .i64 t284)) (fun _ hk => hk.2) (.int .u32 t285)) (fun _ hk => hk.2) (.int .i32 t286)) (fun _ hk => hk.1.1)⟩, ⟨by (with_reducible repeat (first | refine blk_drewN ?_ _ | refine blk_drew ?_ | refine blk_alloc ?_ _)); refine blk_put (cs := #[.int .i64 t283, .int .i64 t284, .int .u32 t285, .int .i32 x267003_4]) ?_ 3 _ rfl; (with_reducible repeat (first | refine blk_drewN ?_ _ | refine blk_drew ?_ | refine blk_alloc ?_ _)); refine blk_put (cs := #[.int .i64 t283, .int .i64 t284, .int .u32 x267002_4, .int .i32 x267003_4]) ?_ 2 _ rfl; (with_reducible repeat (first | refine blk_drewN ?_ _ | refine blk_drew ?_ | refine blk_alloc ?_ _)); refine blk_put (cs := #[.int .i64 t283, .int .i64 x267001_4, .int .u32 x267002_4, .int .i32 x267003_4]) ?_ 1 _ rfl; (with_reducible repeat (first | refine blk_drewN ?_ _ | refine blk_drew ?_ | refine blk_alloc ?_ _)); refine blk_put (cs := #[.int .i64 x267000_4, .int .i64 x267001_4, .int .u32 x267002_4, .int .i32 x267003_4]) ?_ 0 _ rfl; (with_reducible repeat (first | refine blk_drewN ?_ _ | refine blk_drew ?_ | refine blk_alloc ?_ _)); exact BK266.out⟩, ⟨by repeat (first | (with_reducible first | exact HB.out | apply below_alloc | apply pw_below_drewN | apply below_drew1 | refine below_set ?_ GE266.out | refine below_set ?_ GE287.out) | exact HB.out)⟩⟩
                                        · rw [if_neg c81] at H
                                          exact absurd H (by simp)
                                      · rw [if_neg c80] at H
                                        exact absurd H (by simp)
                                · rw [if_neg c65] at H
                                  have c65b0 : (t278 == 0) = false := beq_eq_false_iff_ne.mpr c65
                                  have c65b1 : (t278 != 0) = true := bne_iff_ne.mpr c65
                                  obtain rfl := Option.some.inj H
                                  obtain ⟨Ao95, co95, eo95⟩ := Kd.V_slice HO_12.out
                                  subst eo95
                                  have hcz96_0 : wr.cell? ⟨gb266, 0, none⟩ = some (.int .i64 x267000_4) := (blk_cell BK266.out 0).trans rfl
                                  have hcz96_1 : wr.cell? ⟨gb266, 1, none⟩ = some (.int .i64 x267001_4) := (blk_cell BK266.out 1).trans rfl
                                  have hcz96_2 : wr.cell? ⟨gb266, 2, none⟩ = some (.int .u32 x267002_4) := (blk_cell BK266.out 2).trans rfl
                                  have hcz96_3 : wr.cell? ⟨gb266, 3, none⟩ = some (.int .i32 x267003_4) := (blk_cell BK266.out 3).trans rfl
                                  have hfz96_0 := blk_frozen BK266.out 0
                                  have hfz96_1 := blk_frozen BK266.out 1
                                  have hfz96_2 := blk_frozen BK266.out 2
                                  have hfz96_3 := blk_frozen BK266.out 3
                                  go_wp2_with (first | ((with_reducible refine gate_callee (f := 32) rfl ?_); refine goesL_ (some 62) rfl rfl Try.func32 (by kernel_rfl) rfl #[.int .i64 x7_5, .agg #[.int .i64 x267000_4, .int .i64 x267001_4, .int .u32 x267002_4, .int .i32 x267003_4], .slice Ao95 x12_4.length co95] rfl (by (try simp only [List.map_toArray, List.map_cons, List.map_nil]); first | done | rfl | (simp only [List.length_drop, List.length_take]; rfl)) ?_; (with_reducible refine (iso2022_Get.calls k4 x7_5 x267000_4 x267001_4 x267002_4 x267003_4 _ _ x12_4 t278 t279 t280 t281 t282 t283 t284 t285 t286 _ ?side1 ?side2 A57.out).mono ?_); (case side1 => repeat (first | exact (Kd.V_reads' HO_12.out).2.2 | (with_reducible refine Kd.C_alloc ?_ _) | (with_reducible refine Kd.C_drewN ?_ _) | (with_reducible refine Kd.C_drew ?_))); (case side2 => exact (Kd.V_reads' HO_12.out).2.1); rintro e w97 ⟨rfl, hb⟩; refine ⟨_, rfl, ?_⟩; have n0_ := Aside0.mk (Kd.V_below (by (with_reducible repeat (first | apply Kd.V_alloc | apply Kd.V_drewN | apply Kd.V_drew)); exact HO_12.out) hb); have n1_ := Aside0.mk (blk_below (g := gb266) (o := .cells #[.int .i64 x267000_4, .int .i64 x267001_4, .int .u32 x267002_4, .int .i32 x267003_4] 25 (0, 0)) (by (with_reducible repeat (first | refine blk_drewN ?_ _ | refine blk_drew ?_ | refine blk_alloc ?_ _)); exact BK266.out) hb); have n2_ := Aside0.mk (below_step (by repeat (first | (with_reducible first | exact HB.out | apply below_alloc | apply pw_below_drewN | apply below_drew1 | refine below_set ?_ GE266.out) | exact HB.out)) hb); clear HO_12; clear BK266; clear HB; have HO_12 := n0_; have BK266 := n1_; have HB := n2_; clear n0_ n1_ n2_; (try clear hb); (try clear hb2); (try clear hk); (try clear hi)) | ((with_reducible refine gate_dst (N := 13) rfl ?_); (try (refine gate_guard (by rfl) ?_; dsimp only)); refine box_event ?hg (N := 13) ?hd (cs := #[.int .i64 0, .int .i64 0, .int .i64 0, .int .i32 0, .int .i32 0, .int .i64 0, .int .i64 0, .int .u32 0, .int .i32 0]) (t := 36) ?hr ?_; (case hd => rfl); (case hg => rfl); (case hr => first | (go_simp; done) | (go_simp; rfl)); intro gb287 hg w98 hbox hb; have n0_ := Aside0.mk (Kd.V_below (Kd.V_elderB (by (with_reducible repeat (first | apply Kd.V_alloc | apply Kd.V_drewN | apply Kd.V_drew)); exact HO_12.out) gb287 (Nat.le_of_eq hg.symm)) hb); have n1_ := Aside0.mk (blk_below (g := gb266) (o := .cells #[.int .i64 x267000_4, .int .i64 x267001_4, .int .u32 x267002_4, .int .i32 x267003_4] 25 (0, 0)) (by (with_reducible repeat (first | refine blk_drewN ?_ _ | refine blk_drew ?_ | refine blk_alloc ?_ _)); exact BK266.out) hb); have n2_ := Aside0.mk (below_step (by repeat (first | (with_reducible first | exact HB.out | apply below_alloc | apply pw_below_drewN | apply below_drew1 | refine below_set ?_ GE266.out) | exact HB.out)) hb); have n3_ := Aside0.mk (hbox); have n4_ := Aside0.mk ((by rw [hg]; exact (below_size (by repeat (first | (with_reducible first | exact HB.out | apply below_alloc | apply pw_below_drewN | apply below_drew1 | refine below_set ?_ GE266.out) | exact HB.out))) : w.heap.size ≤ gb287)); have n5_ := Aside0.mk ((by rw [hg]; exact (below_size (by repeat (first | (with_reducible first | exact HB.out | apply below_alloc | apply pw_below_drewN | apply below_drew1 | refine below_set ?_ GE266.out) | exact HB.out))) : w.heap.size ≤ gb287)); have n6_ := Aside0.mk ((by rw [hg]; exact Nat.ne_of_lt (blk_lt (g := gb266) (o := .cells #[.int .i64 x267000_4, .int .i64 x267001_4, .int .u32 x267002_4, .int .i32 x267003_4] 25 (0, 0)) (by (with_reducible repeat (first | refine blk_drewN ?_ _ | refine blk_drew ?_ | refine blk_alloc ?_ _)); exact BK266.out)) : gb266 ≠ gb287)); have n7_ := Aside0.mk ((by rw [hg]; exact Nat.ne_of_gt (blk_lt (g := gb266) (o := .cells #[.int .i64 x267000_4, .int .i64 x267001_4, .int .u32 x267002_4, .int .i32 x267003_4] 25 (0, 0)) (by (with_reducible repeat (first | refine blk_drewN ?_ _ | refine blk_drew ?_ | refine blk_alloc ?_ _)); exact BK266.out)) : gb287 ≠ gb266)); clear HO_12; clear BK266; clear HB; have HO_12 := n0_; have BK266 := n1_; have HB := n2_; have BK287 := n3_; have GW287 := n4_; have GE287 := n5_; have NB266_287 := n6_; have NB287_266 := n7_; clear n0_ n1_ n2_ n3_ n4_ n5_ n6_ n7_; clear hb hbox hg; have hnb99 := NB287_266.out; have hnc99 := NB266_287.out; have hcz100_0 : w98.cell? ⟨gb287, 0, none⟩ = some (.int .i64 0) := (blk_cell BK287.out 0).trans rfl; have hcz100_1 : w98.cell? ⟨gb287, 1, none⟩ = some (.int .i64 0) := (blk_cell BK287.out 1).trans rfl; have hcz100_2 : w98.cell? ⟨gb287, 2, none⟩ = some (.int .i64 0) := (blk_cell BK287.out 2).trans rfl; have hcz100_3 : w98.cell? ⟨gb287, 3, none⟩ = some (.int .i32 0) := (blk_cell BK287.out 3).trans rfl; have hcz100_4 : w98.cell? ⟨gb287, 4, none⟩ = some (.int .i32 0) := (blk_cell BK287.out 4).trans rfl; have hcz100_5 : w98.cell? ⟨gb287, 5, none⟩ = some (.int .i64 0) := (blk_cell BK287.out 5).trans rfl; have hcz100_6 : w98.cell? ⟨gb287, 6, none⟩ = some (.int .i64 0) := (blk_cell BK287.out 6).trans rfl; have hcz100_7 : w98.cell? ⟨gb287, 7, none⟩ = some (.int .u32 0) := (blk_cell BK287.out 7).trans rfl; have hcz100_8 : w98.cell? ⟨gb287, 8, none⟩ = some (.int .i32 0) := (blk_cell BK287.out 8).trans rfl; have hfz100_0 := blk_frozen BK287.out 0; have hfz100_1 := blk_frozen BK287.out 1; have hfz100_2 := blk_frozen BK287.out 2; have hfz100_3 := blk_frozen BK287.out 3; have hfz100_4 := blk_frozen BK287.out 4; have hfz100_5 := blk_frozen BK287.out 5; have hfz100_6 := blk_frozen BK287.out 6; have hfz100_7 := blk_frozen BK287.out 7; have hfz100_8 := blk_frozen BK287.out 8))
                                  go_ret
                                  exact ⟨by first | rfl | (simp [errW_none, errW_some] <;> rfl) | (simp only [← hji50]; first | rfl | (simp [errW_none, errW_some] <;> rfl)) | (simp [*, errW_none, errW_some] <;> rfl), by repeat (first | (with_reducible first | exact HB.out | apply below_alloc | apply pw_below_drewN | apply below_drew1 | refine below_set ?_ GE266.out | refine below_set ?_ GE287.out) | exact HB.out)⟩
                            · rw [if_neg c56] at H
                              have c56b0 : decide (0 < (x12_4.length : Int)) = false := decide_eq_false c56
                              have c56b1 : decide (0 < x12_4.length) = false := decide_eq_false (by omega)
                              clear c56
                              obtain rfl := Option.some.inj H
                              obtain ⟨Ao101, co101, eo101⟩ := Kd.V_slice HO_12.out
                              subst eo101
                              go_wp2
                              go_ret
                              exact ⟨by first | rfl | (simp [errW_none, errW_some] <;> rfl) | (simp only [← hji50]; first | rfl | (simp [errW_none, errW_some] <;> rfl)) | (simp [*, errW_none, errW_some] <;> rfl), by repeat (first | (with_reducible first | exact HB.out | apply below_alloc | apply pw_below_drewN | apply below_drew1 | refine below_set ?_ GE266.out) | exact HB.out)⟩
                      · rw [if_neg c52] at H
                        exact absurd H (by simp)
                    · rw [if_neg c51] at H
                      exact absurd H (by simp)
  · replace c5 := Bool.eq_false_iff.mpr c5
    subst c5
    have H1 : (some false) = some r := by rw [if_neg (show ¬ (false = true) by decide)] at H; exact H
    clear H
    have H := H1
    clear H1
    obtain rfl := Option.some.inj H
    go_enter Try.func14, Try.ntmps14
    go_wp2_with (first | ((with_reducible refine gate_callee (f := 40) rfl ?_); refine goesL_ (some 14) rfl rfl Try.func40 (by kernel_rfl) rfl #[] rfl (by (try simp only [List.map_toArray, List.map_cons, List.map_nil]); first | done | rfl | (simp only [List.length_drop, List.length_take]; rfl)) ?_; (with_reducible refine (dragomanlaw21_works.calls k  false _ A4.out).mono ?_); rintro e w102 ⟨rfl, hb⟩; refine ⟨_, rfl, ?_⟩; have n0_ := Aside0.mk (below_step (by repeat (first | (with_reducible first | exact HB.out | apply below_alloc | apply pw_below_drewN | apply below_drew1) | exact HB.out)) hb); clear HB; have HB := n0_; clear n0_; (try clear hb); (try clear hb2); (try clear hk); (try clear hi)))
    go_ret
    exact ⟨by first | rfl | (simp [errW_none, errW_some] <;> rfl) | (simp [*, errW_none, errW_some] <;> rfl), by repeat (first | (with_reducible first | exact HB.out | apply below_alloc | apply pw_below_drewN | apply below_drew1) | exact HB.out)⟩

/-- THE ONE PURE STATEMENT of dragomanlaw21_Iso2022Cuts: yours. -/
def dragomanlaw21_Iso2022Cuts.Pure : Prop := ∀ (a0 : Bool) (l1 : List Int) (a2 : Int), l1.length ≤ maxLen → l1.length * 4 ≤ 140737488351232 → (∀ x ∈ l1, (Lit.int .i32 x).wf = true) → (Lit.int .i64 a2).wf = true → ∃ k, dragomanlaw21_Iso2022Cuts.f k a0 l1 a2 = some true
theorem dragomanlaw21_Iso2022Cuts.walk (P : dragomanlaw21_Iso2022Cuts.Pure) (a0 : Bool) (a1 : Option Addr) (len1 cap1 : Nat) (z1 : List Int) (a2 : Int) (w : World) (w1 : (a1 = none ∧ len1 = 0 ∧ cap1 = 0 ∧ z1 = []) ∨ ∃ x, a1 = some x ∧ len1 ≤ cap1 ∧ cap1 ≤ maxLen ∧ z1.length = cap1 ∧ (∀ i, i < z1.length → w.cell? (x.add i) = some (.int .i32 (z1.getD i 0))) ∧ ∀ n ∈ z1, (Lit.int .i32 n).wf = true) (y1 : len1 * 4 ≤ 140737488351232) (w2 : (Lit.int .i64 a2).wf = true) :
    Calls Try.prog 14 #[.bool a0, .slice a1 len1 cap1, .int .i64 a2] w fun e w' => e = .returned (.bool true) ∧ Below w.heap.size w w' := by
  obtain ⟨l1, rfl, hr1, hm1, hw1, hc1⟩ := ReadsInt.ofRowC w1
  obtain ⟨k, h⟩ := P a0 l1 a2 hm1 y1 hw1 w2
  refine (dragomanlaw21_Iso2022Cuts.calls k a0 _ _ l1 a2 true w (Kd.C_of_reads (d := (0 : Int)) (h1 := fun _ => rfl) hr1) hc1 h).mono ?_
  rintro e w' ⟨rfl, hd⟩
  exact ⟨rfl, hd⟩

end Go.Proofs.Ytenmanionddamaa.Q
