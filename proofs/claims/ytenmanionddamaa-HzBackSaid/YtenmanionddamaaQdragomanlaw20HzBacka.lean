/- Contracts of functions that the laws reach: each call answers what the plain function beside it answers. No conditions but those that each theorem states. (Written by a patched copy of the print, wip/gen/patch_print.py, over contracts of our own.) -/
import Derived.Test.YtenmanionddamaaQ0
import Derived.Test.YtenmanionddamaaQeqa
import Derived.Test.YtenmanionddamaaQhza
import Derived.Test.YtenmanionddamaaQhzb
import Derived.Test.YtenmanionddamaaQdragomanlaw20a
namespace Go.Proofs.Ytenmanionddamaa.Q
open Go.RowKit Go.Proofs.YtenmanionddamaaW.PrintWords Go.Proofs.YtenmanionddamaaW.PrintLast Go.Proofs.YtenmanionddamaaW.PrintMore
attribute [local go_sem] max2_int min2_int max_two min_two max_three min_three max_four min_four   -- for this text's walks alone
set_option linter.unusedVariables false
set_option linter.unusedSimpArgs false

attribute [local go_sem high] eqA25
/-! ### dragomanlaw20_HzBack: function 6 -/
mutual
def dragomanlaw20_HzBack.l0 : Nat → List Int → ByteArray → List Int → Int → Int → Int → Int → Int → Option (Bool)
  | 0, _, _, _, _, _, _, _, _ => none
  | k + 1, x0, x4, x5, x6, x270000, x270001, x270002, x270003 => if x6 < (x0.length : Int) then (dragomanlaw20_HzBack.j1 k x0 x4 x5 x6 (decide (x6 < 200)) x270000 x270001 x270002 x270003) else (dragomanlaw20_HzBack.j1 k x0 x4 x5 x6 false x270000 x270001 x270002 x270003)
def dragomanlaw20_HzBack.j1 : Nat → List Int → ByteArray → List Int → Int → Bool → Int → Int → Int → Int → Option (Bool)
  | 0, _, _, _, _, _, _, _, _, _ => none
  | k + 1, x0, x4, x5, x6, x23, x270000, x270001, x270002, x270003 => if x23 = true then (if 0 ≤ x6 then (if x6 < (x0.length : Int) then ((hz_Set.f k x270000 x270001 x270002 x270003 (rd x0 x6)).bind fun bt271 => (if bt271.1 = 0 then (if x4.size + bt271.2.1.size ≤ 9223372036854775807 then (if x5.length < 35184372088832 then (dragomanlaw20_HzBack.l0 k x0 (x4 ++ bt271.2.1) (x5 ++ [rd x0 x6]) (wrap64 (x6 + 1)) bt271.2.2.1 bt271.2.2.2.1 bt271.2.2.2.2.1 bt271.2.2.2.2.2) else (none)) else (none)) else (dragomanlaw20_HzBack.l0 k x0 x4 x5 (wrap64 (x6 + 1)) x270000 x270001 x270002 x270003))) else (none)) else (none)) else ((hz_End.f x270000 x270001 x270002 x270003).bind fun bt282 => (if bt282.2 = 0 then (if x4.size + bt282.1.size ≤ 9223372036854775807 then (dragomanlaw20_HzBack.l1 k (x4 ++ bt282.1) x5 0 0 0 0 0) else (none)) else (some false)))
def dragomanlaw20_HzBack.l1 : Nat → ByteArray → List Int → Int → Int → Int → Int → Int → Option (Bool)
  | 0, _, _, _, _, _, _, _ => none
  | k + 1, x4, x5, x10, x270000, x270001, x270002, x270003 => if (x4.size : Int) > 0 then ((strbytes.f x4).bind fun t284 => ((hz_Get.f k x270000 x270001 x270002 x270003 t284).bind fun bt287 => (if bt287.1 = 0 then (if bt287.2.1 < 1 then (dragomanlaw20_HzBack.j3 k x4 x5 x10 true bt287.1 bt287.2.1 bt287.2.2.1 bt287.2.2.2.1 bt287.2.2.2.2.1 bt287.2.2.2.2.2.1 bt287.2.2.2.2.2.2.1 bt287.2.2.2.2.2.2.2.1 bt287.2.2.2.2.2.2.2.2) else (if bt287.2.1 > (x4.size : Int) then (dragomanlaw20_HzBack.j3 k x4 x5 x10 true bt287.1 bt287.2.1 bt287.2.2.1 bt287.2.2.2.1 bt287.2.2.2.2.1 bt287.2.2.2.2.2.1 bt287.2.2.2.2.2.2.1 bt287.2.2.2.2.2.2.2.1 bt287.2.2.2.2.2.2.2.2) else (dragomanlaw20_HzBack.j3 k x4 x5 x10 (decide (bt287.2.2.1 > 1)) bt287.1 bt287.2.1 bt287.2.2.1 bt287.2.2.2.1 bt287.2.2.2.2.1 bt287.2.2.2.2.2.1 bt287.2.2.2.2.2.2.1 bt287.2.2.2.2.2.2.2.1 bt287.2.2.2.2.2.2.2.2))) else (dragomanlaw20_HzBack.j3 k x4 x5 x10 true bt287.1 bt287.2.1 bt287.2.2.1 bt287.2.2.2.1 bt287.2.2.2.2.1 bt287.2.2.2.2.2.1 bt287.2.2.2.2.2.2.1 bt287.2.2.2.2.2.2.2.1 bt287.2.2.2.2.2.2.2.2)))) else (if x10 = (x5.length : Int) then (some (x270000 == 0 && (x270001 == 0 && (x270002 == 0 && (x270003 == 0))))) else (some false))
def dragomanlaw20_HzBack.j3 : Nat → ByteArray → List Int → Int → Bool → Int → Int → Int → Int → Int → Int → Int → Int → Int → Option (Bool)
  | 0, _, _, _, _, _, _, _, _, _, _, _, _, _ => none
  | k + 1, x4, x5, x10, x85, x297000, x297001, x297002, x297003, x297004, x297005, x297006, x297007, x297008 => if x85 = true then (some false) else (dragomanlaw20_HzBack.l2 k x4 x5 x10 0 x297000 x297001 x297002 x297003 x297004 x297005 x297006 x297007 x297008)
def dragomanlaw20_HzBack.l2 : Nat → ByteArray → List Int → Int → Int → Int → Int → Int → Int → Int → Int → Int → Int → Int → Option (Bool)
  | 0, _, _, _, _, _, _, _, _, _, _, _, _, _ => none
  | k + 1, x4, x5, x10, x12, x297000, x297001, x297002, x297003, x297004, x297005, x297006, x297007, x297008 => if x12 < x297001 then (if 0 ≤ x12 then (if x12 < (x4.size : Int) then (if (bt x4 x12) ≥ 128 then (some false) else (dragomanlaw20_HzBack.l2 k x4 x5 x10 (wrap64 (x12 + 1)) x297000 x297001 x297002 x297003 x297004 x297005 x297006 x297007 x297008)) else (none)) else (none)) else (if x297002 = 1 then (if x10 ≥ (x5.length : Int) then (some false) else (if 0 ≤ x10 then (if x10 < (x5.length : Int) then (if (rd x5 x10) = x297003 then (if 0 ≤ x297001 then (if x297001 ≤ (x4.size : Int) then (dragomanlaw20_HzBack.l1 k (x4.extract (x297001 : Int).toNat x4.size) x5 (wrap64 (x10 + 1)) x297005 x297006 x297007 x297008) else (none)) else (none)) else (some false)) else (none)) else (none))) else (if 0 ≤ x297001 then (if x297001 ≤ (x4.size : Int) then (dragomanlaw20_HzBack.l1 k (x4.extract (x297001 : Int).toNat x4.size) x5 x10 x297005 x297006 x297007 x297008) else (none)) else (none)))
end
def dragomanlaw20_HzBack.f (k : Nat) (l0 : List Int) : Option (Bool) := (dragomanlaw20_works.f k).bind fun t268 => (if t268 = true then (dragomanlaw20_HzBack.l0 k l0 (⟨#[]⟩ : ByteArray) ([] : List Int) 0 0 0 0 0) else (some false))
theorem dragomanlaw20_HzBack.mono_l : ∀ k, (∀ y0 y1 y2 y3 y4 y5 y6 y7, LeO (dragomanlaw20_HzBack.l0 k y0 y1 y2 y3 y4 y5 y6 y7) (dragomanlaw20_HzBack.l0 (k + 1) y0 y1 y2 y3 y4 y5 y6 y7)) ∧ (∀ y0 y1 y2 y3 y4 y5 y6 y7 y8, LeO (dragomanlaw20_HzBack.j1 k y0 y1 y2 y3 y4 y5 y6 y7 y8) (dragomanlaw20_HzBack.j1 (k + 1) y0 y1 y2 y3 y4 y5 y6 y7 y8)) ∧ (∀ y0 y1 y2 y3 y4 y5 y6, LeO (dragomanlaw20_HzBack.l1 k y0 y1 y2 y3 y4 y5 y6) (dragomanlaw20_HzBack.l1 (k + 1) y0 y1 y2 y3 y4 y5 y6)) ∧ (∀ y0 y1 y2 y3 y4 y5 y6 y7 y8 y9 y10 y11 y12, LeO (dragomanlaw20_HzBack.j3 k y0 y1 y2 y3 y4 y5 y6 y7 y8 y9 y10 y11 y12) (dragomanlaw20_HzBack.j3 (k + 1) y0 y1 y2 y3 y4 y5 y6 y7 y8 y9 y10 y11 y12)) ∧ (∀ y0 y1 y2 y3 y4 y5 y6 y7 y8 y9 y10 y11 y12, LeO (dragomanlaw20_HzBack.l2 k y0 y1 y2 y3 y4 y5 y6 y7 y8 y9 y10 y11 y12) (dragomanlaw20_HzBack.l2 (k + 1) y0 y1 y2 y3 y4 y5 y6 y7 y8 y9 y10 y11 y12))
  | 0 => ⟨fun _ _ _ _ _ _ _ _ r h => by simp [dragomanlaw20_HzBack.l0] at h, fun _ _ _ _ _ _ _ _ _ r h => by simp [dragomanlaw20_HzBack.j1] at h, fun _ _ _ _ _ _ _ r h => by simp [dragomanlaw20_HzBack.l1] at h, fun _ _ _ _ _ _ _ _ _ _ _ _ _ r h => by simp [dragomanlaw20_HzBack.j3] at h, fun _ _ _ _ _ _ _ _ _ _ _ _ _ r h => by simp [dragomanlaw20_HzBack.l2] at h⟩
  | k + 1 => by
    obtain ⟨ih0, ih1, ih2, ih3, ih4⟩ := dragomanlaw20_HzBack.mono_l k
    refine ⟨?_, ?_, ?_, ?_, ?_⟩
    · intro y0 y1 y2 y3 y4 y5 y6 y7
      unfold dragomanlaw20_HzBack.l0
      repeat' first
      | (with_reducible exact ih0 _ _ _ _ _ _ _ _)
      | (with_reducible exact ih1 _ _ _ _ _ _ _ _ _)
      | (with_reducible exact ih2 _ _ _ _ _ _ _)
      | (with_reducible exact ih3 _ _ _ _ _ _ _ _ _ _ _ _ _)
      | (with_reducible exact ih4 _ _ _ _ _ _ _ _ _ _ _ _ _)
      | (with_reducible exact dragomanlaw20_works.mono _)
      | (with_reducible exact hz_Get.mono _ _ _ _ _ _)
      | (with_reducible exact hz_Set.mono _ _ _ _ _ _)
      | (with_reducible exact LeO.refl _)
      | (with_reducible exact LeO.none _)
      | (with_reducible refine LeO.ite ?_ ?_)
      | (with_reducible refine LeO.bind ?_ (fun _ => ?_))
      | exact ih0 _ _ _ _ _ _ _ _
      | exact ih1 _ _ _ _ _ _ _ _ _
      | exact ih2 _ _ _ _ _ _ _
      | exact ih3 _ _ _ _ _ _ _ _ _ _ _ _ _
      | exact ih4 _ _ _ _ _ _ _ _ _ _ _ _ _
      | exact dragomanlaw20_works.mono _
      | exact hz_Get.mono _ _ _ _ _ _
      | exact hz_Set.mono _ _ _ _ _ _
      | exact LeO.none _
      | refine LeO.ite ?_ ?_
      | refine LeO.bind ?_ (fun _ => ?_)
    · intro y0 y1 y2 y3 y4 y5 y6 y7 y8
      unfold dragomanlaw20_HzBack.j1
      repeat' first
      | (with_reducible exact ih0 _ _ _ _ _ _ _ _)
      | (with_reducible exact ih1 _ _ _ _ _ _ _ _ _)
      | (with_reducible exact ih2 _ _ _ _ _ _ _)
      | (with_reducible exact ih3 _ _ _ _ _ _ _ _ _ _ _ _ _)
      | (with_reducible exact ih4 _ _ _ _ _ _ _ _ _ _ _ _ _)
      | (with_reducible exact dragomanlaw20_works.mono _)
      | (with_reducible exact hz_Get.mono _ _ _ _ _ _)
      | (with_reducible exact hz_Set.mono _ _ _ _ _ _)
      | (with_reducible exact LeO.refl _)
      | (with_reducible exact LeO.none _)
      | (with_reducible refine LeO.ite ?_ ?_)
      | (with_reducible refine LeO.bind ?_ (fun _ => ?_))
      | exact ih0 _ _ _ _ _ _ _ _
      | exact ih1 _ _ _ _ _ _ _ _ _
      | exact ih2 _ _ _ _ _ _ _
      | exact ih3 _ _ _ _ _ _ _ _ _ _ _ _ _
      | exact ih4 _ _ _ _ _ _ _ _ _ _ _ _ _
      | exact dragomanlaw20_works.mono _
      | exact hz_Get.mono _ _ _ _ _ _
      | exact hz_Set.mono _ _ _ _ _ _
      | exact LeO.none _
      | refine LeO.ite ?_ ?_
      | refine LeO.bind ?_ (fun _ => ?_)
    · intro y0 y1 y2 y3 y4 y5 y6
      unfold dragomanlaw20_HzBack.l1
      repeat' first
      | (with_reducible exact ih0 _ _ _ _ _ _ _ _)
      | (with_reducible exact ih1 _ _ _ _ _ _ _ _ _)
      | (with_reducible exact ih2 _ _ _ _ _ _ _)
      | (with_reducible exact ih3 _ _ _ _ _ _ _ _ _ _ _ _ _)
      | (with_reducible exact ih4 _ _ _ _ _ _ _ _ _ _ _ _ _)
      | (with_reducible exact dragomanlaw20_works.mono _)
      | (with_reducible exact hz_Get.mono _ _ _ _ _ _)
      | (with_reducible exact hz_Set.mono _ _ _ _ _ _)
      | (with_reducible exact LeO.refl _)
      | (with_reducible exact LeO.none _)
      | (with_reducible refine LeO.ite ?_ ?_)
      | (with_reducible refine LeO.bind ?_ (fun _ => ?_))
      | exact ih0 _ _ _ _ _ _ _ _
      | exact ih1 _ _ _ _ _ _ _ _ _
      | exact ih2 _ _ _ _ _ _ _
      | exact ih3 _ _ _ _ _ _ _ _ _ _ _ _ _
      | exact ih4 _ _ _ _ _ _ _ _ _ _ _ _ _
      | exact dragomanlaw20_works.mono _
      | exact hz_Get.mono _ _ _ _ _ _
      | exact hz_Set.mono _ _ _ _ _ _
      | exact LeO.none _
      | refine LeO.ite ?_ ?_
      | refine LeO.bind ?_ (fun _ => ?_)
    · intro y0 y1 y2 y3 y4 y5 y6 y7 y8 y9 y10 y11 y12
      unfold dragomanlaw20_HzBack.j3
      repeat' first
      | (with_reducible exact ih0 _ _ _ _ _ _ _ _)
      | (with_reducible exact ih1 _ _ _ _ _ _ _ _ _)
      | (with_reducible exact ih2 _ _ _ _ _ _ _)
      | (with_reducible exact ih3 _ _ _ _ _ _ _ _ _ _ _ _ _)
      | (with_reducible exact ih4 _ _ _ _ _ _ _ _ _ _ _ _ _)
      | (with_reducible exact dragomanlaw20_works.mono _)
      | (with_reducible exact hz_Get.mono _ _ _ _ _ _)
      | (with_reducible exact hz_Set.mono _ _ _ _ _ _)
      | (with_reducible exact LeO.refl _)
      | (with_reducible exact LeO.none _)
      | (with_reducible refine LeO.ite ?_ ?_)
      | (with_reducible refine LeO.bind ?_ (fun _ => ?_))
      | exact ih0 _ _ _ _ _ _ _ _
      | exact ih1 _ _ _ _ _ _ _ _ _
      | exact ih2 _ _ _ _ _ _ _
      | exact ih3 _ _ _ _ _ _ _ _ _ _ _ _ _
      | exact ih4 _ _ _ _ _ _ _ _ _ _ _ _ _
      | exact dragomanlaw20_works.mono _
      | exact hz_Get.mono _ _ _ _ _ _
      | exact hz_Set.mono _ _ _ _ _ _
      | exact LeO.none _
      | refine LeO.ite ?_ ?_
      | refine LeO.bind ?_ (fun _ => ?_)
    · intro y0 y1 y2 y3 y4 y5 y6 y7 y8 y9 y10 y11 y12
      unfold dragomanlaw20_HzBack.l2
      repeat' first
      | (with_reducible exact ih0 _ _ _ _ _ _ _ _)
      | (with_reducible exact ih1 _ _ _ _ _ _ _ _ _)
      | (with_reducible exact ih2 _ _ _ _ _ _ _)
      | (with_reducible exact ih3 _ _ _ _ _ _ _ _ _ _ _ _ _)
      | (with_reducible exact ih4 _ _ _ _ _ _ _ _ _ _ _ _ _)
      | (with_reducible exact dragomanlaw20_works.mono _)
      | (with_reducible exact hz_Get.mono _ _ _ _ _ _)
      | (with_reducible exact hz_Set.mono _ _ _ _ _ _)
      | (with_reducible exact LeO.refl _)
      | (with_reducible exact LeO.none _)
      | (with_reducible refine LeO.ite ?_ ?_)
      | (with_reducible refine LeO.bind ?_ (fun _ => ?_))
      | exact ih0 _ _ _ _ _ _ _ _
      | exact ih1 _ _ _ _ _ _ _ _ _
      | exact ih2 _ _ _ _ _ _ _
      | exact ih3 _ _ _ _ _ _ _ _ _ _ _ _ _
      | exact ih4 _ _ _ _ _ _ _ _ _ _ _ _ _
      | exact dragomanlaw20_works.mono _
      | exact hz_Get.mono _ _ _ _ _ _
      | exact hz_Set.mono _ _ _ _ _ _
      | exact LeO.none _
      | refine LeO.ite ?_ ?_
      | refine LeO.bind ?_ (fun _ => ?_)
theorem dragomanlaw20_HzBack.mono : ∀ a0 k, LeO (dragomanlaw20_HzBack.f k a0) (dragomanlaw20_HzBack.f (k + 1) a0) := by
  intro a0 k
  obtain ⟨ih0, ih1, ih2, ih3, ih4⟩ := dragomanlaw20_HzBack.mono_l k
  unfold dragomanlaw20_HzBack.f
  repeat' first
      | (with_reducible exact ih0 _ _ _ _ _ _ _ _)
      | (with_reducible exact ih1 _ _ _ _ _ _ _ _ _)
      | (with_reducible exact ih2 _ _ _ _ _ _ _)
      | (with_reducible exact ih3 _ _ _ _ _ _ _ _ _ _ _ _ _)
      | (with_reducible exact ih4 _ _ _ _ _ _ _ _ _ _ _ _ _)
      | (with_reducible exact dragomanlaw20_works.mono _)
      | (with_reducible exact hz_Get.mono _ _ _ _ _ _)
      | (with_reducible exact hz_Set.mono _ _ _ _ _ _)
      | (with_reducible exact LeO.refl _)
      | (with_reducible exact LeO.none _)
      | (with_reducible refine LeO.ite ?_ ?_)
      | (with_reducible refine LeO.bind ?_ (fun _ => ?_))
      | exact ih0 _ _ _ _ _ _ _ _
      | exact ih1 _ _ _ _ _ _ _ _ _
      | exact ih2 _ _ _ _ _ _ _
      | exact ih3 _ _ _ _ _ _ _ _ _ _ _ _ _
      | exact ih4 _ _ _ _ _ _ _ _ _ _ _ _ _
      | exact dragomanlaw20_works.mono _
      | exact hz_Get.mono _ _ _ _ _ _
      | exact hz_Set.mono _ _ _ _ _ _
      | exact LeO.none _
      | refine LeO.ite ?_ ?_
      | refine LeO.bind ?_ (fun _ => ?_)
def dragomanlaw20_HzBack.T9 : Bool × List (List Nat × List Nat) := (true, [([], []), ([], []), ([], []), ([1, 2], [1, 2]), ([3], [3]), ([0, 4], [0, 4]), ([], []), ([6, 5, 5, 0, 1, 2, 3, 4, 5, 6], [5, 6])])
def dragomanlaw20_HzBack.B9 : List Nat := [0, 0, 0, 6, 14, 31, 0, 127]
theorem dragomanlaw20_HzBack.tab9 : rtab .any (opsOf Try.f6 9) = dragomanlaw20_HzBack.T9 := by kernel_rfl
theorem dragomanlaw20_HzBack.bits9 : waitsOk dragomanlaw20_HzBack.T9.2 dragomanlaw20_HzBack.B9 = true := by kernel_rfl
def dragomanlaw20_HzBack.T30 : Bool × List (List Nat × List Nat) := (true, [([], []), ([], []), ([1], [1]), ([0, 2], [0, 2]), ([3], [3]), ([4], [4]), ([4], [4]), ([5, 6, 4], [4, 5, 6]), ([7, 4], [4, 7]), ([4], [4]), ([9, 4], [4, 9]), ([8, 10, 4], [4, 8, 10]), ([4, 11], [4, 11])])
def dragomanlaw20_HzBack.B30 : List Nat := [0, 0, 2, 7, 15, 31, 31, 127, 255, 31, 543, 2047, 4095]
theorem dragomanlaw20_HzBack.tab30 : rtab .any (opsOf Try.f6 30) = dragomanlaw20_HzBack.T30 := by kernel_rfl
theorem dragomanlaw20_HzBack.bits30 : waitsOk dragomanlaw20_HzBack.T30.2 dragomanlaw20_HzBack.B30 = true := by kernel_rfl
def dragomanlaw20_HzBack.T33 : Bool × List (List Nat × List Nat) := (true, [([], []), ([], []), ([1], [1]), ([0, 2], [0, 2]), ([], []), ([4], [4]), ([3, 0, 1, 2, 3], [0, 3]), ([5, 6, 0, 1, 2, 3, 4, 5, 6], [5])])
def dragomanlaw20_HzBack.B33 : List Nat := [0, 0, 2, 7, 0, 16, 15, 127]
theorem dragomanlaw20_HzBack.tab33 : rtab .any (opsOf Try.f6 33) = dragomanlaw20_HzBack.T33 := by kernel_rfl
theorem dragomanlaw20_HzBack.bits33 : waitsOk dragomanlaw20_HzBack.T33.2 dragomanlaw20_HzBack.B33 = true := by kernel_rfl
set_option maxHeartbeats 8000000 in
set_option maxRecDepth 100000 in
theorem dragomanlaw20_HzBack.calls (k : Nat) (A0 : Option Addr) (c0 : Nat) (l0 : List Int) (r : Bool) (w : World) (hr0 : Kd.C (Kd.int .i32) w A0 l0.length l0) (hc0 : l0.length ≤ c0) (h : dragomanlaw20_HzBack.f k l0 = some r) :
    Calls Try.prog 6 #[.slice A0 l0.length c0] w fun e w' => e = .returned (.bool r) ∧ Below w.heap.size w w' := by
  have hu25 := Try.underlying25
  have hu27 := Try.underlying27
  have hu36 := Try.underlying36
  have HR0 := Aside0.mk hr0
  have HC0 := Aside0.mk hc0
  clear hr0 hc0
  have HB := Aside0.mk (Below.refl w.heap.size w)
  have H : ((dragomanlaw20_works.f k).bind fun t268 => (if t268 = true then (dragomanlaw20_HzBack.l0 k l0 (⟨#[]⟩ : ByteArray) ([] : List Int) 0 0 0 0 0) else (some false))) = some r := h
  clear h
  replace H := Option.bind_eq_some_iff.mp H
  obtain ⟨t268, A20, H⟩ := H
  replace H : (if t268 = true then (dragomanlaw20_HzBack.l0 k l0 (⟨#[]⟩ : ByteArray) ([] : List Int) 0 0 0 0 0) else (some false)) = some r := H
  have A2 := Aside0.mk A20
  clear A20
  by_cases c3 : t268 = true
  · subst c3
    have H1 : (dragomanlaw20_HzBack.l0 k l0 (⟨#[]⟩ : ByteArray) ([] : List Int) 0 0 0 0 0) = some r := by rw [if_pos rfl] at H; exact H
    clear H
    have H := H1
    clear H1
    have H' := Aside0.mk H
    clear H
    go_enter Try.func6, Try.ntmps6
    go_wp2_with (first | ((with_reducible refine gate_callee (f := 27) rfl ?_); refine goesL_ (some 13) rfl rfl Try.func27 (by kernel_rfl) rfl #[] rfl (by (try simp only [List.map_toArray, List.map_cons, List.map_nil]); first | done | rfl | (simp only [List.length_drop, List.length_take]; rfl)) ?_; (with_reducible refine (dragomanlaw20_works.calls k  true _ A2.out).mono ?_); rintro e w4 ⟨rfl, hb⟩; refine ⟨_, rfl, ?_⟩; have n0_ := Aside0.mk (below_step (by repeat (first | (with_reducible first | exact HB.out | apply below_alloc | apply pw_below_drewN | apply below_drew1) | exact HB.out)) hb); clear HB; have HB := n0_; clear n0_; (try clear hb); (try clear hb2); (try clear hk); (try clear hi)) | ((with_reducible refine gate_dst (N := 3) rfl ?_); (try (refine gate_guard (by rfl) ?_; dsimp only)); refine box_event ?hg (N := 3) ?hd (cs := #[.int .i64 0, .int .i64 0, .int .u32 0, .int .i32 0]) (t := 25) ?hr ?_; (case hd => rfl); (case hg => rfl); (case hr => first | (go_simp; done) | (go_simp; rfl)); intro gb269 hg w5 hbox hb; have n0_ := Aside0.mk (below_step (by repeat (first | (with_reducible first | exact HB.out | apply below_alloc | apply pw_below_drewN | apply below_drew1) | exact HB.out)) hb); have n1_ := Aside0.mk (hbox); have n2_ := Aside0.mk ((by rw [hg]; exact (below_size (by repeat (first | (with_reducible first | exact HB.out | apply below_alloc | apply pw_below_drewN | apply below_drew1) | exact HB.out))) : w.heap.size ≤ gb269)); have n3_ := Aside0.mk ((by rw [hg]; exact (below_size (by repeat (first | (with_reducible first | exact HB.out | apply below_alloc | apply pw_below_drewN | apply below_drew1) | exact HB.out))) : w.heap.size ≤ gb269)); clear HB; have HB := n0_; have BK269 := n1_; have GW269 := n2_; have GE269 := n3_; clear n0_ n1_ n2_ n3_; clear hb hbox hg; have hcz6_0 : w5.cell? ⟨gb269, 0, none⟩ = some (.int .i64 0) := (blk_cell BK269.out 0).trans rfl; have hcz6_1 : w5.cell? ⟨gb269, 1, none⟩ = some (.int .i64 0) := (blk_cell BK269.out 1).trans rfl; have hcz6_2 : w5.cell? ⟨gb269, 2, none⟩ = some (.int .u32 0) := (blk_cell BK269.out 2).trans rfl; have hcz6_3 : w5.cell? ⟨gb269, 3, none⟩ = some (.int .i32 0) := (blk_cell BK269.out 3).trans rfl; have hfz6_0 := blk_frozen BK269.out 0; have hfz6_1 := blk_frozen BK269.out 1; have hfz6_2 := blk_frozen BK269.out 2; have hfz6_3 := blk_frozen BK269.out 3))
    go_loopg [4, 5, 6] k (fun kq v4 v5 v6 w' => ∃ (x4_1 : ByteArray) (x5_1 : List Int) (x6_1 : Int) (x270000_1 : Int) (x270001_1 : Int) (x270002_1 : Int) (x270003_1 : Int), v4 = .string x4_1 ∧ v6 = .int .i64 x6_1 ∧ Aside0 (dragomanlaw20_HzBack.l0 kq l0 x4_1 x5_1 x6_1 x270000_1 x270001_1 x270002_1 x270003_1 = some r) ∧ Aside0 (kq ≤ k) ∧ Aside0 (Kd.R (Kd.int .i32) 21 w' w.heap.size (fun _ => True) v5 x5_1) ∧ Aside0 (w'.heap[gb269]? = some (.cells #[.int .i64 x270000_1, .int .i64 x270001_1, .int .u32 x270002_1, .int .i32 x270003_1] 25 (0, 0))) ∧ Aside0 (Below w.heap.size w w'))
    case atStart => exact ⟨((⟨#[]⟩ : ByteArray)), (([] : List Int)), (0), (0), (0), (0), (0), (by first | rfl | (simp; done) | (simp [*]; done)), (by first | rfl | (simp; done) | (simp [*]; done)), H', ⟨Nat.le_refl _⟩, ⟨by first | exact Kd.R_nil _ _ _ _ _ | exact Kd.N_nil _ _ _ _ _ | exact Kd.V_nil _ _ _ _ _ | exact Kd.Q_nil _ _ _ _ _ | exact Kd.S_nil _ _ _ _ _⟩, ⟨by (with_reducible repeat (first | refine blk_drewN ?_ _ | refine blk_drew ?_ | refine blk_alloc ?_ _)); refine blk_put (cs := #[.int .i64 0, .int .i64 0, .int .u32 0, .int .i32 0]) ?_ 3 _ rfl; (with_reducible repeat (first | refine blk_drewN ?_ _ | refine blk_drew ?_ | refine blk_alloc ?_ _)); refine blk_put (cs := #[.int .i64 0, .int .i64 0, .int .u32 0, .int .i32 0]) ?_ 2 _ rfl; (with_reducible repeat (first | refine blk_drewN ?_ _ | refine blk_drew ?_ | refine blk_alloc ?_ _)); refine blk_put (cs := #[.int .i64 0, .int .i64 0, .int .u32 0, .int .i32 0]) ?_ 1 _ rfl; (with_reducible repeat (first | refine blk_drewN ?_ _ | refine blk_drew ?_ | refine blk_alloc ?_ _)); refine blk_put (cs := #[.int .i64 0, .int .i64 0, .int .u32 0, .int .i32 0]) ?_ 0 _ rfl; (with_reducible repeat (first | refine blk_drewN ?_ _ | refine blk_drew ?_ | refine blk_alloc ?_ _)); exact BK269.out⟩, ⟨by repeat (first | (with_reducible first | exact HB.out | apply below_alloc | apply pw_below_drewN | apply below_drew1 | refine below_set ?_ GE269.out) | exact HB.out)⟩⟩
    case round =>
      clear H'
      try clear c2
      try clear p2
      try clear c3
      try clear c6
      try clear hcz6_0
      try clear hcz6_1
      try clear hcz6_2
      try clear hcz6_3
      try clear hfz6_0
      try clear hfz6_1
      try clear hfz6_2
      try clear hfz6_3
      obtain ⟨x4_1, x5_1, x6_1, x270000_1, x270001_1, x270002_1, x270003_1, rfl, rfl, HA, HK1, HO_5, BK269, HB⟩ := hrel
      cases gk with
      | zero => exact absurd HA.out (by simp [dragomanlaw20_HzBack.l0])
      | succ k1 =>
        have H := HA.out
        clear HA
        simp only [dragomanlaw20_HzBack.l0] at H
        have HC7 := Aside0.mk H
        clear H
        go_upto_region 7 with (fail)
        go_cut [23] (fun v23 wc => ∃ (kq : Nat) (x23_6 : Bool), v23 = .bool x23_6 ∧ Aside0 (dragomanlaw20_HzBack.j1 kq l0 x4_1 x5_1 x6_1 x23_6 x270000_1 x270001_1 x270002_1 x270003_1 = some r) ∧ Aside0 (kq ≤ k1) ∧ Aside0 (Kd.R (Kd.int .i32) 21 wc w.heap.size (fun _ => True) u5 x5_1) ∧ Aside0 (wc.heap[gb269]? = some (.cells #[.int .i64 x270000_1, .int .i64 x270001_1, .int .u32 x270002_1, .int .i32 x270003_1] 25 (0, 0))) ∧ Aside0 (Below w.heap.size w wc))
        case first =>
          have H := HC7.out
          clear HC7
          by_cases c8 : x6_1 < (l0.length : Int)
          · rw [if_pos c8] at H
            have c8b0 : decide (x6_1 < (l0.length : Int)) = true := decide_eq_true c8
            clear c8
            (first | rw [c8b0] | (simp only [i64_w, i32_w]; rw [c8b0]) | skip)
            have H' := Aside0.mk H
            clear H
            go_wp2
            go_meet
            case rel => exact ⟨_, (decide (x6_1 < 200)), (by first | rfl | (simp; done) | (simp [*]; done)), H', ⟨by have := HK1.out; first | omega | exact Nat.le_refl _⟩, ⟨by (with_reducible repeat (first | apply Kd.R_alloc | apply Kd.R_drewN | apply Kd.R_drew)); exact HO_5.out⟩, ⟨by (with_reducible repeat (first | refine blk_drewN ?_ _ | refine blk_drew ?_ | refine blk_alloc ?_ _)); exact BK269.out⟩, ⟨by repeat (first | (with_reducible first | exact HB.out | apply below_alloc | apply pw_below_drewN | apply below_drew1 | refine below_set ?_ GE269.out) | exact HB.out)⟩⟩
          · rw [if_neg c8] at H
            have c8b0 : decide (x6_1 < (l0.length : Int)) = false := decide_eq_false c8
            clear c8
            (first | rw [c8b0] | (simp only [i64_w, i32_w]; rw [c8b0]) | skip)
            have H' := Aside0.mk H
            clear H
            go_wp2
            go_meet
            case rel => exact ⟨_, (false), (by first | rfl | (simp; done) | (simp [*]; done)), H', ⟨by have := HK1.out; first | omega | exact Nat.le_refl _⟩, ⟨by (with_reducible repeat (first | apply Kd.R_alloc | apply Kd.R_drewN | apply Kd.R_drew)); exact HO_5.out⟩, ⟨by (with_reducible repeat (first | refine blk_drewN ?_ _ | refine blk_drew ?_ | refine blk_alloc ?_ _)); exact BK269.out⟩, ⟨by repeat (first | (with_reducible first | exact HB.out | apply below_alloc | apply pw_below_drewN | apply below_drew1 | refine below_set ?_ GE269.out) | exact HB.out)⟩⟩
        case rest =>
          clear HC7
          try clear c2
          try clear p2
          try clear c3
          try clear c6
          try clear c8
          try clear c8b0
          try clear hcz6_0
          try clear hcz6_1
          try clear hcz6_2
          try clear hcz6_3
          try clear hfz6_0
          try clear hfz6_1
          try clear hfz6_2
          try clear hfz6_3
          try clear p2
          obtain ⟨kq, x23_6, rfl, HA, HJ6, HO_5, BK269, HB⟩ := hcut
          cases kq with
          | zero => exact absurd HA.out (by simp [dragomanlaw20_HzBack.j1])
          | succ kj6 =>
            have H := HA.out
            clear HA
            simp only [dragomanlaw20_HzBack.j1] at H
            by_cases c9 : x23_6 = true
            · subst c9
              have H1 : (if 0 ≤ x6_1 then (if x6_1 < (l0.length : Int) then ((hz_Set.f kj6 x270000_1 x270001_1 x270002_1 x270003_1 (rd l0 x6_1)).bind fun bt271 => (if bt271.1 = 0 then (if x4_1.size + bt271.2.1.size ≤ 9223372036854775807 then (if x5_1.length < 35184372088832 then (dragomanlaw20_HzBack.l0 kj6 l0 (x4_1 ++ bt271.2.1) (x5_1 ++ [rd l0 x6_1]) (wrap64 (x6_1 + 1)) bt271.2.2.1 bt271.2.2.2.1 bt271.2.2.2.2.1 bt271.2.2.2.2.2) else (none)) else (none)) else (dragomanlaw20_HzBack.l0 kj6 l0 x4_1 x5_1 (wrap64 (x6_1 + 1)) x270000_1 x270001_1 x270002_1 x270003_1))) else (none)) else (none)) = some r := by rw [if_pos rfl] at H; exact H
              clear H
              have H := H1
              clear H1
              by_cases c10 : 0 ≤ x6_1
              · rw [if_pos c10] at H
                have c10b0 : decide (0 ≤ x6_1) = true := decide_eq_true c10
                clear c10
                by_cases c11 : x6_1 < (l0.length : Int)
                · rw [if_pos c11] at H
                  have c11b0 : decide (x6_1 < (l0.length : Int)) = true := decide_eq_true c11
                  clear c11
                  replace H := Option.bind_eq_some_iff.mp H
                  obtain ⟨⟨t271, t272, t273, t274, t275, t276⟩, A120, H⟩ := H
                  replace H : (if t271 = 0 then (if x4_1.size + t272.size ≤ 9223372036854775807 then (if x5_1.length < 35184372088832 then (dragomanlaw20_HzBack.l0 kj6 l0 (x4_1 ++ t272) (x5_1 ++ [rd l0 x6_1]) (wrap64 (x6_1 + 1)) t273 t274 t275 t276) else (none)) else (none)) else (dragomanlaw20_HzBack.l0 kj6 l0 x4_1 x5_1 (wrap64 (x6_1 + 1)) x270000_1 x270001_1 x270002_1 x270003_1)) = some r := H
                  have A12 := Aside0.mk A120
                  clear A120
                  by_cases c13 : t271 = 0
                  · rw [if_pos c13] at H
                    have c13b0 : (t271 == 0) = true := beq_iff_eq.mpr c13
                    have c13b1 : (t271 != 0) = false := bne_eq_false_iff_eq.mpr c13
                    clear c13
                    by_cases c14 : x4_1.size + t272.size ≤ 9223372036854775807
                    · rw [if_pos c14] at H
                      have c14b0 := eq_true c14
                      have c14b1 : decide (x4_1.size + t272.size ≤ 9223372036854775807) = true := decide_eq_true c14
                      try have c14b2 : (9223372036854775807 < x4_1.size + t272.size) = False := eq_false (Nat.not_lt.2 c14)
                      by_cases c15 : x5_1.length < 35184372088832
                      · rw [if_pos c15] at H
                        have LMc15 := Aside0.mk c15
                        clear c15
                        obtain ⟨y279, hy279⟩ : ∃ y_ : List Int, y_ = (x5_1 ++ [rd l0 x6_1]) := ⟨_, rfl⟩
                        replace H : (dragomanlaw20_HzBack.l0 kj6 l0 (x4_1 ++ t272) y279 (wrap64 (x6_1 + 1)) t273 t274 t275 t276) = some r := by first | (rw [hy279]; with_reducible exact H) | (have H2_ := (Option.bind_some _ _).symm.trans H; rw [hy279]; with_reducible exact H2_) | (have H2_ := (Option.bind_some _ _).symm.trans H; with_reducible exact H2_) | with_reducible exact H | (rw [hy279]; exact H) | exact H
                        have Ny279 := Aside0.mk hy279
                        clear hy279
                        have H' := Aside0.mk H
                        clear H
                        try go_wp2
                        have n0_ := Aside0.mk (Kd.R_drew HO_5.out)
                        have n1_ := Aside0.mk (blk_drew BK269.out)
                        have n2_ := Aside0.mk (below_drew1 HB.out)
                        clear HO_5
                        clear BK269
                        clear HB
                        have HO_5 := n0_
                        have BK269 := n1_
                        have HB := n2_
                        clear n0_ n1_ n2_
                        have p270 : 0 ≤ (x6_1 : Int) := of_decide_eq_true (by first | (with_reducible assumption) | assumption)
                        have q270 : x6_1 < (l0.length : Int) := of_decide_eq_true (by first | (with_reducible assumption) | assumption)
                        obtain ⟨ad270, e270, hx270_0⟩ := Kd.at_int HR0.out x6_1 p270 q270
                        have hw270_0 := hx270_0
                        cases e270
                        replace hx270_0 := (HB.out.cell (World.block_lt_of_cell? w _ hx270_0)).trans hx270_0
                        replace p270 := eq_true p270
                        replace q270 := eq_true q270
                        refine start_ (n := 8) (S := fun w' => w'.cell? ⟨gb269, 0, none⟩ = some (.int .i64 x270000_1) ∧ w'.cell? ⟨gb269, 1, none⟩ = some (.int .i64 x270001_1) ∧ w'.cell? ⟨gb269, 2, none⟩ = some (.int .u32 x270002_1) ∧ w'.cell? ⟨gb269, 3, none⟩ = some (.int .i32 x270003_1) ∧ w'.cell? (ad270.add (x6_1).toNat) = some (.int .i32 (rd l0 x6_1))) (ds := []) #[false, false, false, false, false, false, false, false] (by kernel_rfl) rfl rfl ⟨(blk_cell BK269.out 0).trans rfl, (blk_cell BK269.out 1).trans rfl, (blk_cell BK269.out 2).trans rfl, (blk_cell BK269.out 3).trans rfl, ((HB.out.cell (World.block_lt_of_cell? w _ hw270_0)).trans hw270_0)⟩ (fun hHeld => ?_); refine with_tabW dragomanlaw20_HzBack.tab9 dragomanlaw20_HzBack.bits9 (fun HT_ HW_ => ?_)
                        generalize wc.drew = w16 at HO_5 BK269 HB hx270_0 hHeld ⊢
                        refine pure_ (i := 1) (N := some 27) (v := ?_) (a' := ?_) #[false, true, false, false, false, false, false, false] rfl rfl (any_of HT_.out (by kernel_rfl)) (fun _ _ _ h => h) (Or.inl ⟨by rfl, ?_⟩) ?_ ?_
                        rotate_left
                        · intro w'
                          go_simp
                          with_reducible rfl
                        rotate_left
                        · simp only [Act.put, List.setIfInBounds_toArray, List.set_cons_zero, List.set_cons_succ, i64_w, i32_w]
                          rfl
                        refine pure_ (i := 2) (N := some 28) (v := ?_) (a' := ?_) #[false, true, true, false, false, false, false, false] rfl rfl (any_of HT_.out (by kernel_rfl)) (fun _ _ _ h => h) (Or.inl ⟨by rfl, ?_⟩) ?_ ?_
                        rotate_left
                        · intro w'
                          go_simp
                          with_reducible rfl
                        rotate_left
                        · simp only [Act.put, List.setIfInBounds_toArray, List.set_cons_zero, List.set_cons_succ, i64_w, i32_w]
                          rfl
                        refine pure_ (i := 3) (N := some 29) (v := ?_) (a' := ?_) #[false, true, true, true, false, false, false, false] rfl rfl (any_of HT_.out (by kernel_rfl)) (fun _ _ _ h => h) (Or.inl ⟨by rfl, ?_⟩) ?_ ?_
                        rotate_left
                        · intro w'
                          go_simp
                          with_reducible rfl
                        rotate_left
                        · simp only [Act.put, List.setIfInBounds_toArray, List.set_cons_zero, List.set_cons_succ, i64_w, i32_w]
                          rfl
                        refine take_ (i := 0) (N := some 26) (v := ?_) (a' := ?_) #[true, true, true, true, false, false, false, false] rfl rfl (take_ofW HT_.out HW_.out (by kernel_rfl)) (fun _ _ _ h => h) (Or.inl ⟨by rfl, ?_⟩) hHeld ?_ ?_
                        rotate_left
                        · rintro w' ⟨s0, s1, s2, s3, s4⟩
                          go_simp
                          with_reducible rfl
                        rotate_left
                        · simp only [Act.put, List.setIfInBounds_toArray, List.set_cons_zero, List.set_cons_succ, i64_w, i32_w]
                          rfl
                        refine take_ (i := 4) (N := some 30) (v := ?_) (a' := ?_) #[true, true, true, true, true, false, false, false] rfl rfl (take_ofW HT_.out HW_.out (by kernel_rfl)) (fun _ _ _ h => h) (Or.inl ⟨by rfl, ?_⟩) hHeld ?_ ?_
                        rotate_left
                        · rintro w' ⟨s0, s1, s2, s3, s4⟩
                          go_simp
                          with_reducible rfl
                        rotate_left
                        · simp only [Act.put, List.setIfInBounds_toArray, List.set_cons_zero, List.set_cons_succ, i64_w, i32_w]
                          rfl
                        refine join_ (σ := Nat) 1 #[true, true, true, true, true, true, true, false] (fun s_ => [(31, .agg #[.int .i64 t271, .string t272, .int .i64 t273, .int .i64 t274, .int .u32 t275, .int .i32 t276]), (7, .pointer (some ⟨s_, 0, none⟩))]) (fun s_ w' => (w'.cell? ⟨gb269, 0, none⟩ = some (.int .i64 x270000_1) ∧ w'.cell? ⟨gb269, 1, none⟩ = some (.int .i64 x270001_1) ∧ w'.cell? ⟨gb269, 2, none⟩ = some (.int .u32 x270002_1) ∧ w'.cell? ⟨gb269, 3, none⟩ = some (.int .i32 x270003_1) ∧ w'.cell? (ad270.add (x6_1).toNat) = some (.int .i32 (rd l0 x6_1))) ∧ (Kd.R (Kd.int .i32) 21 w' w.heap.size (fun _ => True) u5 x5_1) ∧ (w'.heap[gb269]? = some (.cells #[.int .i64 x270000_1, .int .i64 x270001_1, .int .u32 x270002_1, .int .i32 x270003_1] 25 (0, 0))) ∧ (w'.heap[s_]? = some (.cells #[.int .i64 0, .string (⟨#[]⟩ : ByteArray), .int .i64 0, .int .i64 0, .int .u32 0, .int .i32 0] 27 (0, 0))) ∧ (w.heap.size ≤ s_) ∧ (w.heap.size ≤ s_) ∧ (gb269 ≠ s_) ∧ (s_ ≠ gb269) ∧ (Below w.heap.size w w')) ?_ ?_
                        rotate_left
                        · intro hCont
                          refine two_ (i := 5) (j := 6) (Ni := some 31) (Nj := some 7) #[true, true, true, true, true, true, false, false] #[true, true, true, true, true, false, true, false] rfl rfl rfl rfl (two_of HT_.out (by kernel_rfl)) (by decide) (by decide) (fun K hK => ?_) (fun K hK => ?_)
                          · skip
                            refine goes_ Try.func23 (by kernel_rfl) rfl #[.agg #[.int .i64 x270000_1, .int .i64 x270001_1, .int .u32 x270002_1, .int .i32 x270003_1], .int .i32 (rd l0 x6_1)] (by rfl) rfl rfl (by (try simp only [List.map_toArray, List.map_cons, List.map_nil]); first | done | rfl | (simp only [List.length_drop, List.length_take]; rfl)) ?_
                            with_reducible refine (hz_Set.calls kj6 x270000_1 x270001_1 x270002_1 x270003_1 (rd l0 x6_1) t271 t272 t273 t274 t275 t276 _ A12.out).mono ?_
                            rintro e w17 ⟨rfl, hb⟩
                            refine ⟨_, rfl, ?_⟩
                            have n0_ := Aside0.mk (Kd.R_below (by (with_reducible repeat (first | apply Kd.R_alloc | apply Kd.R_drewN | apply Kd.R_drew)); exact HO_5.out) hb)
                            have n1_ := Aside0.mk (blk_below (g := gb269) (o := .cells #[.int .i64 x270000_1, .int .i64 x270001_1, .int .u32 x270002_1, .int .i32 x270003_1] 25 (0, 0)) (by (with_reducible repeat (first | refine blk_drewN ?_ _ | refine blk_drew ?_ | refine blk_alloc ?_ _)); exact BK269.out) hb)
                            have n2_ := Aside0.mk (below_step (by repeat (first | (with_reducible first | exact HB.out | apply below_alloc | apply pw_below_drewN | apply below_drew1 | refine below_set ?_ GE269.out) | exact HB.out)) hb)
                            clear HO_5
                            clear BK269
                            clear HB
                            have HO_5 := n0_
                            have BK269 := n1_
                            have HB := n2_
                            clear n0_ n1_ n2_
                            (try clear hb)
                            (try clear hb2)
                            (try clear hk)
                            (try clear hi)
                            refine hK.out _ _ ⟨(blk_cell BK269.out 0).trans rfl, (blk_cell BK269.out 1).trans rfl, (blk_cell BK269.out 2).trans rfl, (blk_cell BK269.out 3).trans rfl, ((HB.out.cell (World.block_lt_of_cell? w _ hw270_0)).trans hw270_0)⟩ (fun hHeld => ?_)
                            clear hK K
                            refine norm_ (a' := ?_) ?_ ?_
                            rotate_left
                            · show Act.put _ (some 31) _ = _
                              simp only [Act.put, List.setIfInBounds_toArray, List.set_cons_zero, List.set_cons_succ, i64_w, i32_w]
                              rfl
                            refine one_ (i := 6) (N := some 7) #[true, true, true, true, true, true, true, false] rfl rfl (one_of HT_.out (by kernel_rfl)) (by decide) (fun K hK => ?_)
                            refine box_step ?hg (N := 7) ?hd (cs := #[.int .i64 0, .string (⟨#[]⟩ : ByteArray), .int .i64 0, .int .i64 0, .int .u32 0, .int .i32 0]) (t := 27) ?hr ?_; (case hd => rfl); (case hg => rfl); (case hr => first | (go_simp; done) | (go_simp; rfl))
                            intro gb277 hg w18 hbox hb
                            have n0_ := Aside0.mk (Kd.R_below (by (with_reducible repeat (first | apply Kd.R_alloc | apply Kd.R_drewN | apply Kd.R_drew)); exact HO_5.out) hb)
                            have n1_ := Aside0.mk (blk_below (g := gb269) (o := .cells #[.int .i64 x270000_1, .int .i64 x270001_1, .int .u32 x270002_1, .int .i32 x270003_1] 25 (0, 0)) (by (with_reducible repeat (first | refine blk_drewN ?_ _ | refine blk_drew ?_ | refine blk_alloc ?_ _)); exact BK269.out) hb)
                            have n2_ := Aside0.mk (below_step (by repeat (first | (with_reducible first | exact HB.out | apply below_alloc | apply pw_below_drewN | apply below_drew1 | refine below_set ?_ GE269.out) | exact HB.out)) hb)
                            have n3_ := Aside0.mk (hbox)
                            have n4_ := Aside0.mk ((by rw [hg]; exact (below_size (by repeat (first | (with_reducible first | exact HB.out | apply below_alloc | apply pw_below_drewN | apply below_drew1 | refine below_set ?_ GE269.out) | exact HB.out))) : w.heap.size ≤ gb277))
                            have n5_ := Aside0.mk ((by rw [hg]; exact (below_size (by repeat (first | (with_reducible first | exact HB.out | apply below_alloc | apply pw_below_drewN | apply below_drew1 | refine below_set ?_ GE269.out) | exact HB.out))) : w.heap.size ≤ gb277))
                            have n6_ := Aside0.mk ((by rw [hg]; exact Nat.ne_of_lt (blk_lt (g := gb269) (o := .cells #[.int .i64 x270000_1, .int .i64 x270001_1, .int .u32 x270002_1, .int .i32 x270003_1] 25 (0, 0)) (by (with_reducible repeat (first | refine blk_drewN ?_ _ | refine blk_drew ?_ | refine blk_alloc ?_ _)); exact BK269.out)) : gb269 ≠ gb277))
                            have n7_ := Aside0.mk ((by rw [hg]; exact Nat.ne_of_gt (blk_lt (g := gb269) (o := .cells #[.int .i64 x270000_1, .int .i64 x270001_1, .int .u32 x270002_1, .int .i32 x270003_1] 25 (0, 0)) (by (with_reducible repeat (first | refine blk_drewN ?_ _ | refine blk_drew ?_ | refine blk_alloc ?_ _)); exact BK269.out)) : gb277 ≠ gb269))
                            clear HO_5
                            clear BK269
                            clear HB
                            have HO_5 := n0_
                            have BK269 := n1_
                            have HB := n2_
                            have BK277 := n3_
                            have GW277 := n4_
                            have GE277 := n5_
                            have NB269_277 := n6_
                            have NB277_269 := n7_
                            clear n0_ n1_ n2_ n3_ n4_ n5_ n6_ n7_
                            clear hb hbox hg
                            refine hK.out _ _ ⟨(blk_cell BK269.out 0).trans rfl, (blk_cell BK269.out 1).trans rfl, (blk_cell BK269.out 2).trans rfl, (blk_cell BK269.out 3).trans rfl, ((HB.out.cell (World.block_lt_of_cell? w _ hw270_0)).trans hw270_0)⟩ (fun hHeld => ?_)
                            clear hK K
                            refine norm_ (a' := ?_) ?_ ?_
                            rotate_left
                            · show Act.put _ (some 7) _ = _
                              simp only [Act.put, List.setIfInBounds_toArray, List.set_cons_zero, List.set_cons_succ, i64_w, i32_w]
                              rfl
                            exact norm_ (by simp only [putAll, Act.put, List.setIfInBounds_toArray, List.set_cons_zero, List.set_cons_succ]) (hCont (gb277) _ ⟨hHeld, (by (with_reducible repeat (first | apply Kd.R_alloc | apply Kd.R_drewN | apply Kd.R_drew)); exact HO_5.out), (by (with_reducible repeat (first | refine blk_drewN ?_ _ | refine blk_drew ?_ | refine blk_alloc ?_ _)); exact BK269.out), (by (with_reducible repeat (first | refine blk_drewN ?_ _ | refine blk_drew ?_ | refine blk_alloc ?_ _)); exact BK277.out), GW277.out, GE277.out, NB269_277.out, NB277_269.out, (by repeat (first | (with_reducible first | exact HB.out | apply below_alloc | apply pw_below_drewN | apply below_drew1 | refine below_set ?_ GE269.out | refine below_set ?_ GE277.out) | exact HB.out))⟩)
                          · skip
                            refine box_step ?hg (N := 7) ?hd (cs := #[.int .i64 0, .string (⟨#[]⟩ : ByteArray), .int .i64 0, .int .i64 0, .int .u32 0, .int .i32 0]) (t := 27) ?hr ?_; (case hd => rfl); (case hg => rfl); (case hr => first | (go_simp; done) | (go_simp; rfl))
                            intro gb277 hg w17 hbox hb
                            have n0_ := Aside0.mk (Kd.R_below (by (with_reducible repeat (first | apply Kd.R_alloc | apply Kd.R_drewN | apply Kd.R_drew)); exact HO_5.out) hb)
                            have n1_ := Aside0.mk (blk_below (g := gb269) (o := .cells #[.int .i64 x270000_1, .int .i64 x270001_1, .int .u32 x270002_1, .int .i32 x270003_1] 25 (0, 0)) (by (with_reducible repeat (first | refine blk_drewN ?_ _ | refine blk_drew ?_ | refine blk_alloc ?_ _)); exact BK269.out) hb)
                            have n2_ := Aside0.mk (below_step (by repeat (first | (with_reducible first | exact HB.out | apply below_alloc | apply pw_below_drewN | apply below_drew1 | refine below_set ?_ GE269.out) | exact HB.out)) hb)
                            have n3_ := Aside0.mk (hbox)
                            have n4_ := Aside0.mk ((by rw [hg]; exact (below_size (by repeat (first | (with_reducible first | exact HB.out | apply below_alloc | apply pw_below_drewN | apply below_drew1 | refine below_set ?_ GE269.out) | exact HB.out))) : w.heap.size ≤ gb277))
                            have n5_ := Aside0.mk ((by rw [hg]; exact (below_size (by repeat (first | (with_reducible first | exact HB.out | apply below_alloc | apply pw_below_drewN | apply below_drew1 | refine below_set ?_ GE269.out) | exact HB.out))) : w.heap.size ≤ gb277))
                            have n6_ := Aside0.mk ((by rw [hg]; exact Nat.ne_of_lt (blk_lt (g := gb269) (o := .cells #[.int .i64 x270000_1, .int .i64 x270001_1, .int .u32 x270002_1, .int .i32 x270003_1] 25 (0, 0)) (by (with_reducible repeat (first | refine blk_drewN ?_ _ | refine blk_drew ?_ | refine blk_alloc ?_ _)); exact BK269.out)) : gb269 ≠ gb277))
                            have n7_ := Aside0.mk ((by rw [hg]; exact Nat.ne_of_gt (blk_lt (g := gb269) (o := .cells #[.int .i64 x270000_1, .int .i64 x270001_1, .int .u32 x270002_1, .int .i32 x270003_1] 25 (0, 0)) (by (with_reducible repeat (first | refine blk_drewN ?_ _ | refine blk_drew ?_ | refine blk_alloc ?_ _)); exact BK269.out)) : gb277 ≠ gb269))
                            clear HO_5
                            clear BK269
                            clear HB
                            have HO_5 := n0_
                            have BK269 := n1_
                            have HB := n2_
                            have BK277 := n3_
                            have GW277 := n4_
                            have GE277 := n5_
                            have NB269_277 := n6_
                            have NB277_269 := n7_
                            clear n0_ n1_ n2_ n3_ n4_ n5_ n6_ n7_
                            clear hb hbox hg
                            refine hK.out _ _ ⟨(blk_cell BK269.out 0).trans rfl, (blk_cell BK269.out 1).trans rfl, (blk_cell BK269.out 2).trans rfl, (blk_cell BK269.out 3).trans rfl, ((HB.out.cell (World.block_lt_of_cell? w _ hw270_0)).trans hw270_0)⟩ (fun hHeld => ?_)
                            clear hK K
                            refine norm_ (a' := ?_) ?_ ?_
                            rotate_left
                            · show Act.put _ (some 7) _ = _
                              simp only [Act.put, List.setIfInBounds_toArray, List.set_cons_zero, List.set_cons_succ, i64_w, i32_w]
                              rfl
                            refine one_ (i := 5) (N := some 31) #[true, true, true, true, true, true, true, false] rfl rfl (one_of HT_.out (by kernel_rfl)) (by decide) (fun K hK => ?_)
                            refine goes_ Try.func23 (by kernel_rfl) rfl #[.agg #[.int .i64 x270000_1, .int .i64 x270001_1, .int .u32 x270002_1, .int .i32 x270003_1], .int .i32 (rd l0 x6_1)] (by rfl) rfl rfl (by (try simp only [List.map_toArray, List.map_cons, List.map_nil]); first | done | rfl | (simp only [List.length_drop, List.length_take]; rfl)) ?_
                            with_reducible refine (hz_Set.calls kj6 x270000_1 x270001_1 x270002_1 x270003_1 (rd l0 x6_1) t271 t272 t273 t274 t275 t276 _ A12.out).mono ?_
                            rintro e w18 ⟨rfl, hb⟩
                            refine ⟨_, rfl, ?_⟩
                            have n0_ := Aside0.mk (Kd.R_below (by (with_reducible repeat (first | apply Kd.R_alloc | apply Kd.R_drewN | apply Kd.R_drew)); exact HO_5.out) hb)
                            have n1_ := Aside0.mk (blk_below (g := gb269) (o := .cells #[.int .i64 x270000_1, .int .i64 x270001_1, .int .u32 x270002_1, .int .i32 x270003_1] 25 (0, 0)) (by (with_reducible repeat (first | refine blk_drewN ?_ _ | refine blk_drew ?_ | refine blk_alloc ?_ _)); exact BK269.out) hb)
                            have n2_ := Aside0.mk (blk_below (g := gb277) (o := .cells #[.int .i64 0, .string (⟨#[]⟩ : ByteArray), .int .i64 0, .int .i64 0, .int .u32 0, .int .i32 0] 27 (0, 0)) (by (with_reducible repeat (first | refine blk_drewN ?_ _ | refine blk_drew ?_ | refine blk_alloc ?_ _)); exact BK277.out) hb)
                            have n3_ := Aside0.mk (below_step (by repeat (first | (with_reducible first | exact HB.out | apply below_alloc | apply pw_below_drewN | apply below_drew1 | refine below_set ?_ GE269.out | refine below_set ?_ GE277.out) | exact HB.out)) hb)
                            clear HO_5
                            clear BK269
                            clear BK277
                            clear HB
                            have HO_5 := n0_
                            have BK269 := n1_
                            have BK277 := n2_
                            have HB := n3_
                            clear n0_ n1_ n2_ n3_
                            (try clear hb)
                            (try clear hb2)
                            (try clear hk)
                            (try clear hi)
                            refine hK.out _ _ ⟨(blk_cell BK269.out 0).trans rfl, (blk_cell BK269.out 1).trans rfl, (blk_cell BK269.out 2).trans rfl, (blk_cell BK269.out 3).trans rfl, ((HB.out.cell (World.block_lt_of_cell? w _ hw270_0)).trans hw270_0)⟩ (fun hHeld => ?_)
                            clear hK K
                            refine norm_ (a' := ?_) ?_ ?_
                            rotate_left
                            · show Act.put _ (some 31) _ = _
                              simp only [Act.put, List.setIfInBounds_toArray, List.set_cons_zero, List.set_cons_succ, i64_w, i32_w]
                              rfl
                            exact norm_ (by simp only [putAll, Act.put, List.setIfInBounds_toArray, List.set_cons_zero, List.set_cons_succ]) (hCont (gb277) _ ⟨hHeld, (by (with_reducible repeat (first | apply Kd.R_alloc | apply Kd.R_drewN | apply Kd.R_drew)); exact HO_5.out), (by (with_reducible repeat (first | refine blk_drewN ?_ _ | refine blk_drew ?_ | refine blk_alloc ?_ _)); exact BK269.out), (by (with_reducible repeat (first | refine blk_drewN ?_ _ | refine blk_drew ?_ | refine blk_alloc ?_ _)); exact BK277.out), GW277.out, GE277.out, NB269_277.out, NB277_269.out, (by repeat (first | (with_reducible first | exact HB.out | apply below_alloc | apply pw_below_drewN | apply below_drew1 | refine below_set ?_ GE269.out | refine below_set ?_ GE277.out) | exact HB.out))⟩)
                        rintro gb277 w19 ⟨hS_, h0_, h1_, h2_, h3_, h4_, h5_, h6_, h7_⟩
                        have n0_ : Aside0 (Kd.R (Kd.int .i32) 21 w19 w.heap.size (fun _ => True) u5 x5_1) := ⟨h0_⟩
                        have n1_ : Aside0 (w19.heap[gb269]? = some (.cells #[.int .i64 x270000_1, .int .i64 x270001_1, .int .u32 x270002_1, .int .i32 x270003_1] 25 (0, 0))) := ⟨h1_⟩
                        have n2_ : Aside0 (w19.heap[gb277]? = some (.cells #[.int .i64 0, .string (⟨#[]⟩ : ByteArray), .int .i64 0, .int .i64 0, .int .u32 0, .int .i32 0] 27 (0, 0))) := ⟨h2_⟩
                        have n3_ : Aside0 (w.heap.size ≤ gb277) := ⟨h3_⟩
                        have n4_ : Aside0 (w.heap.size ≤ gb277) := ⟨h4_⟩
                        have n5_ : Aside0 (gb269 ≠ gb277) := ⟨h5_⟩
                        have n6_ : Aside0 (gb277 ≠ gb269) := ⟨h6_⟩
                        have n7_ : Aside0 (Below w.heap.size w w19) := ⟨h7_⟩
                        clear HO_5
                        clear BK269
                        clear HB
                        clear h0_ h1_ h2_ h3_ h4_ h5_ h6_ h7_
                        have HO_5 := n0_
                        have BK269 := n1_
                        have BK277 := n2_
                        have GW277 := n3_
                        have GE277 := n4_
                        have NB269_277 := n5_
                        have NB277_269 := n6_
                        have HB := n7_
                        clear n0_ n1_ n2_ n3_ n4_ n5_ n6_ n7_
                        have hHeld : w19.cell? ⟨gb269, 0, none⟩ = some (.int .i64 x270000_1) ∧ w19.cell? ⟨gb269, 1, none⟩ = some (.int .i64 x270001_1) ∧ w19.cell? ⟨gb269, 2, none⟩ = some (.int .u32 x270002_1) ∧ w19.cell? ⟨gb269, 3, none⟩ = some (.int .i32 x270003_1) ∧ w19.cell? (ad270.add (x6_1).toNat) = some (.int .i32 (rd l0 x6_1)) := hS_
                        refine norm_ (a' := ?_) ?_ ?_
                        rotate_left
                        · simp only [putAll, Act.put, List.setIfInBounds_toArray, List.set_cons_zero, List.set_cons_succ]
                          rfl
                        refine one_ (i := 7) (N := none) #[true, true, true, true, true, true, true, true] rfl rfl (one_of HT_.out (by kernel_rfl)) (by decide) (fun K hK => ?_)
                        have hs20 : w19.cell? ⟨gb277, 0, none⟩ = some (.int .i64 0) := (blk_cell BK277.out 0).trans rfl
                        have hfs20 := blk_frozen BK277.out 0
                        have hns20_0 := NB269_277.out
                        have hms20_0 := NB277_269.out
                        have hs21 : w19.cell? ⟨gb277, 1, none⟩ = some (.string (⟨#[]⟩ : ByteArray)) := (blk_cell BK277.out 1).trans rfl
                        have hfs21 := blk_frozen BK277.out 1
                        have hns21_0 := NB269_277.out
                        have hms21_0 := NB277_269.out
                        have hs22 : w19.cell? ⟨gb277, 2, none⟩ = some (.int .i64 0) := (blk_cell BK277.out 2).trans rfl
                        have hfs22 := blk_frozen BK277.out 2
                        have hns22_0 := NB269_277.out
                        have hms22_0 := NB277_269.out
                        have hs23 : w19.cell? ⟨gb277, 3, none⟩ = some (.int .i64 0) := (blk_cell BK277.out 3).trans rfl
                        have hfs23 := blk_frozen BK277.out 3
                        have hns23_0 := NB269_277.out
                        have hms23_0 := NB277_269.out
                        have hs24 : w19.cell? ⟨gb277, 4, none⟩ = some (.int .u32 0) := (blk_cell BK277.out 4).trans rfl
                        have hfs24 := blk_frozen BK277.out 4
                        have hns24_0 := NB269_277.out
                        have hms24_0 := NB277_269.out
                        have hs25 : w19.cell? ⟨gb277, 5, none⟩ = some (.int .i32 0) := (blk_cell BK277.out 5).trans rfl
                        have hfs25 := blk_frozen BK277.out 5
                        have hns25_0 := NB269_277.out
                        have hms25_0 := NB277_269.out
                        refine skip_ (w1 := ?_) (by rfl) rfl ?_ ?_
                        rotate_left
                        · go_simp
                          rfl
                        refine hK.out _ _ ⟨((cell_far (p := ⟨gb277, _, none⟩) NB269_277.out _).trans (((cell_far (p := ⟨gb277, _, none⟩) NB269_277.out _).trans (((cell_far (p := ⟨gb277, _, none⟩) NB269_277.out _).trans (((cell_far (p := ⟨gb277, _, none⟩) NB269_277.out _).trans (((cell_far (p := ⟨gb277, _, none⟩) NB269_277.out _).trans (((cell_far (p := ⟨gb277, _, none⟩) NB269_277.out _).trans (hHeld.1)))))))))))), ((cell_far (p := ⟨gb277, _, none⟩) NB269_277.out _).trans (((cell_far (p := ⟨gb277, _, none⟩) NB269_277.out _).trans (((cell_far (p := ⟨gb277, _, none⟩) NB269_277.out _).trans (((cell_far (p := ⟨gb277, _, none⟩) NB269_277.out _).trans (((cell_far (p := ⟨gb277, _, none⟩) NB269_277.out _).trans (((cell_far (p := ⟨gb277, _, none⟩) NB269_277.out _).trans (hHeld.2.1)))))))))))), ((cell_far (p := ⟨gb277, _, none⟩) NB269_277.out _).trans (((cell_far (p := ⟨gb277, _, none⟩) NB269_277.out _).trans (((cell_far (p := ⟨gb277, _, none⟩) NB269_277.out _).trans (((cell_far (p := ⟨gb277, _, none⟩) NB269_277.out _).trans (((cell_far (p := ⟨gb277, _, none⟩) NB269_277.out _).trans (((cell_far (p := ⟨gb277, _, none⟩) NB269_277.out _).trans (hHeld.2.2.1)))))))))))), ((cell_far (p := ⟨gb277, _, none⟩) NB269_277.out _).trans (((cell_far (p := ⟨gb277, _, none⟩) NB269_277.out _).trans (((cell_far (p := ⟨gb277, _, none⟩) NB269_277.out _).trans (((cell_far (p := ⟨gb277, _, none⟩) NB269_277.out _).trans (((cell_far (p := ⟨gb277, _, none⟩) NB269_277.out _).trans (((cell_far (p := ⟨gb277, _, none⟩) NB269_277.out _).trans (hHeld.2.2.2.1)))))))))))), ((cell_far (p := ⟨gb277, _, none⟩) (by first | exact Nat.ne_of_lt (Nat.lt_of_lt_of_le (by have := World.block_lt_of_cell? _ _ hw270_0; first | rwa [add_block] at this | exact this) GW277.out) | (rw [add_block]; exact Nat.ne_of_lt (Nat.lt_of_lt_of_le (by have := World.block_lt_of_cell? _ _ hw270_0; first | rwa [add_block] at this | exact this) GW277.out)) | (show (Addr.add _ _).block ≠ _; rw [add_block]; exact Nat.ne_of_lt (Nat.lt_of_lt_of_le (by have := World.block_lt_of_cell? _ _ hw270_0; first | rwa [add_block] at this | exact this) GW277.out)) | (dsimp only; exact Nat.ne_of_lt (Nat.lt_of_lt_of_le (by have := World.block_lt_of_cell? _ _ hw270_0; first | rwa [add_block] at this | exact this) GW277.out))) _).trans (((cell_far (p := ⟨gb277, _, none⟩) (by first | exact Nat.ne_of_lt (Nat.lt_of_lt_of_le (by have := World.block_lt_of_cell? _ _ hw270_0; first | rwa [add_block] at this | exact this) GW277.out) | (rw [add_block]; exact Nat.ne_of_lt (Nat.lt_of_lt_of_le (by have := World.block_lt_of_cell? _ _ hw270_0; first | rwa [add_block] at this | exact this) GW277.out)) | (show (Addr.add _ _).block ≠ _; rw [add_block]; exact Nat.ne_of_lt (Nat.lt_of_lt_of_le (by have := World.block_lt_of_cell? _ _ hw270_0; first | rwa [add_block] at this | exact this) GW277.out)) | (dsimp only; exact Nat.ne_of_lt (Nat.lt_of_lt_of_le (by have := World.block_lt_of_cell? _ _ hw270_0; first | rwa [add_block] at this | exact this) GW277.out))) _).trans (((cell_far (p := ⟨gb277, _, none⟩) (by first | exact Nat.ne_of_lt (Nat.lt_of_lt_of_le (by have := World.block_lt_of_cell? _ _ hw270_0; first | rwa [add_block] at this | exact this) GW277.out) | (rw [add_block]; exact Nat.ne_of_lt (Nat.lt_of_lt_of_le (by have := World.block_lt_of_cell? _ _ hw270_0; first | rwa [add_block] at this | exact this) GW277.out)) | (show (Addr.add _ _).block ≠ _; rw [add_block]; exact Nat.ne_of_lt (Nat.lt_of_lt_of_le (by have := World.block_lt_of_cell? _ _ hw270_0; first | rwa [add_block] at this | exact this) GW277.out)) | (dsimp only; exact Nat.ne_of_lt (Nat.lt_of_lt_of_le (by have := World.block_lt_of_cell? _ _ hw270_0; first | rwa [add_block] at this | exact this) GW277.out))) _).trans (((cell_far (p := ⟨gb277, _, none⟩) (by first | exact Nat.ne_of_lt (Nat.lt_of_lt_of_le (by have := World.block_lt_of_cell? _ _ hw270_0; first | rwa [add_block] at this | exact this) GW277.out) | (rw [add_block]; exact Nat.ne_of_lt (Nat.lt_of_lt_of_le (by have := World.block_lt_of_cell? _ _ hw270_0; first | rwa [add_block] at this | exact this) GW277.out)) | (show (Addr.add _ _).block ≠ _; rw [add_block]; exact Nat.ne_of_lt (Nat.lt_of_lt_of_le (by have := World.block_lt_of_cell? _ _ hw270_0; first | rwa [add_block] at this | exact this) GW277.out)) | (dsimp only; exact Nat.ne_of_lt (Nat.lt_of_lt_of_le (by have := World.block_lt_of_cell? _ _ hw270_0; first | rwa [add_block] at this | exact this) GW277.out))) _).trans (((cell_far (p := ⟨gb277, _, none⟩) (by first | exact Nat.ne_of_lt (Nat.lt_of_lt_of_le (by have := World.block_lt_of_cell? _ _ hw270_0; first | rwa [add_block] at this | exact this) GW277.out) | (rw [add_block]; exact Nat.ne_of_lt (Nat.lt_of_lt_of_le (by have := World.block_lt_of_cell? _ _ hw270_0; first | rwa [add_block] at this | exact this) GW277.out)) | (show (Addr.add _ _).block ≠ _; rw [add_block]; exact Nat.ne_of_lt (Nat.lt_of_lt_of_le (by have := World.block_lt_of_cell? _ _ hw270_0; first | rwa [add_block] at this | exact this) GW277.out)) | (dsimp only; exact Nat.ne_of_lt (Nat.lt_of_lt_of_le (by have := World.block_lt_of_cell? _ _ hw270_0; first | rwa [add_block] at this | exact this) GW277.out))) _).trans (((cell_far (p := ⟨gb277, _, none⟩) (by first | exact Nat.ne_of_lt (Nat.lt_of_lt_of_le (by have := World.block_lt_of_cell? _ _ hw270_0; first | rwa [add_block] at this | exact this) GW277.out) | (rw [add_block]; exact Nat.ne_of_lt (Nat.lt_of_lt_of_le (by have := World.block_lt_of_cell? _ _ hw270_0; first | rwa [add_block] at this | exact this) GW277.out)) | (show (Addr.add _ _).block ≠ _; rw [add_block]; exact Nat.ne_of_lt (Nat.lt_of_lt_of_le (by have := World.block_lt_of_cell? _ _ hw270_0; first | rwa [add_block] at this | exact this) GW277.out)) | (dsimp only; exact Nat.ne_of_lt (Nat.lt_of_lt_of_le (by have := World.block_lt_of_cell? _ _ hw270_0; first | rwa [add_block] at this | exact this) GW277.out))) _).trans (hHeld.2.2.2.2))))))))))))⟩ (fun hHeld => ?_)
                        clear hK K
                        refine done_ (done_of HT_.out (by kernel_rfl)) ?_
                        have hnb26 := NB277_269.out
                        have hnc26 := NB269_277.out
                        have hcz27_0 : w19.cell? ⟨gb277, 0, none⟩ = some (.int .i64 0) := (blk_cell BK277.out 0).trans rfl
                        have hcz27_1 : w19.cell? ⟨gb277, 1, none⟩ = some (.string (⟨#[]⟩ : ByteArray)) := (blk_cell BK277.out 1).trans rfl
                        have hcz27_2 : w19.cell? ⟨gb277, 2, none⟩ = some (.int .i64 0) := (blk_cell BK277.out 2).trans rfl
                        have hcz27_3 : w19.cell? ⟨gb277, 3, none⟩ = some (.int .i64 0) := (blk_cell BK277.out 3).trans rfl
                        have hcz27_4 : w19.cell? ⟨gb277, 4, none⟩ = some (.int .u32 0) := (blk_cell BK277.out 4).trans rfl
                        have hcz27_5 : w19.cell? ⟨gb277, 5, none⟩ = some (.int .i32 0) := (blk_cell BK277.out 5).trans rfl
                        have hfz27_0 := blk_frozen BK277.out 0
                        have hfz27_1 := blk_frozen BK277.out 1
                        have hfz27_2 := blk_frozen BK277.out 2
                        have hfz27_3 := blk_frozen BK277.out 3
                        have hfz27_4 := blk_frozen BK277.out 4
                        have hfz27_5 := blk_frozen BK277.out 5
                        have hcz28_0 : w19.cell? ⟨gb269, 0, none⟩ = some (.int .i64 x270000_1) := (blk_cell BK269.out 0).trans rfl
                        have hcz28_1 : w19.cell? ⟨gb269, 1, none⟩ = some (.int .i64 x270001_1) := (blk_cell BK269.out 1).trans rfl
                        have hcz28_2 : w19.cell? ⟨gb269, 2, none⟩ = some (.int .u32 x270002_1) := (blk_cell BK269.out 2).trans rfl
                        have hcz28_3 : w19.cell? ⟨gb269, 3, none⟩ = some (.int .i32 x270003_1) := (blk_cell BK269.out 3).trans rfl
                        have hfz28_0 := blk_frozen BK269.out 0
                        have hfz28_1 := blk_frozen BK269.out 1
                        have hfz28_2 := blk_frozen BK269.out 2
                        have hfz28_3 := blk_frozen BK269.out 3
                        have p278 : 0 ≤ (x6_1 : Int) := of_decide_eq_true (by first | (with_reducible assumption) | assumption)
                        have q278 : x6_1 < (l0.length : Int) := of_decide_eq_true (by first | (with_reducible assumption) | assumption)
                        obtain ⟨ad278, e278, hx278_0⟩ := Kd.at_int HR0.out x6_1 p278 q278
                        obtain rfl : ad270 = ad278 := (by injection e278)
                        have hn278_0 : ad270.block ≠ gb277 := Nat.ne_of_lt (Nat.lt_of_lt_of_le (by have := World.block_lt_of_cell? _ _ hx278_0; first | rwa [add_block] at this | exact this) GW277.out)
                        have hn278_1 : ad270.block ≠ gb277 := Nat.ne_of_lt (Nat.lt_of_lt_of_le (by have := World.block_lt_of_cell? _ _ hx278_0; first | rwa [add_block] at this | exact this) GW277.out)
                        have hn278_2 : ad270.block ≠ gb277 := Nat.ne_of_lt (Nat.lt_of_lt_of_le (by have := World.block_lt_of_cell? _ _ hx278_0; first | rwa [add_block] at this | exact this) GW277.out)
                        have hn278_3 : ad270.block ≠ gb277 := Nat.ne_of_lt (Nat.lt_of_lt_of_le (by have := World.block_lt_of_cell? _ _ hx278_0; first | rwa [add_block] at this | exact this) GW277.out)
                        have hn278_4 : ad270.block ≠ gb277 := Nat.ne_of_lt (Nat.lt_of_lt_of_le (by have := World.block_lt_of_cell? _ _ hx278_0; first | rwa [add_block] at this | exact this) GW277.out)
                        have hn278_5 : ad270.block ≠ gb277 := Nat.ne_of_lt (Nat.lt_of_lt_of_le (by have := World.block_lt_of_cell? _ _ hx278_0; first | rwa [add_block] at this | exact this) GW277.out)
                        have hn278_6 : ad270.block ≠ gb269 := Nat.ne_of_lt (Nat.lt_of_lt_of_le (by have := World.block_lt_of_cell? _ _ hx278_0; first | rwa [add_block] at this | exact this) GW269.out)
                        have hn278_7 : ad270.block ≠ gb269 := Nat.ne_of_lt (Nat.lt_of_lt_of_le (by have := World.block_lt_of_cell? _ _ hx278_0; first | rwa [add_block] at this | exact this) GW269.out)
                        have hn278_8 : ad270.block ≠ gb269 := Nat.ne_of_lt (Nat.lt_of_lt_of_le (by have := World.block_lt_of_cell? _ _ hx278_0; first | rwa [add_block] at this | exact this) GW269.out)
                        have hn278_9 : ad270.block ≠ gb269 := Nat.ne_of_lt (Nat.lt_of_lt_of_le (by have := World.block_lt_of_cell? _ _ hx278_0; first | rwa [add_block] at this | exact this) GW269.out)
                        replace hx278_0 := (HB.out.cell (World.block_lt_of_cell? w _ hx278_0)).trans hx278_0
                        replace hx278_0 := (cell_far (p := ⟨gb277, 0, none⟩) (by first | (rw [add_block]; exact hn278_0) | (show (Addr.add _ _).block ≠ _; rw [add_block]; exact hn278_0) | exact hn278_0) (.int .i64 t271)).trans hx278_0
                        replace hx278_0 := (cell_far (p := ⟨gb277, 1, none⟩) (by first | (rw [add_block]; exact hn278_1) | (show (Addr.add _ _).block ≠ _; rw [add_block]; exact hn278_1) | exact hn278_1) (.string t272)).trans hx278_0
                        replace hx278_0 := (cell_far (p := ⟨gb277, 2, none⟩) (by first | (rw [add_block]; exact hn278_2) | (show (Addr.add _ _).block ≠ _; rw [add_block]; exact hn278_2) | exact hn278_2) (.int .i64 t273)).trans hx278_0
                        replace hx278_0 := (cell_far (p := ⟨gb277, 3, none⟩) (by first | (rw [add_block]; exact hn278_3) | (show (Addr.add _ _).block ≠ _; rw [add_block]; exact hn278_3) | exact hn278_3) (.int .i64 t274)).trans hx278_0
                        replace hx278_0 := (cell_far (p := ⟨gb277, 4, none⟩) (by first | (rw [add_block]; exact hn278_4) | (show (Addr.add _ _).block ≠ _; rw [add_block]; exact hn278_4) | exact hn278_4) (.int .u32 t275)).trans hx278_0
                        replace hx278_0 := (cell_far (p := ⟨gb277, 5, none⟩) (by first | (rw [add_block]; exact hn278_5) | (show (Addr.add _ _).block ≠ _; rw [add_block]; exact hn278_5) | exact hn278_5) (.int .i32 t276)).trans hx278_0
                        replace hx278_0 := (cell_far (p := ⟨gb269, 0, none⟩) (by first | (rw [add_block]; exact hn278_6) | (show (Addr.add _ _).block ≠ _; rw [add_block]; exact hn278_6) | exact hn278_6) (.int .i64 t273)).trans hx278_0
                        replace hx278_0 := (cell_far (p := ⟨gb269, 1, none⟩) (by first | (rw [add_block]; exact hn278_7) | (show (Addr.add _ _).block ≠ _; rw [add_block]; exact hn278_7) | exact hn278_7) (.int .i64 t274)).trans hx278_0
                        replace hx278_0 := (cell_far (p := ⟨gb269, 2, none⟩) (by first | (rw [add_block]; exact hn278_8) | (show (Addr.add _ _).block ≠ _; rw [add_block]; exact hn278_8) | exact hn278_8) (.int .u32 t275)).trans hx278_0
                        replace hx278_0 := (cell_far (p := ⟨gb269, 3, none⟩) (by first | (rw [add_block]; exact hn278_9) | (show (Addr.add _ _).block ≠ _; rw [add_block]; exact hn278_9) | exact hn278_9) (.int .i32 t276)).trans hx278_0
                        clear hn278_0
                        clear hn278_1
                        clear hn278_2
                        clear hn278_3
                        clear hn278_4
                        clear hn278_5
                        clear hn278_6
                        clear hn278_7
                        clear hn278_8
                        clear hn278_9
                        replace p278 := eq_true p278
                        replace q278 := eq_true q278
                        try go_wp2_with (first | ((with_reducible refine gate_builtin (b := .append) (xs := #[.tmp 41, .tmp 46]) rfl ?_); (try (refine gate_guard (by rfl) ?_; dsimp only)); at_builtin; refine Kd.R_append (Kd.int .i32) (w0 := w) w.heap.size rfl (.tmp 41) (.tmp 46) 39 21 (.int .i32 0) 4 rfl Try.underlying39 info21 rfl (by decide) (by omega) u5 x5_1 (rd l0 x6_1) [.int .i32 (rd l0 x6_1)] (fun _ => True) (fun _ => False) rfl (by first | (go_simp; done) | (go_simp; rfl)) ?aP (fun _ hk => hk.elim) ?aF ?aO ?aB ?aS ?aL ?_; (case aP => exact rfl); (case aB => exact (by repeat (first | (with_reducible first | exact HB.out | apply below_alloc | apply pw_below_drewN | apply below_drew1 | refine below_set ?_ GE269.out | refine below_set ?_ GE277.out) | exact HB.out))); (case aF => exact (fun _ _ => trivial)); (case aO => exact (by (with_reducible repeat (first | apply Kd.R_alloc | apply Kd.R_drewN | apply Kd.R_drew)); exact Kd.R_mono (Kd.R_far (p := ⟨gb269, 3, none⟩) (Kd.R_far (p := ⟨gb269, 2, none⟩) (Kd.R_far (p := ⟨gb269, 1, none⟩) (Kd.R_far (p := ⟨gb269, 0, none⟩) (Kd.R_far (p := ⟨gb277, 5, none⟩) (Kd.R_far (p := ⟨gb277, 4, none⟩) (Kd.R_far (p := ⟨gb277, 3, none⟩) (Kd.R_far (p := ⟨gb277, 2, none⟩) (Kd.R_far (p := ⟨gb277, 1, none⟩) (Kd.R_far (p := ⟨gb277, 0, none⟩) (Kd.R_types (Kd.R_types HO_5.out BK277.out (by decide)) BK269.out (by decide)) (fun _ hk => hk.1.2) (.int .i64 t271)) (fun _ hk => hk.1.2) (.string t272)) (fun _ hk => hk.1.2) (.int .i64 t273)) (fun _ hk => hk.1.2) (.int .i64 t274)) (fun _ hk => hk.1.2) (.int .u32 t275)) (fun _ hk => hk.1.2) (.int .i32 t276)) (fun _ hk => hk.2) (.int .i64 t273)) (fun _ hk => hk.2) (.int .i64 t274)) (fun _ hk => hk.2) (.int .u32 t275)) (fun _ hk => hk.2) (.int .i32 t276)) (fun _ hk => trivial))); (case aS => exact (below_size (by repeat (first | (with_reducible first | exact HB.out | apply below_alloc | apply pw_below_drewN | apply below_drew1 | refine below_set ?_ GE269.out | refine below_set ?_ GE277.out) | exact HB.out)))); (case aL => have := LMc15.out; omega); intro v280 w29 ho hb hg hat; rw [← Ny279.out] at ho; have n0_ := Aside0.mk (blk_grown (g := gb269) (o := .cells #[.int .i64 t273, .int .i64 t274, .int .u32 t275, .int .i32 t276] 25 (0, 0)) (by (with_reducible repeat (first | refine blk_drewN ?_ _ | refine blk_drew ?_ | refine blk_alloc ?_ _)); refine blk_put (cs := #[.int .i64 t273, .int .i64 t274, .int .u32 t275, .int .i32 x270003_1]) ?_ 3 _ rfl; (with_reducible repeat (first | refine blk_drewN ?_ _ | refine blk_drew ?_ | refine blk_alloc ?_ _)); refine blk_put (cs := #[.int .i64 t273, .int .i64 t274, .int .u32 x270002_1, .int .i32 x270003_1]) ?_ 2 _ rfl; (with_reducible repeat (first | refine blk_drewN ?_ _ | refine blk_drew ?_ | refine blk_alloc ?_ _)); refine blk_put (cs := #[.int .i64 t273, .int .i64 x270001_1, .int .u32 x270002_1, .int .i32 x270003_1]) ?_ 1 _ rfl; (with_reducible repeat (first | refine blk_drewN ?_ _ | refine blk_drew ?_ | refine blk_alloc ?_ _)); refine blk_put (cs := #[.int .i64 x270000_1, .int .i64 x270001_1, .int .u32 x270002_1, .int .i32 x270003_1]) ?_ 0 _ rfl; (with_reducible repeat (first | refine blk_drewN ?_ _ | refine blk_drew ?_ | refine blk_alloc ?_ _)); refine blk_far ?_ NB269_277.out _; (with_reducible repeat (first | refine blk_drewN ?_ _ | refine blk_drew ?_ | refine blk_alloc ?_ _)); refine blk_far ?_ NB269_277.out _; (with_reducible repeat (first | refine blk_drewN ?_ _ | refine blk_drew ?_ | refine blk_alloc ?_ _)); refine blk_far ?_ NB269_277.out _; (with_reducible repeat (first | refine blk_drewN ?_ _ | refine blk_drew ?_ | refine blk_alloc ?_ _)); refine blk_far ?_ NB269_277.out _; (with_reducible repeat (first | refine blk_drewN ?_ _ | refine blk_drew ?_ | refine blk_alloc ?_ _)); refine blk_far ?_ NB269_277.out _; (with_reducible repeat (first | refine blk_drewN ?_ _ | refine blk_drew ?_ | refine blk_alloc ?_ _)); refine blk_far ?_ NB269_277.out _; (with_reducible repeat (first | refine blk_drewN ?_ _ | refine blk_drew ?_ | refine blk_alloc ?_ _)); exact BK269.out) hg (Kd.R_ne HO_5.out BK269.out (by decide))); have n1_ := Aside0.mk (blk_grown (g := gb277) (o := .cells #[.int .i64 t271, .string t272, .int .i64 t273, .int .i64 t274, .int .u32 t275, .int .i32 t276] 27 (0, 0)) (by (with_reducible repeat (first | refine blk_drewN ?_ _ | refine blk_drew ?_ | refine blk_alloc ?_ _)); refine blk_far ?_ NB277_269.out _; (with_reducible repeat (first | refine blk_drewN ?_ _ | refine blk_drew ?_ | refine blk_alloc ?_ _)); refine blk_far ?_ NB277_269.out _; (with_reducible repeat (first | refine blk_drewN ?_ _ | refine blk_drew ?_ | refine blk_alloc ?_ _)); refine blk_far ?_ NB277_269.out _; (with_reducible repeat (first | refine blk_drewN ?_ _ | refine blk_drew ?_ | refine blk_alloc ?_ _)); refine blk_far ?_ NB277_269.out _; (with_reducible repeat (first | refine blk_drewN ?_ _ | refine blk_drew ?_ | refine blk_alloc ?_ _)); refine blk_put (cs := #[.int .i64 t271, .string t272, .int .i64 t273, .int .i64 t274, .int .u32 t275, .int .i32 0]) ?_ 5 _ rfl; (with_reducible repeat (first | refine blk_drewN ?_ _ | refine blk_drew ?_ | refine blk_alloc ?_ _)); refine blk_put (cs := #[.int .i64 t271, .string t272, .int .i64 t273, .int .i64 t274, .int .u32 0, .int .i32 0]) ?_ 4 _ rfl; (with_reducible repeat (first | refine blk_drewN ?_ _ | refine blk_drew ?_ | refine blk_alloc ?_ _)); refine blk_put (cs := #[.int .i64 t271, .string t272, .int .i64 t273, .int .i64 0, .int .u32 0, .int .i32 0]) ?_ 3 _ rfl; (with_reducible repeat (first | refine blk_drewN ?_ _ | refine blk_drew ?_ | refine blk_alloc ?_ _)); refine blk_put (cs := #[.int .i64 t271, .string t272, .int .i64 0, .int .i64 0, .int .u32 0, .int .i32 0]) ?_ 2 _ rfl; (with_reducible repeat (first | refine blk_drewN ?_ _ | refine blk_drew ?_ | refine blk_alloc ?_ _)); refine blk_put (cs := #[.int .i64 t271, .string (⟨#[]⟩ : ByteArray), .int .i64 0, .int .i64 0, .int .u32 0, .int .i32 0]) ?_ 1 _ rfl; (with_reducible repeat (first | refine blk_drewN ?_ _ | refine blk_drew ?_ | refine blk_alloc ?_ _)); refine blk_put (cs := #[.int .i64 0, .string (⟨#[]⟩ : ByteArray), .int .i64 0, .int .i64 0, .int .u32 0, .int .i32 0]) ?_ 0 _ rfl; (with_reducible repeat (first | refine blk_drewN ?_ _ | refine blk_drew ?_ | refine blk_alloc ?_ _)); exact BK277.out) hg (Kd.R_ne HO_5.out BK277.out (by decide))); have n2_ := Aside0.mk (hb); have n3_ := Aside0.mk (ho); clear BK269; clear BK277; clear HB; clear HO_5; have BK269 := n0_; have BK277 := n1_; have HB := n2_; have HO281 := n3_; clear n0_ n1_ n2_ n3_; clear ho hb hg hat))
                        go_roundg kj6
                        case measure => have := HK1.out; have := HJ6.out; omega
                        case rel => exact ⟨(x4_1 ++ t272), (y279), (wrap64 (x6_1 + 1)), (t273), (t274), (t275), (t276), (by first | rfl | (simp; done) | (simp [*]; done)), (by first | rfl | (simp; done) | (simp [*]; done)), H', ⟨by have := HK1.out; have := HJ6.out; omega⟩, ⟨by (with_reducible repeat (first | apply Kd.R_alloc | apply Kd.R_drewN | apply Kd.R_drew)); exact HO281.out⟩, ⟨by (with_reducible repeat (first | refine blk_drewN ?_ _ | refine blk_drew ?_ | refine blk_alloc ?_ _)); exact BK269.out⟩, ⟨by repeat (first | (with_reducible first | exact HB.out | apply below_alloc | apply pw_below_drewN | apply below_drew1 | refine below_set ?_ GE269.out | refine below_set ?_ GE277.out) | exact HB.out)⟩⟩
                      · rw [if_neg c15] at H
                        exact absurd H (by simp)
                    · rw [if_neg c14] at H
                      exact absurd H (by simp)
                  · rw [if_neg c13] at H
                    have c13b0 : (t271 == 0) = false := beq_eq_false_iff_ne.mpr c13
                    have c13b1 : (t271 != 0) = true := bne_iff_ne.mpr c13
                    have H' := Aside0.mk H
                    clear H
                    try go_wp2
                    have n0_ := Aside0.mk (Kd.R_drew HO_5.out)
                    have n1_ := Aside0.mk (blk_drew BK269.out)
                    have n2_ := Aside0.mk (below_drew1 HB.out)
                    clear HO_5
                    clear BK269
                    clear HB
                    have HO_5 := n0_
                    have BK269 := n1_
                    have HB := n2_
                    clear n0_ n1_ n2_
                    have p270 : 0 ≤ (x6_1 : Int) := of_decide_eq_true (by first | (with_reducible assumption) | assumption)
                    have q270 : x6_1 < (l0.length : Int) := of_decide_eq_true (by first | (with_reducible assumption) | assumption)
                    obtain ⟨ad270, e270, hx270_0⟩ := Kd.at_int HR0.out x6_1 p270 q270
                    have hw270_0 := hx270_0
                    cases e270
                    replace hx270_0 := (HB.out.cell (World.block_lt_of_cell? w _ hx270_0)).trans hx270_0
                    replace p270 := eq_true p270
                    replace q270 := eq_true q270
                    refine start_ (n := 8) (S := fun w' => w'.cell? ⟨gb269, 0, none⟩ = some (.int .i64 x270000_1) ∧ w'.cell? ⟨gb269, 1, none⟩ = some (.int .i64 x270001_1) ∧ w'.cell? ⟨gb269, 2, none⟩ = some (.int .u32 x270002_1) ∧ w'.cell? ⟨gb269, 3, none⟩ = some (.int .i32 x270003_1) ∧ w'.cell? (ad270.add (x6_1).toNat) = some (.int .i32 (rd l0 x6_1))) (ds := []) #[false, false, false, false, false, false, false, false] (by kernel_rfl) rfl rfl ⟨(blk_cell BK269.out 0).trans rfl, (blk_cell BK269.out 1).trans rfl, (blk_cell BK269.out 2).trans rfl, (blk_cell BK269.out 3).trans rfl, ((HB.out.cell (World.block_lt_of_cell? w _ hw270_0)).trans hw270_0)⟩ (fun hHeld => ?_); refine with_tabW dragomanlaw20_HzBack.tab9 dragomanlaw20_HzBack.bits9 (fun HT_ HW_ => ?_)
                    generalize wc.drew = w30 at HO_5 BK269 HB hx270_0 hHeld ⊢
                    refine pure_ (i := 1) (N := some 27) (v := ?_) (a' := ?_) #[false, true, false, false, false, false, false, false] rfl rfl (any_of HT_.out (by kernel_rfl)) (fun _ _ _ h => h) (Or.inl ⟨by rfl, ?_⟩) ?_ ?_
                    rotate_left
                    · intro w'
                      go_simp
                      with_reducible rfl
                    rotate_left
                    · simp only [Act.put, List.setIfInBounds_toArray, List.set_cons_zero, List.set_cons_succ, i64_w, i32_w]
                      rfl
                    refine pure_ (i := 2) (N := some 28) (v := ?_) (a' := ?_) #[false, true, true, false, false, false, false, false] rfl rfl (any_of HT_.out (by kernel_rfl)) (fun _ _ _ h => h) (Or.inl ⟨by rfl, ?_⟩) ?_ ?_
                    rotate_left
                    · intro w'
                      go_simp
                      with_reducible rfl
                    rotate_left
                    · simp only [Act.put, List.setIfInBounds_toArray, List.set_cons_zero, List.set_cons_succ, i64_w, i32_w]
                      rfl
                    refine pure_ (i := 3) (N := some 29) (v := ?_) (a' := ?_) #[false, true, true, true, false, false, false, false] rfl rfl (any_of HT_.out (by kernel_rfl)) (fun _ _ _ h => h) (Or.inl ⟨by rfl, ?_⟩) ?_ ?_
                    rotate_left
                    · intro w'
                      go_simp
                      with_reducible rfl
                    rotate_left
                    · simp only [Act.put, List.setIfInBounds_toArray, List.set_cons_zero, List.set_cons_succ, i64_w, i32_w]
                      rfl
                    refine take_ (i := 0) (N := some 26) (v := ?_) (a' := ?_) #[true, true, true, true, false, false, false, false] rfl rfl (take_ofW HT_.out HW_.out (by kernel_rfl)) (fun _ _ _ h => h) (Or.inl ⟨by rfl, ?_⟩) hHeld ?_ ?_
                    rotate_left
                    · rintro w' ⟨s0, s1, s2, s3, s4⟩
                      go_simp
                      with_reducible rfl
                    rotate_left
                    · simp only [Act.put, List.setIfInBounds_toArray, List.set_cons_zero, List.set_cons_succ, i64_w, i32_w]
                      rfl
                    refine take_ (i := 4) (N := some 30) (v := ?_) (a' := ?_) #[true, true, true, true, true, false, false, false] rfl rfl (take_ofW HT_.out HW_.out (by kernel_rfl)) (fun _ _ _ h => h) (Or.inl ⟨by rfl, ?_⟩) hHeld ?_ ?_
                    rotate_left
                    · rintro w' ⟨s0, s1, s2, s3, s4⟩
                      go_simp
                      with_reducible rfl
                    rotate_left
                    · simp only [Act.put, List.setIfInBounds_toArray, List.set_cons_zero, List.set_cons_succ, i64_w, i32_w]
                      rfl
                    refine join_ (σ := Nat) 1 #[true, true, true, true, true, true, true, false] (fun s_ => [(31, .agg #[.int .i64 t271, .string t272, .int .i64 t273, .int .i64 t274, .int .u32 t275, .int .i32 t276]), (7, .pointer (some ⟨s_, 0, none⟩))]) (fun s_ w' => (w'.cell? ⟨gb269, 0, none⟩ = some (.int .i64 x270000_1) ∧ w'.cell? ⟨gb269, 1, none⟩ = some (.int .i64 x270001_1) ∧ w'.cell? ⟨gb269, 2, none⟩ = some (.int .u32 x270002_1) ∧ w'.cell? ⟨gb269, 3, none⟩ = some (.int .i32 x270003_1) ∧ w'.cell? (ad270.add (x6_1).toNat) = some (.int .i32 (rd l0 x6_1))) ∧ (Kd.R (Kd.int .i32) 21 w' w.heap.size (fun _ => True) u5 x5_1) ∧ (w'.heap[gb269]? = some (.cells #[.int .i64 x270000_1, .int .i64 x270001_1, .int .u32 x270002_1, .int .i32 x270003_1] 25 (0, 0))) ∧ (w'.heap[s_]? = some (.cells #[.int .i64 0, .string (⟨#[]⟩ : ByteArray), .int .i64 0, .int .i64 0, .int .u32 0, .int .i32 0] 27 (0, 0))) ∧ (w.heap.size ≤ s_) ∧ (w.heap.size ≤ s_) ∧ (gb269 ≠ s_) ∧ (s_ ≠ gb269) ∧ (Below w.heap.size w w')) ?_ ?_
                    rotate_left
                    · intro hCont
                      refine two_ (i := 5) (j := 6) (Ni := some 31) (Nj := some 7) #[true, true, true, true, true, true, false, false] #[true, true, true, true, true, false, true, false] rfl rfl rfl rfl (two_of HT_.out (by kernel_rfl)) (by decide) (by decide) (fun K hK => ?_) (fun K hK => ?_)
                      · skip
                        refine goes_ Try.func23 (by kernel_rfl) rfl #[.agg #[.int .i64 x270000_1, .int .i64 x270001_1, .int .u32 x270002_1, .int .i32 x270003_1], .int .i32 (rd l0 x6_1)] (by rfl) rfl rfl (by (try simp only [List.map_toArray, List.map_cons, List.map_nil]); first | done | rfl | (simp only [List.length_drop, List.length_take]; rfl)) ?_
                        with_reducible refine (hz_Set.calls kj6 x270000_1 x270001_1 x270002_1 x270003_1 (rd l0 x6_1) t271 t272 t273 t274 t275 t276 _ A12.out).mono ?_
                        rintro e w31 ⟨rfl, hb⟩
                        refine ⟨_, rfl, ?_⟩
                        have n0_ := Aside0.mk (Kd.R_below (by (with_reducible repeat (first | apply Kd.R_alloc | apply Kd.R_drewN | apply Kd.R_drew)); exact HO_5.out) hb)
                        have n1_ := Aside0.mk (blk_below (g := gb269) (o := .cells #[.int .i64 x270000_1, .int .i64 x270001_1, .int .u32 x270002_1, .int .i32 x270003_1] 25 (0, 0)) (by (with_reducible repeat (first | refine blk_drewN ?_ _ | refine blk_drew ?_ | refine blk_alloc ?_ _)); exact BK269.out) hb)
                        have n2_ := Aside0.mk (below_step (by repeat (first | (with_reducible first | exact HB.out | apply below_alloc | apply pw_below_drewN | apply below_drew1 | refine below_set ?_ GE269.out) | exact HB.out)) hb)
                        clear HO_5
                        clear BK269
                        clear HB
                        have HO_5 := n0_
                        have BK269 := n1_
                        have HB := n2_
                        clear n0_ n1_ n2_
                        (try clear hb)
                        (try clear hb2)
                        (try clear hk)
                        (try clear hi)
                        refine hK.out _ _ ⟨(blk_cell BK269.out 0).trans rfl, (blk_cell BK269.out 1).trans rfl, (blk_cell BK269.out 2).trans rfl, (blk_cell BK269.out 3).trans rfl, ((HB.out.cell (World.block_lt_of_cell? w _ hw270_0)).trans hw270_0)⟩ (fun hHeld => ?_)
                        clear hK K
                        refine norm_ (a' := ?_) ?_ ?_
                        rotate_left
                        · show Act.put _ (some 31) _ = _
                          simp only [Act.put, List.setIfInBounds_toArray, List.set_cons_zero, List.set_cons_succ, i64_w, i32_w]
                          rfl
                        refine one_ (i := 6) (N := some 7) #[true, true, true, true, true, true, true, false] rfl rfl (one_of HT_.out (by kernel_rfl)) (by decide) (fun K hK => ?_)
                        refine box_step ?hg (N := 7) ?hd (cs := #[.int .i64 0, .string (⟨#[]⟩ : ByteArray), .int .i64 0, .int .i64 0, .int .u32 0, .int .i32 0]) (t := 27) ?hr ?_; (case hd => rfl); (case hg => rfl); (case hr => first | (go_simp; done) | (go_simp; rfl))
                        intro gb277 hg w32 hbox hb
                        have n0_ := Aside0.mk (Kd.R_below (by (with_reducible repeat (first | apply Kd.R_alloc | apply Kd.R_drewN | apply Kd.R_drew)); exact HO_5.out) hb)
                        have n1_ := Aside0.mk (blk_below (g := gb269) (o := .cells #[.int .i64 x270000_1, .int .i64 x270001_1, .int .u32 x270002_1, .int .i32 x270003_1] 25 (0, 0)) (by (with_reducible repeat (first | refine blk_drewN ?_ _ | refine blk_drew ?_ | refine blk_alloc ?_ _)); exact BK269.out) hb)
                        have n2_ := Aside0.mk (below_step (by repeat (first | (with_reducible first | exact HB.out | apply below_alloc | apply pw_below_drewN | apply below_drew1 | refine below_set ?_ GE269.out) | exact HB.out)) hb)
                        have n3_ := Aside0.mk (hbox)
                        have n4_ := Aside0.mk ((by rw [hg]; exact (below_size (by repeat (first | (with_reducible first | exact HB.out | apply below_alloc | apply pw_below_drewN | apply below_drew1 | refine below_set ?_ GE269.out) | exact HB.out))) : w.heap.size ≤ gb277))
                        have n5_ := Aside0.mk ((by rw [hg]; exact (below_size (by repeat (first | (with_reducible first | exact HB.out | apply below_alloc | apply pw_below_drewN | apply below_drew1 | refine below_set ?_ GE269.out) | exact HB.out))) : w.heap.size ≤ gb277))
                        have n6_ := Aside0.mk ((by rw [hg]; exact Nat.ne_of_lt (blk_lt (g := gb269) (o := .cells #[.int .i64 x270000_1, .int .i64 x270001_1, .int .u32 x270002_1, .int .i32 x270003_1] 25 (0, 0)) (by (with_reducible repeat (first | refine blk_drewN ?_ _ | refine blk_drew ?_ | refine blk_alloc ?_ _)); exact BK269.out)) : gb269 ≠ gb277))
                        have n7_ := Aside0.mk ((by rw [hg]; exact Nat.ne_of_gt (blk_lt (g := gb269) (o := .cells #[.int .i64 x270000_1, .int .i64 x270001_1, .int .u32 x270002_1, .int .i32 x270003_1] 25 (0, 0)) (by (with_reducible repeat (first | refine blk_drewN ?_ _ | refine blk_drew ?_ | refine blk_alloc ?_ _)); exact BK269.out)) : gb277 ≠ gb269))
                        clear HO_5
                        clear BK269
                        clear HB
                        have HO_5 := n0_
                        have BK269 := n1_
                        have HB := n2_
                        have BK277 := n3_
                        have GW277 := n4_
                        have GE277 := n5_
                        have NB269_277 := n6_
                        have NB277_269 := n7_
                        clear n0_ n1_ n2_ n3_ n4_ n5_ n6_ n7_
                        clear hb hbox hg
                        refine hK.out _ _ ⟨(blk_cell BK269.out 0).trans rfl, (blk_cell BK269.out 1).trans rfl, (blk_cell BK269.out 2).trans rfl, (blk_cell BK269.out 3).trans rfl, ((HB.out.cell (World.block_lt_of_cell? w _ hw270_0)).trans hw270_0)⟩ (fun hHeld => ?_)
                        clear hK K
                        refine norm_ (a' := ?_) ?_ ?_
                        rotate_left
                        · show Act.put _ (some 7) _ = _
                          simp only [Act.put, List.setIfInBounds_toArray, List.set_cons_zero, List.set_cons_succ, i64_w, i32_w]
                          rfl
                        exact norm_ (by simp only [putAll, Act.put, List.setIfInBounds_toArray, List.set_cons_zero, List.set_cons_succ]) (hCont (gb277) _ ⟨hHeld, (by (with_reducible repeat (first | apply Kd.R_alloc | apply Kd.R_drewN | apply Kd.R_drew)); exact HO_5.out), (by (with_reducible repeat (first | refine blk_drewN ?_ _ | refine blk_drew ?_ | refine blk_alloc ?_ _)); exact BK269.out), (by (with_reducible repeat (first | refine blk_drewN ?_ _ | refine blk_drew ?_ | refine blk_alloc ?_ _)); exact BK277.out), GW277.out, GE277.out, NB269_277.out, NB277_269.out, (by repeat (first | (with_reducible first | exact HB.out | apply below_alloc | apply pw_below_drewN | apply below_drew1 | refine below_set ?_ GE269.out | refine below_set ?_ GE277.out) | exact HB.out))⟩)
                      · skip
                        refine box_step ?hg (N := 7) ?hd (cs := #[.int .i64 0, .string (⟨#[]⟩ : ByteArray), .int .i64 0, .int .i64 0, .int .u32 0, .int .i32 0]) (t := 27) ?hr ?_; (case hd => rfl); (case hg => rfl); (case hr => first | (go_simp; done) | (go_simp; rfl))
                        intro gb277 hg w31 hbox hb
                        have n0_ := Aside0.mk (Kd.R_below (by (with_reducible repeat (first | apply Kd.R_alloc | apply Kd.R_drewN | apply Kd.R_drew)); exact HO_5.out) hb)
                        have n1_ := Aside0.mk (blk_below (g := gb269) (o := .cells #[.int .i64 x270000_1, .int .i64 x270001_1, .int .u32 x270002_1, .int .i32 x270003_1] 25 (0, 0)) (by (with_reducible repeat (first | refine blk_drewN ?_ _ | refine blk_drew ?_ | refine blk_alloc ?_ _)); exact BK269.out) hb)
                        have n2_ := Aside0.mk (below_step (by repeat (first | (with_reducible first | exact HB.out | apply below_alloc | apply pw_below_drewN | apply below_drew1 | refine below_set ?_ GE269.out) | exact HB.out)) hb)
                        have n3_ := Aside0.mk (hbox)
                        have n4_ := Aside0.mk ((by rw [hg]; exact (below_size (by repeat (first | (with_reducible first | exact HB.out | apply below_alloc | apply pw_below_drewN | apply below_drew1 | refine below_set ?_ GE269.out) | exact HB.out))) : w.heap.size ≤ gb277))
                        have n5_ := Aside0.mk ((by rw [hg]; exact (below_size (by repeat (first | (with_reducible first | exact HB.out | apply below_alloc | apply pw_below_drewN | apply below_drew1 | refine below_set ?_ GE269.out) | exact HB.out))) : w.heap.size ≤ gb277))
                        have n6_ := Aside0.mk ((by rw [hg]; exact Nat.ne_of_lt (blk_lt (g := gb269) (o := .cells #[.int .i64 x270000_1, .int .i64 x270001_1, .int .u32 x270002_1, .int .i32 x270003_1] 25 (0, 0)) (by (with_reducible repeat (first | refine blk_drewN ?_ _ | refine blk_drew ?_ | refine blk_alloc ?_ _)); exact BK269.out)) : gb269 ≠ gb277))
                        have n7_ := Aside0.mk ((by rw [hg]; exact Nat.ne_of_gt (blk_lt (g := gb269) (o := .cells #[.int .i64 x270000_1, .int .i64 x270001_1, .int .u32 x270002_1, .int .i32 x270003_1] 25 (0, 0)) (by (with_reducible repeat (first | refine blk_drewN ?_ _ | refine blk_drew ?_ | refine blk_alloc ?_ _)); exact BK269.out)) : gb277 ≠ gb269))
                        clear HO_5
                        clear BK269
                        clear HB
                        have HO_5 := n0_
                        have BK269 := n1_
                        have HB := n2_
                        have BK277 := n3_
                        have GW277 := n4_
                        have GE277 := n5_
                        have NB269_277 := n6_
                        have NB277_269 := n7_
                        clear n0_ n1_ n2_ n3_ n4_ n5_ n6_ n7_
                        clear hb hbox hg
                        refine hK.out _ _ ⟨(blk_cell BK269.out 0).trans rfl, (blk_cell BK269.out 1).trans rfl, (blk_cell BK269.out 2).trans rfl, (blk_cell BK269.out 3).trans rfl, ((HB.out.cell (World.block_lt_of_cell? w _ hw270_0)).trans hw270_0)⟩ (fun hHeld => ?_)
                        clear hK K
                        refine norm_ (a' := ?_) ?_ ?_
                        rotate_left
                        · show Act.put _ (some 7) _ = _
                          simp only [Act.put, List.setIfInBounds_toArray, List.set_cons_zero, List.set_cons_succ, i64_w, i32_w]
                          rfl
                        refine one_ (i := 5) (N := some 31) #[true, true, true, true, true, true, true, false] rfl rfl (one_of HT_.out (by kernel_rfl)) (by decide) (fun K hK => ?_)
                        refine goes_ Try.func23 (by kernel_rfl) rfl #[.agg #[.int .i64 x270000_1, .int .i64 x270001_1, .int .u32 x270002_1, .int .i32 x270003_1], .int .i32 (rd l0 x6_1)] (by rfl) rfl rfl (by (try simp only [List.map_toArray, List.map_cons, List.map_nil]); first | done | rfl | (simp only [List.length_drop, List.length_take]; rfl)) ?_
                        with_reducible refine (hz_Set.calls kj6 x270000_1 x270001_1 x270002_1 x270003_1 (rd l0 x6_1) t271 t272 t273 t274 t275 t276 _ A12.out).mono ?_
                        rintro e w32 ⟨rfl, hb⟩
                        refine ⟨_, rfl, ?_⟩
                        have n0_ := Aside0.mk (Kd.R_below (by (with_reducible repeat (first | apply Kd.R_alloc | apply Kd.R_drewN | apply Kd.R_drew)); exact HO_5.out) hb)
                        have n1_ := Aside0.mk (blk_below (g := gb269) (o := .cells #[.int .i64 x270000_1, .int .i64 x270001_1, .int .u32 x270002_1, .int .i32 x270003_1] 25 (0, 0)) (by (with_reducible repeat (first | refine blk_drewN ?_ _ | refine blk_drew ?_ | refine blk_alloc ?_ _)); exact BK269.out) hb)
                        have n2_ := Aside0.mk (blk_below (g := gb277) (o := .cells #[.int .i64 0, .string (⟨#[]⟩ : ByteArray), .int .i64 0, .int .i64 0, .int .u32 0, .int .i32 0] 27 (0, 0)) (by (with_reducible repeat (first | refine blk_drewN ?_ _ | refine blk_drew ?_ | refine blk_alloc ?_ _)); exact BK277.out) hb)
                        have n3_ := Aside0.mk (below_step (by repeat (first | (with_reducible first | exact HB.out | apply below_alloc | apply pw_below_drewN | apply below_drew1 | refine below_set ?_ GE269.out | refine below_set ?_ GE277.out) | exact HB.out)) hb)
                        clear HO_5
                        clear BK269
                        clear BK277
                        clear HB
                        have HO_5 := n0_
                        have BK269 := n1_
                        have BK277 := n2_
                        have HB := n3_
                        clear n0_ n1_ n2_ n3_
                        (try clear hb)
                        (try clear hb2)
                        (try clear hk)
                        (try clear hi)
                        refine hK.out _ _ ⟨(blk_cell BK269.out 0).trans rfl, (blk_cell BK269.out 1).trans rfl, (blk_cell BK269.out 2).trans rfl, (blk_cell BK269.out 3).trans rfl, ((HB.out.cell (World.block_lt_of_cell? w _ hw270_0)).trans hw270_0)⟩ (fun hHeld => ?_)
                        clear hK K
                        refine norm_ (a' := ?_) ?_ ?_
                        rotate_left
                        · show Act.put _ (some 31) _ = _
                          simp only [Act.put, List.setIfInBounds_toArray, List.set_cons_zero, List.set_cons_succ, i64_w, i32_w]
                          rfl
                        exact norm_ (by simp only [putAll, Act.put, List.setIfInBounds_toArray, List.set_cons_zero, List.set_cons_succ]) (hCont (gb277) _ ⟨hHeld, (by (with_reducible repeat (first | apply Kd.R_alloc | apply Kd.R_drewN | apply Kd.R_drew)); exact HO_5.out), (by (with_reducible repeat (first | refine blk_drewN ?_ _ | refine blk_drew ?_ | refine blk_alloc ?_ _)); exact BK269.out), (by (with_reducible repeat (first | refine blk_drewN ?_ _ | refine blk_drew ?_ | refine blk_alloc ?_ _)); exact BK277.out), GW277.out, GE277.out, NB269_277.out, NB277_269.out, (by repeat (first | (with_reducible first | exact HB.out | apply below_alloc | apply pw_below_drewN | apply below_drew1 | refine below_set ?_ GE269.out | refine below_set ?_ GE277.out) | exact HB.out))⟩)
                    rintro gb277 w33 ⟨hS_, h0_, h1_, h2_, h3_, h4_, h5_, h6_, h7_⟩
                    have n0_ : Aside0 (Kd.R (Kd.int .i32) 21 w33 w.heap.size (fun _ => True) u5 x5_1) := ⟨h0_⟩
                    have n1_ : Aside0 (w33.heap[gb269]? = some (.cells #[.int .i64 x270000_1, .int .i64 x270001_1, .int .u32 x270002_1, .int .i32 x270003_1] 25 (0, 0))) := ⟨h1_⟩
                    have n2_ : Aside0 (w33.heap[gb277]? = some (.cells #[.int .i64 0, .string (⟨#[]⟩ : ByteArray), .int .i64 0, .int .i64 0, .int .u32 0, .int .i32 0] 27 (0, 0))) := ⟨h2_⟩
                    have n3_ : Aside0 (w.heap.size ≤ gb277) := ⟨h3_⟩
                    have n4_ : Aside0 (w.heap.size ≤ gb277) := ⟨h4_⟩
                    have n5_ : Aside0 (gb269 ≠ gb277) := ⟨h5_⟩
                    have n6_ : Aside0 (gb277 ≠ gb269) := ⟨h6_⟩
                    have n7_ : Aside0 (Below w.heap.size w w33) := ⟨h7_⟩
                    clear HO_5
                    clear BK269
                    clear HB
                    clear h0_ h1_ h2_ h3_ h4_ h5_ h6_ h7_
                    have HO_5 := n0_
                    have BK269 := n1_
                    have BK277 := n2_
                    have GW277 := n3_
                    have GE277 := n4_
                    have NB269_277 := n5_
                    have NB277_269 := n6_
                    have HB := n7_
                    clear n0_ n1_ n2_ n3_ n4_ n5_ n6_ n7_
                    have hHeld : w33.cell? ⟨gb269, 0, none⟩ = some (.int .i64 x270000_1) ∧ w33.cell? ⟨gb269, 1, none⟩ = some (.int .i64 x270001_1) ∧ w33.cell? ⟨gb269, 2, none⟩ = some (.int .u32 x270002_1) ∧ w33.cell? ⟨gb269, 3, none⟩ = some (.int .i32 x270003_1) ∧ w33.cell? (ad270.add (x6_1).toNat) = some (.int .i32 (rd l0 x6_1)) := hS_
                    refine norm_ (a' := ?_) ?_ ?_
                    rotate_left
                    · simp only [putAll, Act.put, List.setIfInBounds_toArray, List.set_cons_zero, List.set_cons_succ]
                      rfl
                    refine one_ (i := 7) (N := none) #[true, true, true, true, true, true, true, true] rfl rfl (one_of HT_.out (by kernel_rfl)) (by decide) (fun K hK => ?_)
                    have hs34 : w33.cell? ⟨gb277, 0, none⟩ = some (.int .i64 0) := (blk_cell BK277.out 0).trans rfl
                    have hfs34 := blk_frozen BK277.out 0
                    have hns34_0 := NB269_277.out
                    have hms34_0 := NB277_269.out
                    have hs35 : w33.cell? ⟨gb277, 1, none⟩ = some (.string (⟨#[]⟩ : ByteArray)) := (blk_cell BK277.out 1).trans rfl
                    have hfs35 := blk_frozen BK277.out 1
                    have hns35_0 := NB269_277.out
                    have hms35_0 := NB277_269.out
                    have hs36 : w33.cell? ⟨gb277, 2, none⟩ = some (.int .i64 0) := (blk_cell BK277.out 2).trans rfl
                    have hfs36 := blk_frozen BK277.out 2
                    have hns36_0 := NB269_277.out
                    have hms36_0 := NB277_269.out
                    have hs37 : w33.cell? ⟨gb277, 3, none⟩ = some (.int .i64 0) := (blk_cell BK277.out 3).trans rfl
                    have hfs37 := blk_frozen BK277.out 3
                    have hns37_0 := NB269_277.out
                    have hms37_0 := NB277_269.out
                    have hs38 : w33.cell? ⟨gb277, 4, none⟩ = some (.int .u32 0) := (blk_cell BK277.out 4).trans rfl
                    have hfs38 := blk_frozen BK277.out 4
                    have hns38_0 := NB269_277.out
                    have hms38_0 := NB277_269.out
                    have hs39 : w33.cell? ⟨gb277, 5, none⟩ = some (.int .i32 0) := (blk_cell BK277.out 5).trans rfl
                    have hfs39 := blk_frozen BK277.out 5
                    have hns39_0 := NB269_277.out
                    have hms39_0 := NB277_269.out
                    refine skip_ (w1 := ?_) (by rfl) rfl ?_ ?_
                    rotate_left
                    · go_simp
                      rfl
                    refine hK.out _ _ ⟨((cell_far (p := ⟨gb277, _, none⟩) NB269_277.out _).trans (((cell_far (p := ⟨gb277, _, none⟩) NB269_277.out _).trans (((cell_far (p := ⟨gb277, _, none⟩) NB269_277.out _).trans (((cell_far (p := ⟨gb277, _, none⟩) NB269_277.out _).trans (((cell_far (p := ⟨gb277, _, none⟩) NB269_277.out _).trans (((cell_far (p := ⟨gb277, _, none⟩) NB269_277.out _).trans (hHeld.1)))))))))))), ((cell_far (p := ⟨gb277, _, none⟩) NB269_277.out _).trans (((cell_far (p := ⟨gb277, _, none⟩) NB269_277.out _).trans (((cell_far (p := ⟨gb277, _, none⟩) NB269_277.out _).trans (((cell_far (p := ⟨gb277, _, none⟩) NB269_277.out _).trans (((cell_far (p := ⟨gb277, _, none⟩) NB269_277.out _).trans (((cell_far (p := ⟨gb277, _, none⟩) NB269_277.out _).trans (hHeld.2.1)))))))))))), ((cell_far (p := ⟨gb277, _, none⟩) NB269_277.out _).trans (((cell_far (p := ⟨gb277, _, none⟩) NB269_277.out _).trans (((cell_far (p := ⟨gb277, _, none⟩) NB269_277.out _).trans (((cell_far (p := ⟨gb277, _, none⟩) NB269_277.out _).trans (((cell_far (p := ⟨gb277, _, none⟩) NB269_277.out _).trans (((cell_far (p := ⟨gb277, _, none⟩) NB269_277.out _).trans (hHeld.2.2.1)))))))))))), ((cell_far (p := ⟨gb277, _, none⟩) NB269_277.out _).trans (((cell_far (p := ⟨gb277, _, none⟩) NB269_277.out _).trans (((cell_far (p := ⟨gb277, _, none⟩) NB269_277.out _).trans (((cell_far (p := ⟨gb277, _, none⟩) NB269_277.out _).trans (((cell_far (p := ⟨gb277, _, none⟩) NB269_277.out _).trans (((cell_far (p := ⟨gb277, _, none⟩) NB269_277.out _).trans (hHeld.2.2.2.1)))))))))))), ((cell_far (p := ⟨gb277, _, none⟩) (by first | exact Nat.ne_of_lt (Nat.lt_of_lt_of_le (by have := World.block_lt_of_cell? _ _ hw270_0; first | rwa [add_block] at this | exact this) GW277.out) | (rw [add_block]; exact Nat.ne_of_lt (Nat.lt_of_lt_of_le (by have := World.block_lt_of_cell? _ _ hw270_0; first | rwa [add_block] at this | exact this) GW277.out)) | (show (Addr.add _ _).block ≠ _; rw [add_block]; exact Nat.ne_of_lt (Nat.lt_of_lt_of_le (by have := World.block_lt_of_cell? _ _ hw270_0; first | rwa [add_block] at this | exact this) GW277.out)) | (dsimp only; exact Nat.ne_of_lt (Nat.lt_of_lt_of_le (by have := World.block_lt_of_cell? _ _ hw270_0; first | rwa [add_block] at this | exact this) GW277.out))) _).trans (((cell_far (p := ⟨gb277, _, none⟩) (by first | exact Nat.ne_of_lt (Nat.lt_of_lt_of_le (by have := World.block_lt_of_cell? _ _ hw270_0; first | rwa [add_block] at this | exact this) GW277.out) | (rw [add_block]; exact Nat.ne_of_lt (Nat.lt_of_lt_of_le (by have := World.block_lt_of_cell? _ _ hw270_0; first | rwa [add_block] at this | exact this) GW277.out)) | (show (Addr.add _ _).block ≠ _; rw [add_block]; exact Nat.ne_of_lt (Nat.lt_of_lt_of_le (by have := World.block_lt_of_cell? _ _ hw270_0; first | rwa [add_block] at this | exact this) GW277.out)) | (dsimp only; exact Nat.ne_of_lt (Nat.lt_of_lt_of_le (by have := World.block_lt_of_cell? _ _ hw270_0; first | rwa [add_block] at this | exact this) GW277.out))) _).trans (((cell_far (p := ⟨gb277, _, none⟩) (by first | exact Nat.ne_of_lt (Nat.lt_of_lt_of_le (by have := World.block_lt_of_cell? _ _ hw270_0; first | rwa [add_block] at this | exact this) GW277.out) | (rw [add_block]; exact Nat.ne_of_lt (Nat.lt_of_lt_of_le (by have := World.block_lt_of_cell? _ _ hw270_0; first | rwa [add_block] at this | exact this) GW277.out)) | (show (Addr.add _ _).block ≠ _; rw [add_block]; exact Nat.ne_of_lt (Nat.lt_of_lt_of_le (by have := World.block_lt_of_cell? _ _ hw270_0; first | rwa [add_block] at this | exact this) GW277.out)) | (dsimp only; exact Nat.ne_of_lt (Nat.lt_of_lt_of_le (by have := World.block_lt_of_cell? _ _ hw270_0; first | rwa [add_block] at this | exact this) GW277.out))) _).trans (((cell_far (p := ⟨gb277, _, none⟩) (by first | exact Nat.ne_of_lt (Nat.lt_of_lt_of_le (by have := World.block_lt_of_cell? _ _ hw270_0; first | rwa [add_block] at this | exact this) GW277.out) | (rw [add_block]; exact Nat.ne_of_lt (Nat.lt_of_lt_of_le (by have := World.block_lt_of_cell? _ _ hw270_0; first | rwa [add_block] at this | exact this) GW277.out)) | (show (Addr.add _ _).block ≠ _; rw [add_block]; exact Nat.ne_of_lt (Nat.lt_of_lt_of_le (by have := World.block_lt_of_cell? _ _ hw270_0; first | rwa [add_block] at this | exact this) GW277.out)) | (dsimp only; exact Nat.ne_of_lt (Nat.lt_of_lt_of_le (by have := World.block_lt_of_cell? _ _ hw270_0; first | rwa [add_block] at this | exact this) GW277.out))) _).trans (((cell_far (p := ⟨gb277, _, none⟩) (by first | exact Nat.ne_of_lt (Nat.lt_of_lt_of_le (by have := World.block_lt_of_cell? _ _ hw270_0; first | rwa [add_block] at this | exact this) GW277.out) | (rw [add_block]; exact Nat.ne_of_lt (Nat.lt_of_lt_of_le (by have := World.block_lt_of_cell? _ _ hw270_0; first | rwa [add_block] at this | exact this) GW277.out)) | (show (Addr.add _ _).block ≠ _; rw [add_block]; exact Nat.ne_of_lt (Nat.lt_of_lt_of_le (by have := World.block_lt_of_cell? _ _ hw270_0; first | rwa [add_block] at this | exact this) GW277.out)) | (dsimp only; exact Nat.ne_of_lt (Nat.lt_of_lt_of_le (by have := World.block_lt_of_cell? _ _ hw270_0; first | rwa [add_block] at this | exact this) GW277.out))) _).trans (((cell_far (p := ⟨gb277, _, none⟩) (by first | exact Nat.ne_of_lt (Nat.lt_of_lt_of_le (by have := World.block_lt_of_cell? _ _ hw270_0; first | rwa [add_block] at this | exact this) GW277.out) | (rw [add_block]; exact Nat.ne_of_lt (Nat.lt_of_lt_of_le (by have := World.block_lt_of_cell? _ _ hw270_0; first | rwa [add_block] at this | exact this) GW277.out)) | (show (Addr.add _ _).block ≠ _; rw [add_block]; exact Nat.ne_of_lt (Nat.lt_of_lt_of_le (by have := World.block_lt_of_cell? _ _ hw270_0; first | rwa [add_block] at this | exact this) GW277.out)) | (dsimp only; exact Nat.ne_of_lt (Nat.lt_of_lt_of_le (by have := World.block_lt_of_cell? _ _ hw270_0; first | rwa [add_block] at this | exact this) GW277.out))) _).trans (hHeld.2.2.2.2))))))))))))⟩ (fun hHeld => ?_)
                    clear hK K
                    refine done_ (done_of HT_.out (by kernel_rfl)) ?_
                    have hnb40 := NB277_269.out
                    have hnc40 := NB269_277.out
                    have hcz41_0 : w33.cell? ⟨gb277, 0, none⟩ = some (.int .i64 0) := (blk_cell BK277.out 0).trans rfl
                    have hcz41_1 : w33.cell? ⟨gb277, 1, none⟩ = some (.string (⟨#[]⟩ : ByteArray)) := (blk_cell BK277.out 1).trans rfl
                    have hcz41_2 : w33.cell? ⟨gb277, 2, none⟩ = some (.int .i64 0) := (blk_cell BK277.out 2).trans rfl
                    have hcz41_3 : w33.cell? ⟨gb277, 3, none⟩ = some (.int .i64 0) := (blk_cell BK277.out 3).trans rfl
                    have hcz41_4 : w33.cell? ⟨gb277, 4, none⟩ = some (.int .u32 0) := (blk_cell BK277.out 4).trans rfl
                    have hcz41_5 : w33.cell? ⟨gb277, 5, none⟩ = some (.int .i32 0) := (blk_cell BK277.out 5).trans rfl
                    have hfz41_0 := blk_frozen BK277.out 0
                    have hfz41_1 := blk_frozen BK277.out 1
                    have hfz41_2 := blk_frozen BK277.out 2
                    have hfz41_3 := blk_frozen BK277.out 3
                    have hfz41_4 := blk_frozen BK277.out 4
                    have hfz41_5 := blk_frozen BK277.out 5
                    try go_wp2
                    go_roundg kj6
                    case measure => have := HK1.out; have := HJ6.out; omega
                    case rel => exact ⟨(x4_1), (x5_1), (wrap64 (x6_1 + 1)), (x270000_1), (x270001_1), (x270002_1), (x270003_1), (by first | rfl | (simp; done) | (simp [*]; done)), (by first | rfl | (simp; done) | (simp [*]; done)), H', ⟨by have := HK1.out; have := HJ6.out; omega⟩, ⟨by (with_reducible repeat (first | apply Kd.R_alloc | apply Kd.R_drewN | apply Kd.R_drew)); exact Kd.R_mono (Kd.R_far (p := ⟨gb277, 5, none⟩) (Kd.R_far (p := ⟨gb277, 4, none⟩) (Kd.R_far (p := ⟨gb277, 3, none⟩) (Kd.R_far (p := ⟨gb277, 2, none⟩) (Kd.R_far (p := ⟨gb277, 1, none⟩) (Kd.R_far (p := ⟨gb277, 0, none⟩) (Kd.R_types HO_5.out BK277.out (by decide)) (fun _ hk => hk.2) (.int .i64 t271)) (fun _ hk => hk.2) (.string t272)) (fun _ hk => hk.2) (.int .i64 t273)) (fun _ hk => hk.2) (.int .i64 t274)) (fun _ hk => hk.2) (.int .u32 t275)) (fun _ hk => hk.2) (.int .i32 t276)) (fun _ hk => trivial)⟩, ⟨by (with_reducible repeat (first | refine blk_drewN ?_ _ | refine blk_drew ?_ | refine blk_alloc ?_ _)); refine blk_far ?_ NB269_277.out _; (with_reducible repeat (first | refine blk_drewN ?_ _ | refine blk_drew ?_ | refine blk_alloc ?_ _)); refine blk_far ?_ NB269_277.out _; (with_reducible repeat (first | refine blk_drewN ?_ _ | refine blk_drew ?_ | refine blk_alloc ?_ _)); refine blk_far ?_ NB269_277.out _; (with_reducible repeat (first | refine blk_drewN ?_ _ | refine blk_drew ?_ | refine blk_alloc ?_ _)); refine blk_far ?_ NB269_277.out _; (with_reducible repeat (first | refine blk_drewN ?_ _ | refine blk_drew ?_ | refine blk_alloc ?_ _)); refine blk_far ?_ NB269_277.out _; (with_reducible repeat (first | refine blk_drewN ?_ _ | refine blk_drew ?_ | refine blk_alloc ?_ _)); refine blk_far ?_ NB269_277.out _; (with_reducible repeat (first | refine blk_drewN ?_ _ | refine blk_drew ?_ | refine blk_alloc ?_ _)); exact BK269.out⟩, ⟨by repeat (first | (with_reducible first | exact HB.out | apply below_alloc | apply pw_below_drewN | apply below_drew1 | refine below_set ?_ GE269.out | refine below_set ?_ GE277.out) | exact HB.out)⟩⟩
                · rw [if_neg c11] at H
                  exact absurd H (by simp)
              · rw [if_neg c10] at H
                exact absurd H (by simp)
            · replace c9 := Bool.eq_false_iff.mpr c9
              subst c9
              have H1 : ((hz_End.f x270000_1 x270001_1 x270002_1 x270003_1).bind fun bt282 => (if bt282.2 = 0 then (if x4_1.size + bt282.1.size ≤ 9223372036854775807 then (dragomanlaw20_HzBack.l1 kj6 (x4_1 ++ bt282.1) x5_1 0 0 0 0 0) else (none)) else (some false))) = some r := by rw [if_neg (show ¬ (false = true) by decide)] at H; exact H
              clear H
              have H := H1
              clear H1
              replace H := Option.bind_eq_some_iff.mp H
              obtain ⟨⟨t282, t283⟩, A420, H⟩ := H
              replace H : (if t283 = 0 then (if x4_1.size + t282.size ≤ 9223372036854775807 then (dragomanlaw20_HzBack.l1 kj6 (x4_1 ++ t282) x5_1 0 0 0 0 0) else (none)) else (some false)) = some r := H
              have A42 := Aside0.mk A420
              clear A420
              by_cases c43 : t283 = 0
              · rw [if_pos c43] at H
                have c43b0 : (t283 == 0) = true := beq_iff_eq.mpr c43
                have c43b1 : (t283 != 0) = false := bne_eq_false_iff_eq.mpr c43
                clear c43
                by_cases c44 : x4_1.size + t282.size ≤ 9223372036854775807
                · rw [if_pos c44] at H
                  have c44b0 := eq_true c44
                  have c44b1 : decide (x4_1.size + t282.size ≤ 9223372036854775807) = true := decide_eq_true c44
                  try have c44b2 : (9223372036854775807 < x4_1.size + t282.size) = False := eq_false (Nat.not_lt.2 c44)
                  have H' := Aside0.mk H
                  clear H
                  have hcz45_0 : wc.cell? ⟨gb269, 0, none⟩ = some (.int .i64 x270000_1) := (blk_cell BK269.out 0).trans rfl
                  have hcz45_1 : wc.cell? ⟨gb269, 1, none⟩ = some (.int .i64 x270001_1) := (blk_cell BK269.out 1).trans rfl
                  have hcz45_2 : wc.cell? ⟨gb269, 2, none⟩ = some (.int .u32 x270002_1) := (blk_cell BK269.out 2).trans rfl
                  have hcz45_3 : wc.cell? ⟨gb269, 3, none⟩ = some (.int .i32 x270003_1) := (blk_cell BK269.out 3).trans rfl
                  have hfz45_0 := blk_frozen BK269.out 0
                  have hfz45_1 := blk_frozen BK269.out 1
                  have hfz45_2 := blk_frozen BK269.out 2
                  have hfz45_3 := blk_frozen BK269.out 3
                  go_wp2_with (first | ((with_reducible refine gate_callee (f := 21) rfl ?_); refine goesL_ (some 50) rfl rfl Try.func21 (by kernel_rfl) rfl #[.agg #[.int .i64 x270000_1, .int .i64 x270001_1, .int .u32 x270002_1, .int .i32 x270003_1]] rfl (by (try simp only [List.map_toArray, List.map_cons, List.map_nil]); first | done | rfl | (simp only [List.length_drop, List.length_take]; rfl)) ?_; (with_reducible refine (hz_End.calls x270000_1 x270001_1 x270002_1 x270003_1 t282 t283 _ A42.out).mono ?_); rintro e w46 ⟨rfl, hb⟩; refine ⟨_, rfl, ?_⟩; have n0_ := Aside0.mk (Kd.R_below (by (with_reducible repeat (first | apply Kd.R_alloc | apply Kd.R_drewN | apply Kd.R_drew)); exact HO_5.out) hb); have n1_ := Aside0.mk (blk_below (g := gb269) (o := .cells #[.int .i64 x270000_1, .int .i64 x270001_1, .int .u32 x270002_1, .int .i32 x270003_1] 25 (0, 0)) (by (with_reducible repeat (first | refine blk_drewN ?_ _ | refine blk_drew ?_ | refine blk_alloc ?_ _)); exact BK269.out) hb); have n2_ := Aside0.mk (below_step (by repeat (first | (with_reducible first | exact HB.out | apply below_alloc | apply pw_below_drewN | apply below_drew1 | refine below_set ?_ GE269.out) | exact HB.out)) hb); clear HO_5; clear BK269; clear HB; have HO_5 := n0_; have BK269 := n1_; have HB := n2_; clear n0_ n1_ n2_; (try clear hb); (try clear hb2); (try clear hk); (try clear hi); have hcz47_0 : w46.cell? ⟨gb269, 0, none⟩ = some (.int .i64 x270000_1) := (blk_cell BK269.out 0).trans rfl; have hcz47_1 : w46.cell? ⟨gb269, 1, none⟩ = some (.int .i64 x270001_1) := (blk_cell BK269.out 1).trans rfl; have hcz47_2 : w46.cell? ⟨gb269, 2, none⟩ = some (.int .u32 x270002_1) := (blk_cell BK269.out 2).trans rfl; have hcz47_3 : w46.cell? ⟨gb269, 3, none⟩ = some (.int .i32 x270003_1) := (blk_cell BK269.out 3).trans rfl; have hfz47_0 := blk_frozen BK269.out 0; have hfz47_1 := blk_frozen BK269.out 1; have hfz47_2 := blk_frozen BK269.out 2; have hfz47_3 := blk_frozen BK269.out 3))
                  go_loopg [4, 10] kj6 (fun kq v4 v10 w' => ∃ (x4_3 : ByteArray) (x10_3 : Int) (x270000_3 : Int) (x270001_3 : Int) (x270002_3 : Int) (x270003_3 : Int), v4 = .string x4_3 ∧ v10 = .int .i64 x10_3 ∧ Aside0 (dragomanlaw20_HzBack.l1 kq x4_3 x5_1 x10_3 x270000_3 x270001_3 x270002_3 x270003_3 = some r) ∧ Aside0 (kq ≤ kj6) ∧ Aside0 (Kd.R (Kd.int .i32) 21 w' w.heap.size (fun _ => True) u5 x5_1) ∧ Aside0 (w'.heap[gb269]? = some (.cells #[.int .i64 x270000_3, .int .i64 x270001_3, .int .u32 x270002_3, .int .i32 x270003_3] 25 (0, 0))) ∧ Aside0 (Below w.heap.size w w'))
                  case atStart => exact ⟨(x4_1 ++ t282), (0), (0), (0), (0), (0), (by first | rfl | (simp; done) | (simp [*]; done)), (by first | rfl | (simp; done) | (simp [*]; done)), H', ⟨Nat.le_refl _⟩, ⟨by (with_reducible repeat (first | apply Kd.R_alloc | apply Kd.R_drewN | apply Kd.R_drew)); exact Kd.R_mono (Kd.R_far (p := ⟨gb269, 3, none⟩) (Kd.R_far (p := ⟨gb269, 2, none⟩) (Kd.R_far (p := ⟨gb269, 1, none⟩) (Kd.R_far (p := ⟨gb269, 0, none⟩) (Kd.R_types HO_5.out BK269.out (by decide)) (fun _ hk => hk.2) (.int .i64 0)) (fun _ hk => hk.2) (.int .i64 0)) (fun _ hk => hk.2) (.int .u32 0)) (fun _ hk => hk.2) (.int .i32 0)) (fun _ hk => trivial)⟩, ⟨by (with_reducible repeat (first | refine blk_drewN ?_ _ | refine blk_drew ?_ | refine blk_alloc ?_ _)); refine blk_put (cs := #[.int .i64 0, .int .i64 0, .int .u32 0, .int .i32 x270003_1]) ?_ 3 _ rfl; (with_reducible repeat (first | refine blk_drewN ?_ _ | refine blk_drew ?_ | refine blk_alloc ?_ _)); refine blk_put (cs := #[.int .i64 0, .int .i64 0, .int .u32 x270002_1, .int .i32 x270003_1]) ?_ 2 _ rfl; (with_reducible repeat (first | refine blk_drewN ?_ _ | refine blk_drew ?_ | refine blk_alloc ?_ _)); refine blk_put (cs := #[.int .i64 0, .int .i64 x270001_1, .int .u32 x270002_1, .int .i32 x270003_1]) ?_ 1 _ rfl; (with_reducible repeat (first | refine blk_drewN ?_ _ | refine blk_drew ?_ | refine blk_alloc ?_ _)); refine blk_put (cs := #[.int .i64 x270000_1, .int .i64 x270001_1, .int .u32 x270002_1, .int .i32 x270003_1]) ?_ 0 _ rfl; (with_reducible repeat (first | refine blk_drewN ?_ _ | refine blk_drew ?_ | refine blk_alloc ?_ _)); exact BK269.out⟩, ⟨by repeat (first | (with_reducible first | exact HB.out | apply below_alloc | apply pw_below_drewN | apply below_drew1 | refine below_set ?_ GE269.out) | exact HB.out)⟩⟩
                  case round =>
                    clear H'
                    try clear c1
                    try clear c2
                    try clear p2
                    try clear q2
                    try clear hx2
                    try clear c4
                    try clear p6
                    try clear c9
                    try clear c10
                    try clear c11
                    try clear c13
                    try clear c13b0
                    try clear c13b1
                    try clear c14
                    try clear c15
                    try clear c21
                    try clear c23
                    try clear c26
                    try clear p27
                    try clear q27
                    try clear hx27
                    try clear c40
                    try clear c43
                    try clear c43b0
                    try clear c43b1
                    try clear c44
                    try clear c44b0
                    try clear c44b1
                    try clear c44b2
                    try clear hcz27_0
                    try clear hcz27_1
                    try clear hcz27_2
                    try clear hcz27_3
                    try clear hcz27_4
                    try clear hcz27_5
                    try clear hcz28_0
                    try clear hcz28_1
                    try clear hcz28_2
                    try clear hcz28_3
                    try clear hcz41_0
                    try clear hcz41_1
                    try clear hcz41_2
                    try clear hcz41_3
                    try clear hcz41_4
                    try clear hcz41_5
                    try clear hcz45_0
                    try clear hcz45_1
                    try clear hcz45_2
                    try clear hcz45_3
                    try clear hcz47_0
                    try clear hcz47_1
                    try clear hcz47_2
                    try clear hcz47_3
                    try clear hfz27_0
                    try clear hfz27_1
                    try clear hfz27_2
                    try clear hfz27_3
                    try clear hfz27_4
                    try clear hfz27_5
                    try clear hfz28_0
                    try clear hfz28_1
                    try clear hfz28_2
                    try clear hfz28_3
                    try clear hfz41_0
                    try clear hfz41_1
                    try clear hfz41_2
                    try clear hfz41_3
                    try clear hfz41_4
                    try clear hfz41_5
                    try clear hfz45_0
                    try clear hfz45_1
                    try clear hfz45_2
                    try clear hfz45_3
                    try clear hfz47_0
                    try clear hfz47_1
                    try clear hfz47_2
                    try clear hfz47_3
                    try clear hx270_0
                    try clear hx278_0
                    try clear p270
                    try clear p278
                    try clear q270
                    try clear q278
                    obtain ⟨x4_3, x10_3, x270000_3, x270001_3, x270002_3, x270003_3, rfl, rfl, HA, HK3, HO_5, BK269, HB⟩ := hrel
                    cases gk with
                    | zero => exact absurd HA.out (by simp [dragomanlaw20_HzBack.l1])
                    | succ k3 =>
                      have H := HA.out
                      clear HA
                      simp only [dragomanlaw20_HzBack.l1] at H
                      by_cases c48 : (x4_3.size : Int) > 0
                      · rw [if_pos c48] at H
                        have c48b0 : decide (0 < (x4_3.size : Int)) = true := decide_eq_true c48
                        have c48b1 : decide (0 < x4_3.size) = true := decide_eq_true (by omega)
                        clear c48
                        replace H := Option.bind_eq_some_iff.mp H
                        obtain ⟨t284, A490, H⟩ := H
                        replace H : ((hz_Get.f k3 x270000_3 x270001_3 x270002_3 x270003_3 t284).bind fun bt287 => (if bt287.1 = 0 then (if bt287.2.1 < 1 then (dragomanlaw20_HzBack.j3 k3 x4_3 x5_1 x10_3 true bt287.1 bt287.2.1 bt287.2.2.1 bt287.2.2.2.1 bt287.2.2.2.2.1 bt287.2.2.2.2.2.1 bt287.2.2.2.2.2.2.1 bt287.2.2.2.2.2.2.2.1 bt287.2.2.2.2.2.2.2.2) else (if bt287.2.1 > (x4_3.size : Int) then (dragomanlaw20_HzBack.j3 k3 x4_3 x5_1 x10_3 true bt287.1 bt287.2.1 bt287.2.2.1 bt287.2.2.2.1 bt287.2.2.2.2.1 bt287.2.2.2.2.2.1 bt287.2.2.2.2.2.2.1 bt287.2.2.2.2.2.2.2.1 bt287.2.2.2.2.2.2.2.2) else (dragomanlaw20_HzBack.j3 k3 x4_3 x5_1 x10_3 (decide (bt287.2.2.1 > 1)) bt287.1 bt287.2.1 bt287.2.2.1 bt287.2.2.2.1 bt287.2.2.2.2.1 bt287.2.2.2.2.2.1 bt287.2.2.2.2.2.2.1 bt287.2.2.2.2.2.2.2.1 bt287.2.2.2.2.2.2.2.2))) else (dragomanlaw20_HzBack.j3 k3 x4_3 x5_1 x10_3 true bt287.1 bt287.2.1 bt287.2.2.1 bt287.2.2.2.1 bt287.2.2.2.2.1 bt287.2.2.2.2.2.1 bt287.2.2.2.2.2.2.1 bt287.2.2.2.2.2.2.2.1 bt287.2.2.2.2.2.2.2.2))) = some r := H
                        have A49 := Aside0.mk A490
                        clear A490
                        replace H := Option.bind_eq_some_iff.mp H
                        obtain ⟨⟨t287, t288, t289, t290, t291, t292, t293, t294, t295⟩, A500, H⟩ := H
                        replace H : (if t287 = 0 then (if t288 < 1 then (dragomanlaw20_HzBack.j3 k3 x4_3 x5_1 x10_3 true t287 t288 t289 t290 t291 t292 t293 t294 t295) else (if t288 > (x4_3.size : Int) then (dragomanlaw20_HzBack.j3 k3 x4_3 x5_1 x10_3 true t287 t288 t289 t290 t291 t292 t293 t294 t295) else (dragomanlaw20_HzBack.j3 k3 x4_3 x5_1 x10_3 (decide (t289 > 1)) t287 t288 t289 t290 t291 t292 t293 t294 t295))) else (dragomanlaw20_HzBack.j3 k3 x4_3 x5_1 x10_3 true t287 t288 t289 t290 t291 t292 t293 t294 t295)) = some r := H
                        have A50 := Aside0.mk A500
                        clear A500
                        have HC51 := Aside0.mk H
                        clear H
                        have hcz52_0 : wr.cell? ⟨gb269, 0, none⟩ = some (.int .i64 x270000_3) := (blk_cell BK269.out 0).trans rfl
                        have hcz52_1 : wr.cell? ⟨gb269, 1, none⟩ = some (.int .i64 x270001_3) := (blk_cell BK269.out 1).trans rfl
                        have hcz52_2 : wr.cell? ⟨gb269, 2, none⟩ = some (.int .u32 x270002_3) := (blk_cell BK269.out 2).trans rfl
                        have hcz52_3 : wr.cell? ⟨gb269, 3, none⟩ = some (.int .i32 x270003_3) := (blk_cell BK269.out 3).trans rfl
                        have hfz52_0 := blk_frozen BK269.out 0
                        have hfz52_1 := blk_frozen BK269.out 1
                        have hfz52_2 := blk_frozen BK269.out 2
                        have hfz52_3 := blk_frozen BK269.out 3
                        go_upto_region 22 with (first | ((with_reducible refine gate_conv rfl ?_); refine convL_ (some 64) rfl rfl x4_3 rfl (by first | rfl | (simp; done)) ?_; (with_reducible refine (strbytes.calls x4_3 t284 _ A49.out).mono ?_); rintro e w53 ⟨v285, rfl, ho0, hb⟩; refine ⟨_, rfl, ?_⟩; have n0_ := Aside0.mk (Kd.R_below (by (with_reducible repeat (first | apply Kd.R_alloc | apply Kd.R_drewN | apply Kd.R_drew)); exact HO_5.out) hb); have n1_ := Aside0.mk (Kd.V_lower (Kd.V_mono (ok' := fun k_ => some k_ ≠ (u5 : Value).ownBlock ∧ k_ ≠ gb269) ho0 (fun k_ hk_ => ⟨(Kd.fresh' (Kd.R_lt (by (with_reducible repeat (first | apply Kd.R_alloc | apply Kd.R_drewN | apply Kd.R_drew)); exact HO_5.out)) k_ hk_), (Kd.freshB (g := gb269) (o := .cells #[.int .i64 x270000_3, .int .i64 x270001_3, .int .u32 x270002_3, .int .i32 x270003_3] 25 (0, 0)) (by (with_reducible repeat (first | refine blk_drewN ?_ _ | refine blk_drew ?_ | refine blk_alloc ?_ _)); exact BK269.out) k_ hk_)⟩)) (below_size (by repeat (first | (with_reducible first | exact HB.out | apply below_alloc | apply pw_below_drewN | apply below_drew1 | refine below_set ?_ GE269.out) | exact HB.out)))); have n2_ := Aside0.mk (blk_below (g := gb269) (o := .cells #[.int .i64 x270000_3, .int .i64 x270001_3, .int .u32 x270002_3, .int .i32 x270003_3] 25 (0, 0)) (by (with_reducible repeat (first | refine blk_drewN ?_ _ | refine blk_drew ?_ | refine blk_alloc ?_ _)); exact BK269.out) hb); have n3_ := Aside0.mk (below_step (by repeat (first | (with_reducible first | exact HB.out | apply below_alloc | apply pw_below_drewN | apply below_drew1 | refine below_set ?_ GE269.out) | exact HB.out)) hb); clear HO_5; clear BK269; clear HB; have HO_5 := n0_; have HO286 := n1_; have BK269 := n2_; have HB := n3_; clear n0_ n1_ n2_ n3_; (try clear hb); (try clear hb2); (try clear hk); (try clear hi); (try clear ho0); obtain ⟨Ao54, co54, eo54⟩ := Kd.V_slice HO286.out; subst eo54) | ((with_reducible refine gate_callee (f := 28) rfl ?_); refine goesL_ (some 65) rfl rfl Try.func28 (by kernel_rfl) rfl #[.agg #[.int .i64 x270000_3, .int .i64 x270001_3, .int .u32 x270002_3, .int .i32 x270003_3], .slice Ao54 t284.length co54] rfl (by (try simp only [List.map_toArray, List.map_cons, List.map_nil]); first | done | rfl | (simp only [List.length_drop, List.length_take]; rfl)) ?_; (with_reducible refine (hz_Get.calls k3 x270000_3 x270001_3 x270002_3 x270003_3 _ _ t284 t287 t288 t289 t290 t291 t292 t293 t294 t295 _ ?side1 ?side2 A50.out).mono ?_); (case side1 => repeat (first | exact (Kd.V_reads' HO286.out).2.2 | (with_reducible refine Kd.C_alloc ?_ _) | (with_reducible refine Kd.C_drewN ?_ _) | (with_reducible refine Kd.C_drew ?_))); (case side2 => exact (Kd.V_reads' HO286.out).2.1); rintro e w55 ⟨rfl, hb⟩; refine ⟨_, rfl, ?_⟩; have n0_ := Aside0.mk (Kd.R_below (by (with_reducible repeat (first | apply Kd.R_alloc | apply Kd.R_drewN | apply Kd.R_drew)); exact HO_5.out) hb); have n1_ := Aside0.mk (Kd.V_below (by (with_reducible repeat (first | apply Kd.V_alloc | apply Kd.V_drewN | apply Kd.V_drew)); exact HO286.out) hb); have n2_ := Aside0.mk (blk_below (g := gb269) (o := .cells #[.int .i64 x270000_3, .int .i64 x270001_3, .int .u32 x270002_3, .int .i32 x270003_3] 25 (0, 0)) (by (with_reducible repeat (first | refine blk_drewN ?_ _ | refine blk_drew ?_ | refine blk_alloc ?_ _)); exact BK269.out) hb); have n3_ := Aside0.mk (below_step (by repeat (first | (with_reducible first | exact HB.out | apply below_alloc | apply pw_below_drewN | apply below_drew1 | refine below_set ?_ GE269.out) | exact HB.out)) hb); clear HO_5; clear HO286; clear BK269; clear HB; have HO_5 := n0_; have HO286 := n1_; have BK269 := n2_; have HB := n3_; clear n0_ n1_ n2_ n3_; (try clear hb); (try clear hb2); (try clear hk); (try clear hi)) | ((with_reducible refine gate_dst (N := 11) rfl ?_); (try (refine gate_guard (by rfl) ?_; dsimp only)); refine box_event ?hg (N := 11) ?hd (cs := #[.int .i64 0, .int .i64 0, .int .i64 0, .int .i32 0, .int .i32 0, .int .i64 0, .int .i64 0, .int .u32 0, .int .i32 0]) (t := 36) ?hr ?_; (case hd => rfl); (case hg => rfl); (case hr => first | (go_simp; done) | (go_simp; rfl)); intro gb296 hg w56 hbox hb; have n0_ := Aside0.mk (Kd.R_below (by (with_reducible repeat (first | apply Kd.R_alloc | apply Kd.R_drewN | apply Kd.R_drew)); exact HO_5.out) hb); have n1_ := Aside0.mk (Kd.V_below (Kd.V_elderB (by (with_reducible repeat (first | apply Kd.V_alloc | apply Kd.V_drewN | apply Kd.V_drew)); exact HO286.out) gb296 (Nat.le_of_eq hg.symm)) hb); have n2_ := Aside0.mk (blk_below (g := gb269) (o := .cells #[.int .i64 x270000_3, .int .i64 x270001_3, .int .u32 x270002_3, .int .i32 x270003_3] 25 (0, 0)) (by (with_reducible repeat (first | refine blk_drewN ?_ _ | refine blk_drew ?_ | refine blk_alloc ?_ _)); exact BK269.out) hb); have n3_ := Aside0.mk (below_step (by repeat (first | (with_reducible first | exact HB.out | apply below_alloc | apply pw_below_drewN | apply below_drew1 | refine below_set ?_ GE269.out) | exact HB.out)) hb); have n4_ := Aside0.mk (hbox); have n5_ := Aside0.mk ((by rw [hg]; exact (below_size (by repeat (first | (with_reducible first | exact HB.out | apply below_alloc | apply pw_below_drewN | apply below_drew1 | refine below_set ?_ GE269.out) | exact HB.out))) : w.heap.size ≤ gb296)); have n6_ := Aside0.mk ((by rw [hg]; exact (below_size (by repeat (first | (with_reducible first | exact HB.out | apply below_alloc | apply pw_below_drewN | apply below_drew1 | refine below_set ?_ GE269.out) | exact HB.out))) : w.heap.size ≤ gb296)); have n7_ := Aside0.mk ((by rw [hg]; exact Nat.ne_of_lt (blk_lt (g := gb269) (o := .cells #[.int .i64 x270000_3, .int .i64 x270001_3, .int .u32 x270002_3, .int .i32 x270003_3] 25 (0, 0)) (by (with_reducible repeat (first | refine blk_drewN ?_ _ | refine blk_drew ?_ | refine blk_alloc ?_ _)); exact BK269.out)) : gb269 ≠ gb296)); have n8_ := Aside0.mk ((by rw [hg]; exact Nat.ne_of_gt (blk_lt (g := gb269) (o := .cells #[.int .i64 x270000_3, .int .i64 x270001_3, .int .u32 x270002_3, .int .i32 x270003_3] 25 (0, 0)) (by (with_reducible repeat (first | refine blk_drewN ?_ _ | refine blk_drew ?_ | refine blk_alloc ?_ _)); exact BK269.out)) : gb296 ≠ gb269)); clear HO_5; clear HO286; clear BK269; clear HB; have HO_5 := n0_; have HO286 := n1_; have BK269 := n2_; have HB := n3_; have BK296 := n4_; have GW296 := n5_; have GE296 := n6_; have NB269_296 := n7_; have NB296_269 := n8_; clear n0_ n1_ n2_ n3_ n4_ n5_ n6_ n7_ n8_; clear hb hbox hg; have hnb57 := NB296_269.out; have hnc57 := NB269_296.out; have hcz58_0 : w56.cell? ⟨gb296, 0, none⟩ = some (.int .i64 0) := (blk_cell BK296.out 0).trans rfl; have hcz58_1 : w56.cell? ⟨gb296, 1, none⟩ = some (.int .i64 0) := (blk_cell BK296.out 1).trans rfl; have hcz58_2 : w56.cell? ⟨gb296, 2, none⟩ = some (.int .i64 0) := (blk_cell BK296.out 2).trans rfl; have hcz58_3 : w56.cell? ⟨gb296, 3, none⟩ = some (.int .i32 0) := (blk_cell BK296.out 3).trans rfl; have hcz58_4 : w56.cell? ⟨gb296, 4, none⟩ = some (.int .i32 0) := (blk_cell BK296.out 4).trans rfl; have hcz58_5 : w56.cell? ⟨gb296, 5, none⟩ = some (.int .i64 0) := (blk_cell BK296.out 5).trans rfl; have hcz58_6 : w56.cell? ⟨gb296, 6, none⟩ = some (.int .i64 0) := (blk_cell BK296.out 6).trans rfl; have hcz58_7 : w56.cell? ⟨gb296, 7, none⟩ = some (.int .u32 0) := (blk_cell BK296.out 7).trans rfl; have hcz58_8 : w56.cell? ⟨gb296, 8, none⟩ = some (.int .i32 0) := (blk_cell BK296.out 8).trans rfl; have hfz58_0 := blk_frozen BK296.out 0; have hfz58_1 := blk_frozen BK296.out 1; have hfz58_2 := blk_frozen BK296.out 2; have hfz58_3 := blk_frozen BK296.out 3; have hfz58_4 := blk_frozen BK296.out 4; have hfz58_5 := blk_frozen BK296.out 5; have hfz58_6 := blk_frozen BK296.out 6; have hfz58_7 := blk_frozen BK296.out 7; have hfz58_8 := blk_frozen BK296.out 8))
                        (try simp only [Act.put, List.setIfInBounds_toArray, List.set_cons_zero, List.set_cons_succ])
                        go_cut [85] (fun v85 wc => ∃ (kq : Nat) (x85_50 : Bool), v85 = .bool x85_50 ∧ Aside0 (dragomanlaw20_HzBack.j3 kq x4_3 x5_1 x10_3 x85_50 t287 t288 t289 t290 t291 t292 t293 t294 t295 = some r) ∧ Aside0 (kq ≤ k3) ∧ Aside0 (Kd.R (Kd.int .i32) 21 wc w.heap.size (fun _ => True) u5 x5_1) ∧ Aside0 (wc.heap[gb269]? = some (.cells #[.int .i64 x270000_3, .int .i64 x270001_3, .int .u32 x270002_3, .int .i32 x270003_3] 25 (0, 0))) ∧ Aside0 (wc.heap[gb296]? = some (.cells #[.int .i64 t287, .int .i64 t288, .int .i64 t289, .int .i32 t290, .int .i32 t291, .int .i64 t292, .int .i64 t293, .int .u32 t294, .int .i32 t295] 36 (0, 0))) ∧ Aside0 (Below w.heap.size w wc))
                        case first =>
                          have H := HC51.out
                          clear HC51
                          by_cases c59 : t287 = 0
                          · rw [if_pos c59] at H
                            have c59b0 : (t287 == 0) = true := beq_iff_eq.mpr c59
                            have c59b1 : (t287 != 0) = false := bne_eq_false_iff_eq.mpr c59
                            clear c59
                            (first | rw [c59b0] | (simp only [i64_w, i32_w]; rw [c59b0]) | skip)
                            by_cases c60 : t288 < 1
                            · rw [if_pos c60] at H
                              have c60b0 : decide (t288 < 1) = true := decide_eq_true c60
                              clear c60
                              have H' := Aside0.mk H
                              clear H
                              have hnb61 := NB296_269.out
                              have hnc61 := NB269_296.out
                              have hcz62_0 : w56.cell? ⟨gb296, 0, none⟩ = some (.int .i64 0) := (blk_cell BK296.out 0).trans rfl
                              have hcz62_1 : w56.cell? ⟨gb296, 1, none⟩ = some (.int .i64 0) := (blk_cell BK296.out 1).trans rfl
                              have hcz62_2 : w56.cell? ⟨gb296, 2, none⟩ = some (.int .i64 0) := (blk_cell BK296.out 2).trans rfl
                              have hcz62_3 : w56.cell? ⟨gb296, 3, none⟩ = some (.int .i32 0) := (blk_cell BK296.out 3).trans rfl
                              have hcz62_4 : w56.cell? ⟨gb296, 4, none⟩ = some (.int .i32 0) := (blk_cell BK296.out 4).trans rfl
                              have hcz62_5 : w56.cell? ⟨gb296, 5, none⟩ = some (.int .i64 0) := (blk_cell BK296.out 5).trans rfl
                              have hcz62_6 : w56.cell? ⟨gb296, 6, none⟩ = some (.int .i64 0) := (blk_cell BK296.out 6).trans rfl
                              have hcz62_7 : w56.cell? ⟨gb296, 7, none⟩ = some (.int .u32 0) := (blk_cell BK296.out 7).trans rfl
                              have hcz62_8 : w56.cell? ⟨gb296, 8, none⟩ = some (.int .i32 0) := (blk_cell BK296.out 8).trans rfl
                              have hfz62_0 := blk_frozen BK296.out 0
                              have hfz62_1 := blk_frozen BK296.out 1
                              have hfz62_2 := blk_frozen BK296.out 2
                              have hfz62_3 := blk_frozen BK296.out 3
                              have hfz62_4 := blk_frozen BK296.out 4
                              have hfz62_5 := blk_frozen BK296.out 5
                              have hfz62_6 := blk_frozen BK296.out 6
                              have hfz62_7 := blk_frozen BK296.out 7
                              have hfz62_8 := blk_frozen BK296.out 8
                              go_wp2
                              go_meet
                              case rel => exact ⟨_, (true), (by first | rfl | (simp; done) | (simp [*]; done)), H', ⟨by have := HK1.out; have := HJ6.out; have := HK3.out; first | omega | exact Nat.le_refl _⟩, ⟨by (with_reducible repeat (first | apply Kd.R_alloc | apply Kd.R_drewN | apply Kd.R_drew)); exact Kd.R_mono (Kd.R_far (p := ⟨gb296, 8, none⟩) (Kd.R_far (p := ⟨gb296, 7, none⟩) (Kd.R_far (p := ⟨gb296, 6, none⟩) (Kd.R_far (p := ⟨gb296, 5, none⟩) (Kd.R_far (p := ⟨gb296, 4, none⟩) (Kd.R_far (p := ⟨gb296, 3, none⟩) (Kd.R_far (p := ⟨gb296, 2, none⟩) (Kd.R_far (p := ⟨gb296, 1, none⟩) (Kd.R_far (p := ⟨gb296, 0, none⟩) (Kd.R_types HO_5.out BK296.out (by decide)) (fun _ hk => hk.2) (.int .i64 t287)) (fun _ hk => hk.2) (.int .i64 t288)) (fun _ hk => hk.2) (.int .i64 t289)) (fun _ hk => hk.2) (.int .i32 t290)) (fun _ hk => hk.2) (.int .i32 t291)) (fun _ hk => hk.2) (.int .i64 t292)) (fun _ hk => hk.2) (.int .i64 t293)) (fun _ hk => hk.2) (.int .u32 t294)) (fun _ hk => hk.2) (.int .i32 t295)) (fun _ hk => trivial)⟩, ⟨by (with_reducible repeat (first | refine blk_drewN ?_ _ | refine blk_drew ?_ | refine blk_alloc ?_ _)); refine blk_far ?_ NB269_296.out _; (with_reducible repeat (first | refine blk_drewN ?_ _ | refine blk_drew ?_ | refine blk_alloc ?_ _)); refine blk_far ?_ NB269_296.out _; (with_reducible repeat (first | refine blk_drewN ?_ _ | refine blk_drew ?_ | refine blk_alloc ?_ _)); refine blk_far ?_ NB269_296.out _; (with_reducible repeat (first | refine blk_drewN ?_ _ | refine blk_drew ?_ | refine blk_alloc ?_ _)); refine blk_far ?_ NB269_296.out _; (with_reducible repeat (first | refine blk_drewN ?_ _ | refine blk_drew ?_ | refine blk_alloc ?_ _)); refine blk_far ?_ NB269_296.out _; (with_reducible repeat (first | refine blk_drewN ?_ _ | refine blk_drew ?_ | refine blk_alloc ?_ _)); refine blk_far ?_ NB269_296.out _; (with_reducible repeat (first | refine blk_drewN ?_ _ | refine blk_drew ?_ | refine blk_alloc ?_ _)); refine blk_far ?_ NB269_296.out _; (with_reducible repeat (first | refine blk_drewN ?_ _ | refine blk_drew ?_ | refine blk_alloc ?_ _)); refine blk_far ?_ NB269_296.out _; (with_reducible repeat (first | refine blk_drewN ?_ _ | refine blk_drew ?_ | refine blk_alloc ?_ _)); refine blk_far ?_ NB269_296.out _; (with_reducible repeat (first | refine blk_drewN ?_ _ | refine blk_drew ?_ | refine blk_alloc ?_ _)); exact BK269.out⟩, ⟨by (with_reducible repeat (first | refine blk_drewN ?_ _ | refine blk_drew ?_ | refine blk_alloc ?_ _)); refine blk_put (cs := #[.int .i64 t287, .int .i64 t288, .int .i64 t289, .int .i32 t290, .int .i32 t291, .int .i64 t292, .int .i64 t293, .int .u32 t294, .int .i32 0]) ?_ 8 _ rfl; (with_reducible repeat (first | refine blk_drewN ?_ _ | refine blk_drew ?_ | refine blk_alloc ?_ _)); refine blk_put (cs := #[.int .i64 t287, .int .i64 t288, .int .i64 t289, .int .i32 t290, .int .i32 t291, .int .i64 t292, .int .i64 t293, .int .u32 0, .int .i32 0]) ?_ 7 _ rfl; (with_reducible repeat (first | refine blk_drewN ?_ _ | refine blk_drew ?_ | refine blk_alloc ?_ _)); refine blk_put (cs := #[.int .i64 t287, .int .i64 t288, .int .i64 t289, .int .i32 t290, .int .i32 t291, .int .i64 t292, .int .i64 0, .int .u32 0, .int .i32 0]) ?_ 6 _ rfl; (with_reducible repeat (first | refine blk_drewN ?_ _ | refine blk_drew ?_ | refine blk_alloc ?_ _)); refine blk_put (cs := #[.int .i64 t287, .int .i64 t288, .int .i64 t289, .int .i32 t290, .int .i32 t291, .int .i64 0, .int .i64 0, .int .u32 0, .int .i32 0]) ?_ 5 _ rfl; (with_reducible repeat (first | refine blk_drewN ?_ _ | refine blk_drew ?_ | refine blk_alloc ?_ _)); refine blk_put (cs := #[.int .i64 t287, .int .i64 t288, .int .i64 t289, .int .i32 t290, .int .i32 0, .int .i64 0, .int .i64 0, .int .u32 0, .int .i32 0]) ?_ 4 _ rfl; (with_reducible repeat (first | refine blk_drewN ?_ _ | refine blk_drew ?_ | refine blk_alloc ?_ _)); refine blk_put (cs := #[.int .i64 t287, .int .i64 t288, .int .i64 t289, .int .i32 0, .int .i32 0, .int .i64 0, .int .i64 0, .int .u32 0, .int .i32 0]) ?_ 3 _ rfl; (with_reducible repeat (first | refine blk_drewN ?_ _ | refine blk_drew ?_ | refine blk_alloc ?_ _)); refine blk_put (cs := #[.int .i64 t287, .int .i64 t288, .int .i64 0, .int .i32 0, .int .i32 0, .int .i64 0, .int .i64 0, .int .u32 0, .int .i32 0]) ?_ 2 _ rfl; (with_reducible repeat (first | refine blk_drewN ?_ _ | refine blk_drew ?_ | refine blk_alloc ?_ _)); refine blk_put (cs := #[.int .i64 t287, .int .i64 0, .int .i64 0, .int .i32 0, .int .i32 0, .int .i64 0, .int .i64 0, .int .u32 0, .int .i32 0]) ?_ 1 _ rfl; (with_reducible repeat (first | refine blk_drewN ?_ _ | refine blk_drew ?_ | refine blk_alloc ?_ _)); refine blk_put (cs := #[.int .i64 0, .int .i64 0, .int .i64 0, .int .i32 0, .int .i32 0, .int .i64 0, .int .i64 0, .int .u32 0, .int .i32 0]) ?_ 0 _ rfl; (with_reducible repeat (first | refine blk_drewN ?_ _ | refine blk_drew ?_ | refine blk_alloc ?_ _)); exact BK296.out⟩, ⟨by repeat (first | (with_reducible first | exact HB.out | apply below_alloc | apply pw_below_drewN | apply below_drew1 | refine below_set ?_ GE269.out | refine below_set ?_ GE296.out) | exact HB.out)⟩⟩
                            · rw [if_neg c60] at H
                              have c60b0 : decide (t288 < 1) = false := decide_eq_false c60
                              clear c60
                              by_cases c63 : t288 > (x4_3.size : Int)
                              · rw [if_pos c63] at H
                                have c63b0 : decide ((x4_3.size : Int) < t288) = true := decide_eq_true c63
                                clear c63
                                have H' := Aside0.mk H
                                clear H
                                have hnb64 := NB296_269.out
                                have hnc64 := NB269_296.out
                                have hcz65_0 : w56.cell? ⟨gb296, 0, none⟩ = some (.int .i64 0) := (blk_cell BK296.out 0).trans rfl
                                have hcz65_1 : w56.cell? ⟨gb296, 1, none⟩ = some (.int .i64 0) := (blk_cell BK296.out 1).trans rfl
                                have hcz65_2 : w56.cell? ⟨gb296, 2, none⟩ = some (.int .i64 0) := (blk_cell BK296.out 2).trans rfl
                                have hcz65_3 : w56.cell? ⟨gb296, 3, none⟩ = some (.int .i32 0) := (blk_cell BK296.out 3).trans rfl
                                have hcz65_4 : w56.cell? ⟨gb296, 4, none⟩ = some (.int .i32 0) := (blk_cell BK296.out 4).trans rfl
                                have hcz65_5 : w56.cell? ⟨gb296, 5, none⟩ = some (.int .i64 0) := (blk_cell BK296.out 5).trans rfl
                                have hcz65_6 : w56.cell? ⟨gb296, 6, none⟩ = some (.int .i64 0) := (blk_cell BK296.out 6).trans rfl
                                have hcz65_7 : w56.cell? ⟨gb296, 7, none⟩ = some (.int .u32 0) := (blk_cell BK296.out 7).trans rfl
                                have hcz65_8 : w56.cell? ⟨gb296, 8, none⟩ = some (.int .i32 0) := (blk_cell BK296.out 8).trans rfl
                                have hfz65_0 := blk_frozen BK296.out 0
                                have hfz65_1 := blk_frozen BK296.out 1
                                have hfz65_2 := blk_frozen BK296.out 2
                                have hfz65_3 := blk_frozen BK296.out 3
                                have hfz65_4 := blk_frozen BK296.out 4
                                have hfz65_5 := blk_frozen BK296.out 5
                                have hfz65_6 := blk_frozen BK296.out 6
                                have hfz65_7 := blk_frozen BK296.out 7
                                have hfz65_8 := blk_frozen BK296.out 8
                                go_wp2
                                go_meet
                                case rel => exact ⟨_, (true), (by first | rfl | (simp; done) | (simp [*]; done)), H', ⟨by have := HK1.out; have := HJ6.out; have := HK3.out; first | omega | exact Nat.le_refl _⟩, ⟨by (with_reducible repeat (first | apply Kd.R_alloc | apply Kd.R_drewN | apply Kd.R_drew)); exact Kd.R_mono (Kd.R_far (p := ⟨gb296, 8, none⟩) (Kd.R_far (p := ⟨gb296, 7, none⟩) (Kd.R_far (p := ⟨gb296, 6, none⟩) (Kd.R_far (p := ⟨gb296, 5, none⟩) (Kd.R_far (p := ⟨gb296, 4, none⟩) (Kd.R_far (p := ⟨gb296, 3, none⟩) (Kd.R_far (p := ⟨gb296, 2, none⟩) (Kd.R_far (p := ⟨gb296, 1, none⟩) (Kd.R_far (p := ⟨gb296, 0, none⟩) (Kd.R_types HO_5.out BK296.out (by decide)) (fun _ hk => hk.2) (.int .i64 t287)) (fun _ hk => hk.2) (.int .i64 t288)) (fun _ hk => hk.2) (.int .i64 t289)) (fun _ hk => hk.2) (.int .i32 t290)) (fun _ hk => hk.2) (.int .i32 t291)) (fun _ hk => hk.2) (.int .i64 t292)) (fun _ hk => hk.2) (.int .i64 t293)) (fun _ hk => hk.2) (.int .u32 t294)) (fun _ hk => hk.2) (.int .i32 t295)) (fun _ hk => trivial)⟩, ⟨by (with_reducible repeat (first | refine blk_drewN ?_ _ | refine blk_drew ?_ | refine blk_alloc ?_ _)); refine blk_far ?_ NB269_296.out _; (with_reducible repeat (first | refine blk_drewN ?_ _ | refine blk_drew ?_ | refine blk_alloc ?_ _)); refine blk_far ?_ NB269_296.out _; (with_reducible repeat (first | refine blk_drewN ?_ _ | refine blk_drew ?_ | refine blk_alloc ?_ _)); refine blk_far ?_ NB269_296.out _; (with_reducible repeat (first | refine blk_drewN ?_ _ | refine blk_drew ?_ | refine blk_alloc ?_ _)); refine blk_far ?_ NB269_296.out _; (with_reducible repeat (first | refine blk_drewN ?_ _ | refine blk_drew ?_ | refine blk_alloc ?_ _)); refine blk_far ?_ NB269_296.out _; (with_reducible repeat (first | refine blk_drewN ?_ _ | refine blk_drew ?_ | refine blk_alloc ?_ _)); refine blk_far ?_ NB269_296.out _; (with_reducible repeat (first | refine blk_drewN ?_ _ | refine blk_drew ?_ | refine blk_alloc ?_ _)); refine blk_far ?_ NB269_296.out _; (with_reducible repeat (first | refine blk_drewN ?_ _ | refine blk_drew ?_ | refine blk_alloc ?_ _)); refine blk_far ?_ NB269_296.out _; (with_reducible repeat (first | refine blk_drewN ?_ _ | refine blk_drew ?_ | refine blk_alloc ?_ _)); refine blk_far ?_ NB269_296.out _; (with_reducible repeat (first | refine blk_drewN ?_ _ | refine blk_drew ?_ | refine blk_alloc ?_ _)); exact BK269.out⟩, ⟨by (with_reducible repeat (first | refine blk_drewN ?_ _ | refine blk_drew ?_ | refine blk_alloc ?_ _)); refine blk_put (cs := #[.int .i64 t287, .int .i64 t288, .int .i64 t289, .int .i32 t290, .int .i32 t291, .int .i64 t292, .int .i64 t293, .int .u32 t294, .int .i32 0]) ?_ 8 _ rfl; (with_reducible repeat (first | refine blk_drewN ?_ _ | refine blk_drew ?_ | refine blk_alloc ?_ _)); refine blk_put (cs := #[.int .i64 t287, .int .i64 t288, .int .i64 t289, .int .i32 t290, .int .i32 t291, .int .i64 t292, .int .i64 t293, .int .u32 0, .int .i32 0]) ?_ 7 _ rfl; (with_reducible repeat (first | refine blk_drewN ?_ _ | refine blk_drew ?_ | refine blk_alloc ?_ _)); refine blk_put (cs := #[.int .i64 t287, .int .i64 t288, .int .i64 t289, .int .i32 t290, .int .i32 t291, .int .i64 t292, .int .i64 0, .int .u32 0, .int .i32 0]) ?_ 6 _ rfl; (with_reducible repeat (first | refine blk_drewN ?_ _ | refine blk_drew ?_ | refine blk_alloc ?_ _)); refine blk_put (cs := #[.int .i64 t287, .int .i64 t288, .int .i64 t289, .int .i32 t290, .int .i32 t291, .int .i64 0, .int .i64 0, .int .u32 0, .int .i32 0]) ?_ 5 _ rfl; (with_reducible repeat (first | refine blk_drewN ?_ _ | refine blk_drew ?_ | refine blk_alloc ?_ _)); refine blk_put (cs := #[.int .i64 t287, .int .i64 t288, .int .i64 t289, .int .i32 t290, .int .i32 0, .int .i64 0, .int .i64 0, .int .u32 0, .int .i32 0]) ?_ 4 _ rfl; (with_reducible repeat (first | refine blk_drewN ?_ _ | refine blk_drew ?_ | refine blk_alloc ?_ _)); refine blk_put (cs := #[.int .i64 t287, .int .i64 t288, .int .i64 t289, .int .i32 0, .int .i32 0, .int .i64 0, .int .i64 0, .int .u32 0, .int .i32 0]) ?_ 3 _ rfl; (with_reducible repeat (first | refine blk_drewN ?_ _ | refine blk_drew ?_ | refine blk_alloc ?_ _)); refine blk_put (cs := #[.int .i64 t287, .int .i64 t288, .int .i64 0, .int .i32 0, .int .i32 0, .int .i64 0, .int .i64 0, .int .u32 0, .int .i32 0]) ?_ 2 _ rfl; (with_reducible repeat (first | refine blk_drewN ?_ _ | refine blk_drew ?_ | refine blk_alloc ?_ _)); refine blk_put (cs := #[.int .i64 t287, .int .i64 0, .int .i64 0, .int .i32 0, .int .i32 0, .int .i64 0, .int .i64 0, .int .u32 0, .int .i32 0]) ?_ 1 _ rfl; (with_reducible repeat (first | refine blk_drewN ?_ _ | refine blk_drew ?_ | refine blk_alloc ?_ _)); refine blk_put (cs := #[.int .i64 0, .int .i64 0, .int .i64 0, .int .i32 0, .int .i32 0, .int .i64 0, .int .i64 0, .int .u32 0, .int .i32 0]) ?_ 0 _ rfl; (with_reducible repeat (first | refine blk_drewN ?_ _ | refine blk_drew ?_ | refine blk_alloc ?_ _)); exact BK296.out⟩, ⟨by repeat (first | (with_reducible first | exact HB.out | apply below_alloc | apply pw_below_drewN | apply below_drew1 | refine below_set ?_ GE269.out | refine below_set ?_ GE296.out) | exact HB.out)⟩⟩
                              · rw [if_neg c63] at H
                                have c63b0 : decide ((x4_3.size : Int) < t288) = false := decide_eq_false c63
                                clear c63
                                have H' := Aside0.mk H
                                clear H
                                have hnb66 := NB296_269.out
                                have hnc66 := NB269_296.out
                                have hcz67_0 : w56.cell? ⟨gb296, 0, none⟩ = some (.int .i64 0) := (blk_cell BK296.out 0).trans rfl
                                have hcz67_1 : w56.cell? ⟨gb296, 1, none⟩ = some (.int .i64 0) := (blk_cell BK296.out 1).trans rfl
                                have hcz67_2 : w56.cell? ⟨gb296, 2, none⟩ = some (.int .i64 0) := (blk_cell BK296.out 2).trans rfl
                                have hcz67_3 : w56.cell? ⟨gb296, 3, none⟩ = some (.int .i32 0) := (blk_cell BK296.out 3).trans rfl
                                have hcz67_4 : w56.cell? ⟨gb296, 4, none⟩ = some (.int .i32 0) := (blk_cell BK296.out 4).trans rfl
                                have hcz67_5 : w56.cell? ⟨gb296, 5, none⟩ = some (.int .i64 0) := (blk_cell BK296.out 5).trans rfl
                                have hcz67_6 : w56.cell? ⟨gb296, 6, none⟩ = some (.int .i64 0) := (blk_cell BK296.out 6).trans rfl
                                have hcz67_7 : w56.cell? ⟨gb296, 7, none⟩ = some (.int .u32 0) := (blk_cell BK296.out 7).trans rfl
                                have hcz67_8 : w56.cell? ⟨gb296, 8, none⟩ = some (.int .i32 0) := (blk_cell BK296.out 8).trans rfl
                                have hfz67_0 := blk_frozen BK296.out 0
                                have hfz67_1 := blk_frozen BK296.out 1
                                have hfz67_2 := blk_frozen BK296.out 2
                                have hfz67_3 := blk_frozen BK296.out 3
                                have hfz67_4 := blk_frozen BK296.out 4
                                have hfz67_5 := blk_frozen BK296.out 5
                                have hfz67_6 := blk_frozen BK296.out 6
                                have hfz67_7 := blk_frozen BK296.out 7
                                have hfz67_8 := blk_frozen BK296.out 8
                                go_wp2
                                go_meet
                                case rel => exact ⟨_, (decide (t289 > 1)), (by first | rfl | (simp; done) | (simp [*]; done)), H', ⟨by have := HK1.out; have := HJ6.out; have := HK3.out; first | omega | exact Nat.le_refl _⟩, ⟨by (with_reducible repeat (first | apply Kd.R_alloc | apply Kd.R_drewN | apply Kd.R_drew)); exact Kd.R_mono (Kd.R_far (p := ⟨gb296, 8, none⟩) (Kd.R_far (p := ⟨gb296, 7, none⟩) (Kd.R_far (p := ⟨gb296, 6, none⟩) (Kd.R_far (p := ⟨gb296, 5, none⟩) (Kd.R_far (p := ⟨gb296, 4, none⟩) (Kd.R_far (p := ⟨gb296, 3, none⟩) (Kd.R_far (p := ⟨gb296, 2, none⟩) (Kd.R_far (p := ⟨gb296, 1, none⟩) (Kd.R_far (p := ⟨gb296, 0, none⟩) (Kd.R_types HO_5.out BK296.out (by decide)) (fun _ hk => hk.2) (.int .i64 t287)) (fun _ hk => hk.2) (.int .i64 t288)) (fun _ hk => hk.2) (.int .i64 t289)) (fun _ hk => hk.2) (.int .i32 t290)) (fun _ hk => hk.2) (.int .i32 t291)) (fun _ hk => hk.2) (.int .i64 t292)) (fun _ hk => hk.2) (.int .i64 t293)) (fun _ hk => hk.2) (.int .u32 t294)) (fun _ hk => hk.2) (.int .i32 t295)) (fun _ hk => trivial)⟩, ⟨by (with_reducible repeat (first | refine blk_drewN ?_ _ | refine blk_drew ?_ | refine blk_alloc ?_ _)); refine blk_far ?_ NB269_296.out _; (with_reducible repeat (first | refine blk_drewN ?_ _ | refine blk_drew ?_ | refine blk_alloc ?_ _)); refine blk_far ?_ NB269_296.out _; (with_reducible repeat (first | refine blk_drewN ?_ _ | refine blk_drew ?_ | refine blk_alloc ?_ _)); refine blk_far ?_ NB269_296.out _; (with_reducible repeat (first | refine blk_drewN ?_ _ | refine blk_drew ?_ | refine blk_alloc ?_ _)); refine blk_far ?_ NB269_296.out _; (with_reducible repeat (first | refine blk_drewN ?_ _ | refine blk_drew ?_ | refine blk_alloc ?_ _)); refine blk_far ?_ NB269_296.out _; (with_reducible repeat (first | refine blk_drewN ?_ _ | refine blk_drew ?_ | refine blk_alloc ?_ _)); refine blk_far ?_ NB269_296.out _; (with_reducible repeat (first | refine blk_drewN ?_ _ | refine blk_drew ?_ | refine blk_alloc ?_ _)); refine blk_far ?_ NB269_296.out _; (with_reducible repeat (first | refine blk_drewN ?_ _ | refine blk_drew ?_ | refine blk_alloc ?_ _)); refine blk_far ?_ NB269_296.out _; (with_reducible repeat (first | refine blk_drewN ?_ _ | refine blk_drew ?_ | refine blk_alloc ?_ _)); refine blk_far ?_ NB269_296.out _; (with_reducible repeat (first | refine blk_drewN ?_ _ | refine blk_drew ?_ | refine blk_alloc ?_ _)); exact BK269.out⟩, ⟨by (with_reducible repeat (first | refine blk_drewN ?_ _ | refine blk_drew ?_ | refine blk_alloc ?_ _)); refine blk_put (cs := #[.int .i64 t287, .int .i64 t288, .int .i64 t289, .int .i32 t290, .int .i32 t291, .int .i64 t292, .int .i64 t293, .int .u32 t294, .int .i32 0]) ?_ 8 _ rfl; (with_reducible repeat (first | refine blk_drewN ?_ _ | refine blk_drew ?_ | refine blk_alloc ?_ _)); refine blk_put (cs := #[.int .i64 t287, .int .i64 t288, .int .i64 t289, .int .i32 t290, .int .i32 t291, .int .i64 t292, .int .i64 t293, .int .u32 0, .int .i32 0]) ?_ 7 _ rfl; (with_reducible repeat (first | refine blk_drewN ?_ _ | refine blk_drew ?_ | refine blk_alloc ?_ _)); refine blk_put (cs := #[.int .i64 t287, .int .i64 t288, .int .i64 t289, .int .i32 t290, .int .i32 t291, .int .i64 t292, .int .i64 0, .int .u32 0, .int .i32 0]) ?_ 6 _ rfl; (with_reducible repeat (first | refine blk_drewN ?_ _ | refine blk_drew ?_ | refine blk_alloc ?_ _)); refine blk_put (cs := #[.int .i64 t287, .int .i64 t288, .int .i64 t289, .int .i32 t290, .int .i32 t291, .int .i64 0, .int .i64 0, .int .u32 0, .int .i32 0]) ?_ 5 _ rfl; (with_reducible repeat (first | refine blk_drewN ?_ _ | refine blk_drew ?_ | refine blk_alloc ?_ _)); refine blk_put (cs := #[.int .i64 t287, .int .i64 t288, .int .i64 t289, .int .i32 t290, .int .i32 0, .int .i64 0, .int .i64 0, .int .u32 0, .int .i32 0]) ?_ 4 _ rfl; (with_reducible repeat (first | refine blk_drewN ?_ _ | refine blk_drew ?_ | refine blk_alloc ?_ _)); refine blk_put (cs := #[.int .i64 t287, .int .i64 t288, .int .i64 t289, .int .i32 0, .int .i32 0, .int .i64 0, .int .i64 0, .int .u32 0, .int .i32 0]) ?_ 3 _ rfl; (with_reducible repeat (first | refine blk_drewN ?_ _ | refine blk_drew ?_ | refine blk_alloc ?_ _)); refine blk_put (cs := #[.int .i64 t287, .int .i64 t288, .int .i64 0, .int .i32 0, .int .i32 0, .int .i64 0, .int .i64 0, .int .u32 0, .int .i32 0]) ?_ 2 _ rfl; (with_reducible repeat (first | refine blk_drewN ?_ _ | refine blk_drew ?_ | refine blk_alloc ?_ _)); refine blk_put (cs := #[.int .i64 t287, .int .i64 0, .int .i64 0, .int .i32 0, .int .i32 0, .int .i64 0, .int .i64 0, .int .u32 0, .int .i32 0]) ?_ 1 _ rfl; (with_reducible repeat (first | refine blk_drewN ?_ _ | refine blk_drew ?_ | refine blk_alloc ?_ _)); refine blk_put (cs := #[.int .i64 0, .int .i64 0, .int .i64 0, .int .i32 0, .int .i32 0, .int .i64 0, .int .i64 0, .int .u32 0, .int .i32 0]) ?_ 0 _ rfl; (with_reducible repeat (first | refine blk_drewN ?_ _ | refine blk_drew ?_ | refine blk_alloc ?_ _)); exact BK296.out⟩, ⟨by repeat (first | (with_reducible first | exact HB.out | apply below_alloc | apply pw_below_drewN | apply below_drew1 | refine below_set ?_ GE269.out | refine below_set ?_ GE296.out) | exact HB.out)⟩⟩
                          · rw [if_neg c59] at H
                            have c59b0 : (t287 == 0) = false := beq_eq_false_iff_ne.mpr c59
                            have c59b1 : (t287 != 0) = true := bne_iff_ne.mpr c59
                            (first | rw [c59b0] | (simp only [i64_w, i32_w]; rw [c59b0]) | skip)
                            have H' := Aside0.mk H
                            clear H
                            have hnb68 := NB296_269.out
                            have hnc68 := NB269_296.out
                            have hcz69_0 : w56.cell? ⟨gb296, 0, none⟩ = some (.int .i64 0) := (blk_cell BK296.out 0).trans rfl
                            have hcz69_1 : w56.cell? ⟨gb296, 1, none⟩ = some (.int .i64 0) := (blk_cell BK296.out 1).trans rfl
                            have hcz69_2 : w56.cell? ⟨gb296, 2, none⟩ = some (.int .i64 0) := (blk_cell BK296.out 2).trans rfl
                            have hcz69_3 : w56.cell? ⟨gb296, 3, none⟩ = some (.int .i32 0) := (blk_cell BK296.out 3).trans rfl
                            have hcz69_4 : w56.cell? ⟨gb296, 4, none⟩ = some (.int .i32 0) := (blk_cell BK296.out 4).trans rfl
                            have hcz69_5 : w56.cell? ⟨gb296, 5, none⟩ = some (.int .i64 0) := (blk_cell BK296.out 5).trans rfl
                            have hcz69_6 : w56.cell? ⟨gb296, 6, none⟩ = some (.int .i64 0) := (blk_cell BK296.out 6).trans rfl
                            have hcz69_7 : w56.cell? ⟨gb296, 7, none⟩ = some (.int .u32 0) := (blk_cell BK296.out 7).trans rfl
                            have hcz69_8 : w56.cell? ⟨gb296, 8, none⟩ = some (.int .i32 0) := (blk_cell BK296.out 8).trans rfl
                            have hfz69_0 := blk_frozen BK296.out 0
                            have hfz69_1 := blk_frozen BK296.out 1
                            have hfz69_2 := blk_frozen BK296.out 2
                            have hfz69_3 := blk_frozen BK296.out 3
                            have hfz69_4 := blk_frozen BK296.out 4
                            have hfz69_5 := blk_frozen BK296.out 5
                            have hfz69_6 := blk_frozen BK296.out 6
                            have hfz69_7 := blk_frozen BK296.out 7
                            have hfz69_8 := blk_frozen BK296.out 8
                            go_wp2
                            go_meet
                            case rel => exact ⟨_, (true), (by first | rfl | (simp; done) | (simp [*]; done)), H', ⟨by have := HK1.out; have := HJ6.out; have := HK3.out; first | omega | exact Nat.le_refl _⟩, ⟨by (with_reducible repeat (first | apply Kd.R_alloc | apply Kd.R_drewN | apply Kd.R_drew)); exact Kd.R_mono (Kd.R_far (p := ⟨gb296, 8, none⟩) (Kd.R_far (p := ⟨gb296, 7, none⟩) (Kd.R_far (p := ⟨gb296, 6, none⟩) (Kd.R_far (p := ⟨gb296, 5, none⟩) (Kd.R_far (p := ⟨gb296, 4, none⟩) (Kd.R_far (p := ⟨gb296, 3, none⟩) (Kd.R_far (p := ⟨gb296, 2, none⟩) (Kd.R_far (p := ⟨gb296, 1, none⟩) (Kd.R_far (p := ⟨gb296, 0, none⟩) (Kd.R_types HO_5.out BK296.out (by decide)) (fun _ hk => hk.2) (.int .i64 t287)) (fun _ hk => hk.2) (.int .i64 t288)) (fun _ hk => hk.2) (.int .i64 t289)) (fun _ hk => hk.2) (.int .i32 t290)) (fun _ hk => hk.2) (.int .i32 t291)) (fun _ hk => hk.2) (.int .i64 t292)) (fun _ hk => hk.2) (.int .i64 t293)) (fun _ hk => hk.2) (.int .u32 t294)) (fun _ hk => hk.2) (.int .i32 t295)) (fun _ hk => trivial)⟩, ⟨by (with_reducible repeat (first | refine blk_drewN ?_ _ | refine blk_drew ?_ | refine blk_alloc ?_ _)); refine blk_far ?_ NB269_296.out _; (with_reducible repeat (first | refine blk_drewN ?_ _ | refine blk_drew ?_ | refine blk_alloc ?_ _)); refine blk_far ?_ NB269_296.out _; (with_reducible repeat (first | refine blk_drewN ?_ _ | refine blk_drew ?_ | refine blk_alloc ?_ _)); refine blk_far ?_ NB269_296.out _; (with_reducible repeat (first | refine blk_drewN ?_ _ | refine blk_drew ?_ | refine blk_alloc ?_ _)); refine blk_far ?_ NB269_296.out _; (with_reducible repeat (first | refine blk_drewN ?_ _ | refine blk_drew ?_ | refine blk_alloc ?_ _)); refine blk_far ?_ NB269_296.out _; (with_reducible repeat (first | refine blk_drewN ?_ _ | refine blk_drew ?_ | refine blk_alloc ?_ _)); refine blk_far ?_ NB269_296.out _; (with_reducible repeat (first | refine blk_drewN ?_ _ | refine blk_drew ?_ | refine blk_alloc ?_ _)); refine blk_far ?_ NB269_296.out _; (with_reducible repeat (first | refine blk_drewN ?_ _ | refine blk_drew ?_ | refine blk_alloc ?_ _)); refine blk_far ?_ NB269_296.out _; (with_reducible repeat (first | refine blk_drewN ?_ _ | refine blk_drew ?_ | refine blk_alloc ?_ _)); refine blk_far ?_ NB269_296.out _; (with_reducible repeat (first | refine blk_drewN ?_ _ | refine blk_drew ?_ | refine blk_alloc ?_ _)); exact BK269.out⟩, ⟨by (with_reducible repeat (first | refine blk_drewN ?_ _ | refine blk_drew ?_ | refine blk_alloc ?_ _)); refine blk_put (cs := #[.int .i64 t287, .int .i64 t288, .int .i64 t289, .int .i32 t290, .int .i32 t291, .int .i64 t292, .int .i64 t293, .int .u32 t294, .int .i32 0]) ?_ 8 _ rfl; (with_reducible repeat (first | refine blk_drewN ?_ _ | refine blk_drew ?_ | refine blk_alloc ?_ _)); refine blk_put (cs := #[.int .i64 t287, .int .i64 t288, .int .i64 t289, .int .i32 t290, .int .i32 t291, .int .i64 t292, .int .i64 t293, .int .u32 0, .int .i32 0]) ?_ 7 _ rfl; (with_reducible repeat (first | refine blk_drewN ?_ _ | refine blk_drew ?_ | refine blk_alloc ?_ _)); refine blk_put (cs := #[.int .i64 t287, .int .i64 t288, .int .i64 t289, .int .i32 t290, .int .i32 t291, .int .i64 t292, .int .i64 0, .int .u32 0, .int .i32 0]) ?_ 6 _ rfl; (with_reducible repeat (first | refine blk_drewN ?_ _ | refine blk_drew ?_ | refine blk_alloc ?_ _)); refine blk_put (cs := #[.int .i64 t287, .int .i64 t288, .int .i64 t289, .int .i32 t290, .int .i32 t291, .int .i64 0, .int .i64 0, .int .u32 0, .int .i32 0]) ?_ 5 _ rfl; (with_reducible repeat (first | refine blk_drewN ?_ _ | refine blk_drew ?_ | refine blk_alloc ?_ _)); refine blk_put (cs := #[.int .i64 t287, .int .i64 t288, .int .i64 t289, .int .i32 t290, .int .i32 0, .int .i64 0, .int .i64 0, .int .u32 0, .int .i32 0]) ?_ 4 _ rfl; (with_reducible repeat (first | refine blk_drewN ?_ _ | refine blk_drew ?_ | refine blk_alloc ?_ _)); refine blk_put (cs := #[.int .i64 t287, .int .i64 t288, .int .i64 t289, .int .i32 0, .int .i32 0, .int .i64 0, .int .i64 0, .int .u32 0, .int .i32 0]) ?_ 3 _ rfl; (with_reducible repeat (first | refine blk_drewN ?_ _ | refine blk_drew ?_ | refine blk_alloc ?_ _)); refine blk_put (cs := #[.int .i64 t287, .int .i64 t288, .int .i64 0, .int .i32 0, .int .i32 0, .int .i64 0, .int .i64 0, .int .u32 0, .int .i32 0]) ?_ 2 _ rfl; (with_reducible repeat (first | refine blk_drewN ?_ _ | refine blk_drew ?_ | refine blk_alloc ?_ _)); refine blk_put (cs := #[.int .i64 t287, .int .i64 0, .int .i64 0, .int .i32 0, .int .i32 0, .int .i64 0, .int .i64 0, .int .u32 0, .int .i32 0]) ?_ 1 _ rfl; (with_reducible repeat (first | refine blk_drewN ?_ _ | refine blk_drew ?_ | refine blk_alloc ?_ _)); refine blk_put (cs := #[.int .i64 0, .int .i64 0, .int .i64 0, .int .i32 0, .int .i32 0, .int .i64 0, .int .i64 0, .int .u32 0, .int .i32 0]) ?_ 0 _ rfl; (with_reducible repeat (first | refine blk_drewN ?_ _ | refine blk_drew ?_ | refine blk_alloc ?_ _)); exact BK296.out⟩, ⟨by repeat (first | (with_reducible first | exact HB.out | apply below_alloc | apply pw_below_drewN | apply below_drew1 | refine below_set ?_ GE269.out | refine below_set ?_ GE296.out) | exact HB.out)⟩⟩
                        case rest =>
                          clear HC51
                          try clear c1
                          try clear c2
                          try clear p2
                          try clear q2
                          try clear hx2
                          try clear c4
                          try clear c5
                          try clear c6
                          try clear p6
                          try clear c9
                          try clear c10
                          try clear c11
                          try clear c13
                          try clear c13b0
                          try clear c13b1
                          try clear c14
                          try clear c15
                          try clear c21
                          try clear c23
                          try clear c26
                          try clear p27
                          try clear q27
                          try clear hx27
                          try clear c28
                          try clear c40
                          try clear c43
                          try clear c43b0
                          try clear c43b1
                          try clear c44
                          try clear c44b0
                          try clear c44b1
                          try clear c44b2
                          try clear c48
                          try clear c48b0
                          try clear c48b1
                          try clear c57
                          try clear c59
                          try clear c59b0
                          try clear c59b1
                          try clear c60
                          try clear c60b0
                          try clear c61
                          try clear c63
                          try clear c63b0
                          try clear c64
                          try clear p64
                          try clear c66
                          try clear c68
                          try clear hcz27_0
                          try clear hcz27_1
                          try clear hcz27_2
                          try clear hcz27_3
                          try clear hcz27_4
                          try clear hcz27_5
                          try clear hcz28_0
                          try clear hcz28_1
                          try clear hcz28_2
                          try clear hcz28_3
                          try clear hcz41_0
                          try clear hcz41_1
                          try clear hcz41_2
                          try clear hcz41_3
                          try clear hcz41_4
                          try clear hcz41_5
                          try clear hcz45_0
                          try clear hcz45_1
                          try clear hcz45_2
                          try clear hcz45_3
                          try clear hcz47_0
                          try clear hcz47_1
                          try clear hcz47_2
                          try clear hcz47_3
                          try clear hcz52_0
                          try clear hcz52_1
                          try clear hcz52_2
                          try clear hcz52_3
                          try clear hcz58_0
                          try clear hcz58_1
                          try clear hcz58_2
                          try clear hcz58_3
                          try clear hcz58_4
                          try clear hcz58_5
                          try clear hcz58_6
                          try clear hcz58_7
                          try clear hcz58_8
                          try clear hcz62_0
                          try clear hcz62_1
                          try clear hcz62_2
                          try clear hcz62_3
                          try clear hcz62_4
                          try clear hcz62_5
                          try clear hcz62_6
                          try clear hcz62_7
                          try clear hcz62_8
                          try clear hcz65_0
                          try clear hcz65_1
                          try clear hcz65_2
                          try clear hcz65_3
                          try clear hcz65_4
                          try clear hcz65_5
                          try clear hcz65_6
                          try clear hcz65_7
                          try clear hcz65_8
                          try clear hcz67_0
                          try clear hcz67_1
                          try clear hcz67_2
                          try clear hcz67_3
                          try clear hcz67_4
                          try clear hcz67_5
                          try clear hcz67_6
                          try clear hcz67_7
                          try clear hcz67_8
                          try clear hcz69_0
                          try clear hcz69_1
                          try clear hcz69_2
                          try clear hcz69_3
                          try clear hcz69_4
                          try clear hcz69_5
                          try clear hcz69_6
                          try clear hcz69_7
                          try clear hcz69_8
                          try clear hfz27_0
                          try clear hfz27_1
                          try clear hfz27_2
                          try clear hfz27_3
                          try clear hfz27_4
                          try clear hfz27_5
                          try clear hfz28_0
                          try clear hfz28_1
                          try clear hfz28_2
                          try clear hfz28_3
                          try clear hfz41_0
                          try clear hfz41_1
                          try clear hfz41_2
                          try clear hfz41_3
                          try clear hfz41_4
                          try clear hfz41_5
                          try clear hfz45_0
                          try clear hfz45_1
                          try clear hfz45_2
                          try clear hfz45_3
                          try clear hfz47_0
                          try clear hfz47_1
                          try clear hfz47_2
                          try clear hfz47_3
                          try clear hfz52_0
                          try clear hfz52_1
                          try clear hfz52_2
                          try clear hfz52_3
                          try clear hfz58_0
                          try clear hfz58_1
                          try clear hfz58_2
                          try clear hfz58_3
                          try clear hfz58_4
                          try clear hfz58_5
                          try clear hfz58_6
                          try clear hfz58_7
                          try clear hfz58_8
                          try clear hfz62_0
                          try clear hfz62_1
                          try clear hfz62_2
                          try clear hfz62_3
                          try clear hfz62_4
                          try clear hfz62_5
                          try clear hfz62_6
                          try clear hfz62_7
                          try clear hfz62_8
                          try clear hfz65_0
                          try clear hfz65_1
                          try clear hfz65_2
                          try clear hfz65_3
                          try clear hfz65_4
                          try clear hfz65_5
                          try clear hfz65_6
                          try clear hfz65_7
                          try clear hfz65_8
                          try clear hfz67_0
                          try clear hfz67_1
                          try clear hfz67_2
                          try clear hfz67_3
                          try clear hfz67_4
                          try clear hfz67_5
                          try clear hfz67_6
                          try clear hfz67_7
                          try clear hfz67_8
                          try clear hfz69_0
                          try clear hfz69_1
                          try clear hfz69_2
                          try clear hfz69_3
                          try clear hfz69_4
                          try clear hfz69_5
                          try clear hfz69_6
                          try clear hfz69_7
                          try clear hfz69_8
                          try clear hx270_0
                          try clear hx278_0
                          try clear p2
                          try clear p27
                          try clear p270
                          try clear p278
                          try clear p6
                          try clear q2
                          try clear q27
                          try clear q270
                          try clear q278
                          obtain ⟨kq, x85_50, rfl, HA, HJ50, HO_5, BK269, BK296, HB⟩ := hcut
                          cases kq with
                          | zero => exact absurd HA.out (by simp [dragomanlaw20_HzBack.j3])
                          | succ kj50 =>
                            have H := HA.out
                            clear HA
                            simp only [dragomanlaw20_HzBack.j3] at H
                            by_cases c70 : x85_50 = true
                            · subst c70
                              have H1 : (some false) = some r := by rw [if_pos rfl] at H; exact H
                              clear H
                              have H := H1
                              clear H1
                              obtain rfl := Option.some.inj H
                              go_wp2
                              go_ret
                              exact ⟨by first | rfl | (simp [errW_none, errW_some] <;> rfl) | (simp [*, errW_none, errW_some] <;> rfl), by repeat (first | (with_reducible first | exact HB.out | apply below_alloc | apply pw_below_drewN | apply below_drew1 | refine below_set ?_ GE269.out | refine below_set ?_ GE296.out) | exact HB.out)⟩
                            · replace c70 := Bool.eq_false_iff.mpr c70
                              subst c70
                              have H1 : (dragomanlaw20_HzBack.l2 kj50 x4_3 x5_1 x10_3 0 t287 t288 t289 t290 t291 t292 t293 t294 t295) = some r := by rw [if_neg (show ¬ (false = true) by decide)] at H; exact H
                              clear H
                              have H := H1
                              clear H1
                              have H' := Aside0.mk H
                              clear H
                              go_wp2
                              go_loopg [12] kj50 (fun kq v12 w' => ∃ (x12_5 : Int), v12 = .int .i64 x12_5 ∧ Aside0 (dragomanlaw20_HzBack.l2 kq x4_3 x5_1 x10_3 x12_5 t287 t288 t289 t290 t291 t292 t293 t294 t295 = some r) ∧ Aside0 (kq ≤ kj50) ∧ Aside0 (Kd.R (Kd.int .i32) 21 w' w.heap.size (fun _ => True) u5 x5_1) ∧ Aside0 (w'.heap[gb269]? = some (.cells #[.int .i64 x270000_3, .int .i64 x270001_3, .int .u32 x270002_3, .int .i32 x270003_3] 25 (0, 0))) ∧ Aside0 (w'.heap[gb296]? = some (.cells #[.int .i64 t287, .int .i64 t288, .int .i64 t289, .int .i32 t290, .int .i32 t291, .int .i64 t292, .int .i64 t293, .int .u32 t294, .int .i32 t295] 36 (0, 0))) ∧ Aside0 (Below w.heap.size w w'))
                              case atStart => exact ⟨(0), (by first | rfl | (simp; done) | (simp [*]; done)), H', ⟨Nat.le_refl _⟩, ⟨by (with_reducible repeat (first | apply Kd.R_alloc | apply Kd.R_drewN | apply Kd.R_drew)); exact HO_5.out⟩, ⟨by (with_reducible repeat (first | refine blk_drewN ?_ _ | refine blk_drew ?_ | refine blk_alloc ?_ _)); exact BK269.out⟩, ⟨by (with_reducible repeat (first | refine blk_drewN ?_ _ | refine blk_drew ?_ | refine blk_alloc ?_ _)); exact BK296.out⟩, ⟨by repeat (first | (with_reducible first | exact HB.out | apply below_alloc | apply pw_below_drewN | apply below_drew1 | refine below_set ?_ GE269.out | refine below_set ?_ GE296.out) | exact HB.out)⟩⟩
                              case round =>
                                clear H'
                                try clear c1
                                try clear c2
                                try clear p2
                                try clear q2
                                try clear hx2
                                try clear c4
                                try clear c5
                                try clear c6
                                try clear p6
                                try clear c7
                                try clear c9
                                try clear c10
                                try clear c11
                                try clear c13
                                try clear c13b0
                                try clear c13b1
                                try clear c14
                                try clear c15
                                try clear c21
                                try clear c23
                                try clear c26
                                try clear p27
                                try clear q27
                                try clear hx27
                                try clear c28
                                try clear c40
                                try clear c43
                                try clear c43b0
                                try clear c43b1
                                try clear c44
                                try clear c44b0
                                try clear c44b1
                                try clear c44b2
                                try clear c48
                                try clear c48b0
                                try clear c48b1
                                try clear c57
                                try clear c59
                                try clear c59b0
                                try clear c59b1
                                try clear c60
                                try clear c60b0
                                try clear c61
                                try clear c63
                                try clear c63b0
                                try clear c64
                                try clear p64
                                try clear c66
                                try clear c68
                                try clear c70
                                try clear hcz27_0
                                try clear hcz27_1
                                try clear hcz27_2
                                try clear hcz27_3
                                try clear hcz27_4
                                try clear hcz27_5
                                try clear hcz28_0
                                try clear hcz28_1
                                try clear hcz28_2
                                try clear hcz28_3
                                try clear hcz41_0
                                try clear hcz41_1
                                try clear hcz41_2
                                try clear hcz41_3
                                try clear hcz41_4
                                try clear hcz41_5
                                try clear hcz45_0
                                try clear hcz45_1
                                try clear hcz45_2
                                try clear hcz45_3
                                try clear hcz47_0
                                try clear hcz47_1
                                try clear hcz47_2
                                try clear hcz47_3
                                try clear hcz52_0
                                try clear hcz52_1
                                try clear hcz52_2
                                try clear hcz52_3
                                try clear hcz58_0
                                try clear hcz58_1
                                try clear hcz58_2
                                try clear hcz58_3
                                try clear hcz58_4
                                try clear hcz58_5
                                try clear hcz58_6
                                try clear hcz58_7
                                try clear hcz58_8
                                try clear hcz62_0
                                try clear hcz62_1
                                try clear hcz62_2
                                try clear hcz62_3
                                try clear hcz62_4
                                try clear hcz62_5
                                try clear hcz62_6
                                try clear hcz62_7
                                try clear hcz62_8
                                try clear hcz65_0
                                try clear hcz65_1
                                try clear hcz65_2
                                try clear hcz65_3
                                try clear hcz65_4
                                try clear hcz65_5
                                try clear hcz65_6
                                try clear hcz65_7
                                try clear hcz65_8
                                try clear hcz67_0
                                try clear hcz67_1
                                try clear hcz67_2
                                try clear hcz67_3
                                try clear hcz67_4
                                try clear hcz67_5
                                try clear hcz67_6
                                try clear hcz67_7
                                try clear hcz67_8
                                try clear hcz69_0
                                try clear hcz69_1
                                try clear hcz69_2
                                try clear hcz69_3
                                try clear hcz69_4
                                try clear hcz69_5
                                try clear hcz69_6
                                try clear hcz69_7
                                try clear hcz69_8
                                try clear hfz27_0
                                try clear hfz27_1
                                try clear hfz27_2
                                try clear hfz27_3
                                try clear hfz27_4
                                try clear hfz27_5
                                try clear hfz28_0
                                try clear hfz28_1
                                try clear hfz28_2
                                try clear hfz28_3
                                try clear hfz41_0
                                try clear hfz41_1
                                try clear hfz41_2
                                try clear hfz41_3
                                try clear hfz41_4
                                try clear hfz41_5
                                try clear hfz45_0
                                try clear hfz45_1
                                try clear hfz45_2
                                try clear hfz45_3
                                try clear hfz47_0
                                try clear hfz47_1
                                try clear hfz47_2
                                try clear hfz47_3
                                try clear hfz52_0
                                try clear hfz52_1
                                try clear hfz52_2
                                try clear hfz52_3
                                try clear hfz58_0
                                try clear hfz58_1
                                try clear hfz58_2
                                try clear hfz58_3
                                try clear hfz58_4
                                try clear hfz58_5
                                try clear hfz58_6
                                try clear hfz58_7
                                try clear hfz58_8
                                try clear hfz62_0
                                try clear hfz62_1
                                try clear hfz62_2
                                try clear hfz62_3
                                try clear hfz62_4
                                try clear hfz62_5
                                try clear hfz62_6
                                try clear hfz62_7
                                try clear hfz62_8
                                try clear hfz65_0
                                try clear hfz65_1
                                try clear hfz65_2
                                try clear hfz65_3
                                try clear hfz65_4
                                try clear hfz65_5
                                try clear hfz65_6
                                try clear hfz65_7
                                try clear hfz65_8
                                try clear hfz67_0
                                try clear hfz67_1
                                try clear hfz67_2
                                try clear hfz67_3
                                try clear hfz67_4
                                try clear hfz67_5
                                try clear hfz67_6
                                try clear hfz67_7
                                try clear hfz67_8
                                try clear hfz69_0
                                try clear hfz69_1
                                try clear hfz69_2
                                try clear hfz69_3
                                try clear hfz69_4
                                try clear hfz69_5
                                try clear hfz69_6
                                try clear hfz69_7
                                try clear hfz69_8
                                try clear hx270_0
                                try clear hx278_0
                                try clear p2
                                try clear p27
                                try clear p270
                                try clear p278
                                try clear p6
                                try clear p64
                                try clear q2
                                try clear q27
                                try clear q270
                                try clear q278
                                obtain ⟨x12_5, rfl, HA, HK5, HO_5, BK269, BK296, HB⟩ := hrel
                                cases gk with
                                | zero => exact absurd HA.out (by simp [dragomanlaw20_HzBack.l2])
                                | succ k5 =>
                                  have H := HA.out
                                  clear HA
                                  simp only [dragomanlaw20_HzBack.l2] at H
                                  by_cases c71 : x12_5 < t288
                                  · rw [if_pos c71] at H
                                    have c71b0 : decide (x12_5 < t288) = true := decide_eq_true c71
                                    clear c71
                                    by_cases c72 : 0 ≤ x12_5
                                    · rw [if_pos c72] at H
                                      have c72b0 : decide (0 ≤ x12_5) = true := decide_eq_true c72
                                      clear c72
                                      by_cases c73 : x12_5 < (x4_3.size : Int)
                                      · rw [if_pos c73] at H
                                        have c73b0 : decide (x12_5 < (x4_3.size : Int)) = true := decide_eq_true c73
                                        clear c73
                                        by_cases c75 : (bt x4_3 x12_5) ≥ 128
                                        · rw [if_pos c75] at H
                                          have c75b0 : decide (128 ≤ (bt x4_3 x12_5)) = true := decide_eq_true c75
                                          clear c75
                                          obtain rfl := Option.some.inj H
                                          have hnb76 := NB296_269.out
                                          have hnc76 := NB269_296.out
                                          have hcz77_0 : wr.cell? ⟨gb296, 0, none⟩ = some (.int .i64 t287) := (blk_cell BK296.out 0).trans rfl
                                          have hcz77_1 : wr.cell? ⟨gb296, 1, none⟩ = some (.int .i64 t288) := (blk_cell BK296.out 1).trans rfl
                                          have hcz77_2 : wr.cell? ⟨gb296, 2, none⟩ = some (.int .i64 t289) := (blk_cell BK296.out 2).trans rfl
                                          have hcz77_3 : wr.cell? ⟨gb296, 3, none⟩ = some (.int .i32 t290) := (blk_cell BK296.out 3).trans rfl
                                          have hcz77_4 : wr.cell? ⟨gb296, 4, none⟩ = some (.int .i32 t291) := (blk_cell BK296.out 4).trans rfl
                                          have hcz77_5 : wr.cell? ⟨gb296, 5, none⟩ = some (.int .i64 t292) := (blk_cell BK296.out 5).trans rfl
                                          have hcz77_6 : wr.cell? ⟨gb296, 6, none⟩ = some (.int .i64 t293) := (blk_cell BK296.out 6).trans rfl
                                          have hcz77_7 : wr.cell? ⟨gb296, 7, none⟩ = some (.int .u32 t294) := (blk_cell BK296.out 7).trans rfl
                                          have hcz77_8 : wr.cell? ⟨gb296, 8, none⟩ = some (.int .i32 t295) := (blk_cell BK296.out 8).trans rfl
                                          have hfz77_0 := blk_frozen BK296.out 0
                                          have hfz77_1 := blk_frozen BK296.out 1
                                          have hfz77_2 := blk_frozen BK296.out 2
                                          have hfz77_3 := blk_frozen BK296.out 3
                                          have hfz77_4 := blk_frozen BK296.out 4
                                          have hfz77_5 := blk_frozen BK296.out 5
                                          have hfz77_6 := blk_frozen BK296.out 6
                                          have hfz77_7 := blk_frozen BK296.out 7
                                          have hfz77_8 := blk_frozen BK296.out 8
                                          have p74 : 0 ≤ (x12_5 : Int) := of_decide_eq_true (by first | (with_reducible assumption) | assumption)
                                          have q74 : x12_5 < (x4_3.size : Int) := of_decide_eq_true (by first | (with_reducible assumption) | assumption)
                                          have hx74 := bt_at x4_3 x12_5
                                          replace p74 := eq_true p74
                                          replace q74 := eq_true q74
                                          go_wp2
                                          go_ret
                                          exact ⟨by first | rfl | (simp [errW_none, errW_some] <;> rfl) | (simp [*, errW_none, errW_some] <;> rfl), by repeat (first | (with_reducible first | exact HB.out | apply below_alloc | apply pw_below_drewN | apply below_drew1 | refine below_set ?_ GE269.out | refine below_set ?_ GE296.out) | exact HB.out)⟩
                                        · rw [if_neg c75] at H
                                          have c75b0 : decide (128 ≤ (bt x4_3 x12_5)) = false := decide_eq_false c75
                                          clear c75
                                          have H' := Aside0.mk H
                                          clear H
                                          have hnb78 := NB296_269.out
                                          have hnc78 := NB269_296.out
                                          have hcz79_0 : wr.cell? ⟨gb296, 0, none⟩ = some (.int .i64 t287) := (blk_cell BK296.out 0).trans rfl
                                          have hcz79_1 : wr.cell? ⟨gb296, 1, none⟩ = some (.int .i64 t288) := (blk_cell BK296.out 1).trans rfl
                                          have hcz79_2 : wr.cell? ⟨gb296, 2, none⟩ = some (.int .i64 t289) := (blk_cell BK296.out 2).trans rfl
                                          have hcz79_3 : wr.cell? ⟨gb296, 3, none⟩ = some (.int .i32 t290) := (blk_cell BK296.out 3).trans rfl
                                          have hcz79_4 : wr.cell? ⟨gb296, 4, none⟩ = some (.int .i32 t291) := (blk_cell BK296.out 4).trans rfl
                                          have hcz79_5 : wr.cell? ⟨gb296, 5, none⟩ = some (.int .i64 t292) := (blk_cell BK296.out 5).trans rfl
                                          have hcz79_6 : wr.cell? ⟨gb296, 6, none⟩ = some (.int .i64 t293) := (blk_cell BK296.out 6).trans rfl
                                          have hcz79_7 : wr.cell? ⟨gb296, 7, none⟩ = some (.int .u32 t294) := (blk_cell BK296.out 7).trans rfl
                                          have hcz79_8 : wr.cell? ⟨gb296, 8, none⟩ = some (.int .i32 t295) := (blk_cell BK296.out 8).trans rfl
                                          have hfz79_0 := blk_frozen BK296.out 0
                                          have hfz79_1 := blk_frozen BK296.out 1
                                          have hfz79_2 := blk_frozen BK296.out 2
                                          have hfz79_3 := blk_frozen BK296.out 3
                                          have hfz79_4 := blk_frozen BK296.out 4
                                          have hfz79_5 := blk_frozen BK296.out 5
                                          have hfz79_6 := blk_frozen BK296.out 6
                                          have hfz79_7 := blk_frozen BK296.out 7
                                          have hfz79_8 := blk_frozen BK296.out 8
                                          have p74 : 0 ≤ (x12_5 : Int) := of_decide_eq_true (by first | (with_reducible assumption) | assumption)
                                          have q74 : x12_5 < (x4_3.size : Int) := of_decide_eq_true (by first | (with_reducible assumption) | assumption)
                                          have hx74 := bt_at x4_3 x12_5
                                          replace p74 := eq_true p74
                                          replace q74 := eq_true q74
                                          go_wp2
                                          go_roundg k5
                                          case measure => have := HK1.out; have := HJ6.out; have := HK3.out; have := HJ50.out; have := HK5.out; omega
                                          case rel => exact ⟨(wrap64 (x12_5 + 1)), (by first | rfl | (simp; done) | (simp [*]; done)), H', ⟨by have := HK1.out; have := HJ6.out; have := HK3.out; have := HJ50.out; have := HK5.out; omega⟩, ⟨by (with_reducible repeat (first | apply Kd.R_alloc | apply Kd.R_drewN | apply Kd.R_drew)); exact HO_5.out⟩, ⟨by (with_reducible repeat (first | refine blk_drewN ?_ _ | refine blk_drew ?_ | refine blk_alloc ?_ _)); exact BK269.out⟩, ⟨by (with_reducible repeat (first | refine blk_drewN ?_ _ | refine blk_drew ?_ | refine blk_alloc ?_ _)); exact BK296.out⟩, ⟨by repeat (first | (with_reducible first | exact HB.out | apply below_alloc | apply pw_below_drewN | apply below_drew1 | refine below_set ?_ GE269.out | refine below_set ?_ GE296.out) | exact HB.out)⟩⟩
                                      · rw [if_neg c73] at H
                                        exact absurd H (by simp)
                                    · rw [if_neg c72] at H
                                      exact absurd H (by simp)
                                  · rw [if_neg c71] at H
                                    have c71b0 : decide (x12_5 < t288) = false := decide_eq_false c71
                                    clear c71
                                    by_cases c80 : t289 = 1
                                    · rw [if_pos c80] at H
                                      have c80b0 : (t289 == 1) = true := beq_iff_eq.mpr c80
                                      have c80b1 : (t289 != 1) = false := bne_eq_false_iff_eq.mpr c80
                                      clear c80
                                      by_cases c81 : x10_3 ≥ (x5_1.length : Int)
                                      · rw [if_pos c81] at H
                                        have c81b0 : decide ((x5_1.length : Int) ≤ x10_3) = true := decide_eq_true c81
                                        clear c81
                                        obtain rfl := Option.some.inj H
                                        have hnb82 := NB296_269.out
                                        have hnc82 := NB269_296.out
                                        have hcz83_0 : wr.cell? ⟨gb296, 0, none⟩ = some (.int .i64 t287) := (blk_cell BK296.out 0).trans rfl
                                        have hcz83_1 : wr.cell? ⟨gb296, 1, none⟩ = some (.int .i64 t288) := (blk_cell BK296.out 1).trans rfl
                                        have hcz83_2 : wr.cell? ⟨gb296, 2, none⟩ = some (.int .i64 t289) := (blk_cell BK296.out 2).trans rfl
                                        have hcz83_3 : wr.cell? ⟨gb296, 3, none⟩ = some (.int .i32 t290) := (blk_cell BK296.out 3).trans rfl
                                        have hcz83_4 : wr.cell? ⟨gb296, 4, none⟩ = some (.int .i32 t291) := (blk_cell BK296.out 4).trans rfl
                                        have hcz83_5 : wr.cell? ⟨gb296, 5, none⟩ = some (.int .i64 t292) := (blk_cell BK296.out 5).trans rfl
                                        have hcz83_6 : wr.cell? ⟨gb296, 6, none⟩ = some (.int .i64 t293) := (blk_cell BK296.out 6).trans rfl
                                        have hcz83_7 : wr.cell? ⟨gb296, 7, none⟩ = some (.int .u32 t294) := (blk_cell BK296.out 7).trans rfl
                                        have hcz83_8 : wr.cell? ⟨gb296, 8, none⟩ = some (.int .i32 t295) := (blk_cell BK296.out 8).trans rfl
                                        have hfz83_0 := blk_frozen BK296.out 0
                                        have hfz83_1 := blk_frozen BK296.out 1
                                        have hfz83_2 := blk_frozen BK296.out 2
                                        have hfz83_3 := blk_frozen BK296.out 3
                                        have hfz83_4 := blk_frozen BK296.out 4
                                        have hfz83_5 := blk_frozen BK296.out 5
                                        have hfz83_6 := blk_frozen BK296.out 6
                                        have hfz83_7 := blk_frozen BK296.out 7
                                        have hfz83_8 := blk_frozen BK296.out 8
                                        try go_wp2
                                        have n0_ := Aside0.mk (Kd.R_drew HO_5.out)
                                        have n1_ := Aside0.mk (blk_drew BK269.out)
                                        have n2_ := Aside0.mk (blk_drew BK296.out)
                                        have n3_ := Aside0.mk (below_drew1 HB.out)
                                        clear HO_5
                                        clear BK269
                                        clear BK296
                                        clear HB
                                        have HO_5 := n0_
                                        have BK269 := n1_
                                        have BK296 := n2_
                                        have HB := n3_
                                        clear n0_ n1_ n2_ n3_
                                        obtain ⟨Ao85, co85, eo85⟩ := Kd.R_slice HO_5.out
                                        (first | subst eo85 | (injection eo85 with f1_ f2_ f3_; have f4_ := f1_.symm; have f5_ := f3_.symm; clear f1_ f2_ f3_; subst f4_; subst f5_))
                                        refine start_ (n := 13) (S := fun w' => True) (ds := []) #[false, false, false, false, false, false, false, false, false, false, false, false, false] (by kernel_rfl) rfl rfl trivial (fun hHeld => ?_); refine with_tabW dragomanlaw20_HzBack.tab30 dragomanlaw20_HzBack.bits30 (fun HT_ HW_ => ?_)
                                        generalize wr.drew = w84 at HO_5 BK269 BK296 HB hHeld ⊢
                                        refine pure_ (i := 0) (N := some 99) (v := ?_) (a' := ?_) #[true, false, false, false, false, false, false, false, false, false, false, false, false] rfl rfl (any_of HT_.out (by kernel_rfl)) (fun _ _ _ h => h) (Or.inl ⟨by rfl, ?_⟩) ?_ ?_
                                        rotate_left
                                        · intro w'
                                          go_simp
                                          with_reducible rfl
                                        rotate_left
                                        · simp only [Act.put, List.setIfInBounds_toArray, List.set_cons_zero, List.set_cons_succ, i64_w, i32_w]
                                          rfl
                                        refine pure_ (i := 1) (N := some 100) (v := ?_) (a' := ?_) #[true, true, false, false, false, false, false, false, false, false, false, false, false] rfl rfl (any_of HT_.out (by kernel_rfl)) (fun _ _ _ h => h) (Or.inl ⟨by rfl, ?_⟩) ?_ ?_
                                        rotate_left
                                        · intro w'
                                          go_simp
                                          with_reducible rfl
                                        rotate_left
                                        · simp only [Act.put, List.setIfInBounds_toArray, List.set_cons_zero, List.set_cons_succ, i64_w, i32_w]
                                          rfl
                                        refine pure_ (i := 2) (N := some 101) (v := ?_) (a' := ?_) #[true, true, true, false, false, false, false, false, false, false, false, false, false] rfl rfl (any_of HT_.out (by kernel_rfl)) (fun _ _ _ h => h) (Or.inl ⟨by rfl, ?_⟩) ?_ ?_
                                        rotate_left
                                        · intro w'
                                          go_simp
                                          with_reducible rfl
                                        rotate_left
                                        · simp only [Act.put, List.setIfInBounds_toArray, List.set_cons_zero, List.set_cons_succ, i64_w, i32_w]
                                          rfl
                                        refine pure_ (i := 3) (N := some 102) (v := ?_) (a' := ?_) #[true, true, true, true, false, false, false, false, false, false, false, false, false] rfl rfl (any_of HT_.out (by kernel_rfl)) (fun _ _ _ h => h) (Or.inl ⟨by rfl, ?_⟩) ?_ ?_
                                        rotate_left
                                        · intro w'
                                          go_simp
                                          with_reducible rfl
                                        rotate_left
                                        · simp only [Act.put, List.setIfInBounds_toArray, List.set_cons_zero, List.set_cons_succ, i64_w, i32_w]
                                          rfl
                                        refine pure_ (i := 4) (N := some 103) (v := ?_) (a' := ?_) #[true, true, true, true, true, false, false, false, false, false, false, false, false] rfl rfl (any_of HT_.out (by kernel_rfl)) (fun _ _ _ h => h) (Or.inl ⟨by rfl, ?_⟩) ?_ ?_
                                        rotate_left
                                        · intro w'
                                          go_simp
                                          with_reducible rfl
                                        rotate_left
                                        · simp only [Act.put, List.setIfInBounds_toArray, List.set_cons_zero, List.set_cons_succ, i64_w, i32_w]
                                          rfl
                                        refine pure_ (i := 5) (N := some 104) (v := undef) (a' := ?_) #[true, true, true, true, true, true, false, false, false, false, false, false, false] rfl rfl (any_of HT_.out (by kernel_rfl)) (fun _ _ _ h => h) (Or.inr ⟨by rfl, rfl⟩) ?_ ?_
                                        rotate_left
                                        · simp only [Act.put, List.setIfInBounds_toArray, List.set_cons_zero, List.set_cons_succ, i64_w, i32_w]
                                          rfl
                                        refine pure_ (i := 6) (N := some 105) (v := undef) (a' := ?_) #[true, true, true, true, true, true, true, false, false, false, false, false, false] rfl rfl (any_of HT_.out (by kernel_rfl)) (fun _ _ _ h => h) (Or.inr ⟨by rfl, rfl⟩) ?_ ?_
                                        rotate_left
                                        · simp only [Act.put, List.setIfInBounds_toArray, List.set_cons_zero, List.set_cons_succ, i64_w, i32_w]
                                          rfl
                                        refine pure_ (i := 7) (N := some 106) (v := undef) (a' := ?_) #[true, true, true, true, true, true, true, true, false, false, false, false, false] rfl rfl (any_of HT_.out (by kernel_rfl)) (fun _ _ _ h => h) (Or.inr ⟨by rfl, rfl⟩) ?_ ?_
                                        rotate_left
                                        · simp only [Act.put, List.setIfInBounds_toArray, List.set_cons_zero, List.set_cons_succ, i64_w, i32_w]
                                          rfl
                                        refine pure_ (i := 8) (N := some 107) (v := undef) (a' := ?_) #[true, true, true, true, true, true, true, true, true, false, false, false, false] rfl rfl (any_of HT_.out (by kernel_rfl)) (fun _ _ _ h => h) (Or.inr ⟨by rfl, rfl⟩) ?_ ?_
                                        rotate_left
                                        · simp only [Act.put, List.setIfInBounds_toArray, List.set_cons_zero, List.set_cons_succ, i64_w, i32_w]
                                          rfl
                                        refine pure_ (i := 9) (N := some 108) (v := undef) (a' := ?_) #[true, true, true, true, true, true, true, true, true, true, false, false, false] rfl rfl (any_of HT_.out (by kernel_rfl)) (fun _ _ _ h => h) (Or.inr ⟨by rfl, rfl⟩) ?_ ?_
                                        rotate_left
                                        · simp only [Act.put, List.setIfInBounds_toArray, List.set_cons_zero, List.set_cons_succ, i64_w, i32_w]
                                          rfl
                                        refine pure_ (i := 10) (N := some 109) (v := undef) (a' := ?_) #[true, true, true, true, true, true, true, true, true, true, true, false, false] rfl rfl (any_of HT_.out (by kernel_rfl)) (fun _ _ _ h => h) (Or.inr ⟨by rfl, rfl⟩) ?_ ?_
                                        rotate_left
                                        · simp only [Act.put, List.setIfInBounds_toArray, List.set_cons_zero, List.set_cons_succ, i64_w, i32_w]
                                          rfl
                                        refine pure_ (i := 11) (N := some 110) (v := undef) (a' := ?_) #[true, true, true, true, true, true, true, true, true, true, true, true, false] rfl rfl (any_of HT_.out (by kernel_rfl)) (fun _ _ _ h => h) (Or.inr ⟨by rfl, rfl⟩) ?_ ?_
                                        rotate_left
                                        · simp only [Act.put, List.setIfInBounds_toArray, List.set_cons_zero, List.set_cons_succ, i64_w, i32_w]
                                          rfl
                                        refine pure_ (i := 12) (N := some 111) (v := ?_) (a' := ?_) #[true, true, true, true, true, true, true, true, true, true, true, true, true] rfl rfl (any_of HT_.out (by kernel_rfl)) (fun _ _ _ h => h) (Or.inl ⟨by rfl, ?_⟩) ?_ ?_
                                        rotate_left
                                        · intro w'
                                          go_simp
                                          with_reducible rfl
                                        rotate_left
                                        · simp only [Act.put, List.setIfInBounds_toArray, List.set_cons_zero, List.set_cons_succ, i64_w, i32_w]
                                          rfl
                                        refine done_ (done_of HT_.out (by kernel_rfl)) ?_
                                        try go_wp2
                                        go_ret
                                        exact ⟨by first | rfl | (simp [errW_none, errW_some] <;> rfl) | (simp [*, errW_none, errW_some] <;> rfl), by repeat (first | (with_reducible first | exact HB.out | apply below_alloc | apply pw_below_drewN | apply below_drew1 | refine below_set ?_ GE269.out | refine below_set ?_ GE296.out) | exact HB.out)⟩
                                      · rw [if_neg c81] at H
                                        have c81b0 : decide ((x5_1.length : Int) ≤ x10_3) = false := decide_eq_false c81
                                        clear c81
                                        by_cases c86 : 0 ≤ x10_3
                                        · rw [if_pos c86] at H
                                          have c86b0 : decide (0 ≤ x10_3) = true := decide_eq_true c86
                                          clear c86
                                          by_cases c87 : x10_3 < (x5_1.length : Int)
                                          · rw [if_pos c87] at H
                                            have c87b0 : decide (x10_3 < (x5_1.length : Int)) = true := decide_eq_true c87
                                            clear c87
                                            by_cases c88 : (rd x5_1 x10_3) = t290
                                            · rw [if_pos c88] at H
                                              have c88b0 : ((rd x5_1 x10_3) == t290) = true := beq_iff_eq.mpr c88
                                              have c88b1 : ((rd x5_1 x10_3) != t290) = false := bne_eq_false_iff_eq.mpr c88
                                              clear c88
                                              by_cases c89 : 0 ≤ t288
                                              · rw [if_pos c89] at H
                                                have c89b0 := eq_true c89
                                                have c89b1 : decide (0 ≤ t288) = true := decide_eq_true c89
                                                clear c89
                                                by_cases c90 : t288 ≤ (x4_3.size : Int)
                                                · rw [if_pos c90] at H
                                                  have c90b0 := eq_true c90
                                                  have c90b1 : decide (t288 ≤ (x4_3.size : Int)) = true := decide_eq_true c90
                                                  clear c90
                                                  have H' := Aside0.mk H
                                                  clear H
                                                  have hnb91 := NB296_269.out
                                                  have hnc91 := NB269_296.out
                                                  have hcz92_0 : wr.cell? ⟨gb296, 0, none⟩ = some (.int .i64 t287) := (blk_cell BK296.out 0).trans rfl
                                                  have hcz92_1 : wr.cell? ⟨gb296, 1, none⟩ = some (.int .i64 t288) := (blk_cell BK296.out 1).trans rfl
                                                  have hcz92_2 : wr.cell? ⟨gb296, 2, none⟩ = some (.int .i64 t289) := (blk_cell BK296.out 2).trans rfl
                                                  have hcz92_3 : wr.cell? ⟨gb296, 3, none⟩ = some (.int .i32 t290) := (blk_cell BK296.out 3).trans rfl
                                                  have hcz92_4 : wr.cell? ⟨gb296, 4, none⟩ = some (.int .i32 t291) := (blk_cell BK296.out 4).trans rfl
                                                  have hcz92_5 : wr.cell? ⟨gb296, 5, none⟩ = some (.int .i64 t292) := (blk_cell BK296.out 5).trans rfl
                                                  have hcz92_6 : wr.cell? ⟨gb296, 6, none⟩ = some (.int .i64 t293) := (blk_cell BK296.out 6).trans rfl
                                                  have hcz92_7 : wr.cell? ⟨gb296, 7, none⟩ = some (.int .u32 t294) := (blk_cell BK296.out 7).trans rfl
                                                  have hcz92_8 : wr.cell? ⟨gb296, 8, none⟩ = some (.int .i32 t295) := (blk_cell BK296.out 8).trans rfl
                                                  have hfz92_0 := blk_frozen BK296.out 0
                                                  have hfz92_1 := blk_frozen BK296.out 1
                                                  have hfz92_2 := blk_frozen BK296.out 2
                                                  have hfz92_3 := blk_frozen BK296.out 3
                                                  have hfz92_4 := blk_frozen BK296.out 4
                                                  have hfz92_5 := blk_frozen BK296.out 5
                                                  have hfz92_6 := blk_frozen BK296.out 6
                                                  have hfz92_7 := blk_frozen BK296.out 7
                                                  have hfz92_8 := blk_frozen BK296.out 8
                                                  try go_wp2
                                                  have n0_ := Aside0.mk (Kd.R_drew HO_5.out)
                                                  have n1_ := Aside0.mk (blk_drew BK269.out)
                                                  have n2_ := Aside0.mk (blk_drew BK296.out)
                                                  have n3_ := Aside0.mk (below_drew1 HB.out)
                                                  clear HO_5
                                                  clear BK269
                                                  clear BK296
                                                  clear HB
                                                  have HO_5 := n0_
                                                  have BK269 := n1_
                                                  have BK296 := n2_
                                                  have HB := n3_
                                                  clear n0_ n1_ n2_ n3_
                                                  obtain ⟨Ao94, co94, eo94⟩ := Kd.R_slice HO_5.out
                                                  (first | subst eo94 | (injection eo94 with f1_ f2_ f3_; have f4_ := f1_.symm; have f5_ := f3_.symm; clear f1_ f2_ f3_; subst f4_; subst f5_))
                                                  have p297 : 0 ≤ (x10_3 : Int) := of_decide_eq_true (by first | (with_reducible assumption) | assumption)
                                                  have q297 : x10_3 < (x5_1.length : Int) := of_decide_eq_true (by first | (with_reducible assumption) | assumption)
                                                  obtain ⟨ad297, e297, hx297_0⟩ := Kd.at_int (Kd.R_reads' HO_5.out).2.2 x10_3 p297 q297
                                                  cases e297
                                                  replace p297 := eq_true p297
                                                  replace q297 := eq_true q297
                                                  refine start_ (n := 13) (S := fun w' => w'.cell? ⟨gb296, 0, none⟩ = some (.int .i64 t287) ∧ w'.cell? ⟨gb296, 1, none⟩ = some (.int .i64 t288) ∧ w'.cell? ⟨gb296, 2, none⟩ = some (.int .i64 t289) ∧ w'.cell? ⟨gb296, 3, none⟩ = some (.int .i32 t290) ∧ w'.cell? ⟨gb296, 4, none⟩ = some (.int .i32 t291) ∧ w'.cell? ⟨gb296, 5, none⟩ = some (.int .i64 t292) ∧ w'.cell? ⟨gb296, 6, none⟩ = some (.int .i64 t293) ∧ w'.cell? ⟨gb296, 7, none⟩ = some (.int .u32 t294) ∧ w'.cell? ⟨gb296, 8, none⟩ = some (.int .i32 t295) ∧ w'.cell? (ad297.add (x10_3).toNat) = some (.int .i32 (rd x5_1 x10_3))) (ds := []) #[false, false, false, false, false, false, false, false, false, false, false, false, false] (by kernel_rfl) rfl rfl ⟨(blk_cell BK296.out 0).trans rfl, (blk_cell BK296.out 1).trans rfl, (blk_cell BK296.out 2).trans rfl, (blk_cell BK296.out 3).trans rfl, (blk_cell BK296.out 4).trans rfl, (blk_cell BK296.out 5).trans rfl, (blk_cell BK296.out 6).trans rfl, (blk_cell BK296.out 7).trans rfl, (blk_cell BK296.out 8).trans rfl, hx297_0⟩ (fun hHeld => ?_); refine with_tabW dragomanlaw20_HzBack.tab30 dragomanlaw20_HzBack.bits30 (fun HT_ HW_ => ?_)
                                                  generalize wr.drew = w93 at HO_5 BK269 BK296 HB hx297_0 hHeld ⊢
                                                  refine pure_ (i := 0) (N := some 99) (v := ?_) (a' := ?_) #[true, false, false, false, false, false, false, false, false, false, false, false, false] rfl rfl (any_of HT_.out (by kernel_rfl)) (fun _ _ _ h => h) (Or.inl ⟨by rfl, ?_⟩) ?_ ?_
                                                  rotate_left
                                                  · intro w'
                                                    go_simp
                                                    with_reducible rfl
                                                  rotate_left
                                                  · simp only [Act.put, List.setIfInBounds_toArray, List.set_cons_zero, List.set_cons_succ, i64_w, i32_w]
                                                    rfl
                                                  refine pure_ (i := 1) (N := some 100) (v := ?_) (a' := ?_) #[true, true, false, false, false, false, false, false, false, false, false, false, false] rfl rfl (any_of HT_.out (by kernel_rfl)) (fun _ _ _ h => h) (Or.inl ⟨by rfl, ?_⟩) ?_ ?_
                                                  rotate_left
                                                  · intro w'
                                                    go_simp
                                                    with_reducible rfl
                                                  rotate_left
                                                  · simp only [Act.put, List.setIfInBounds_toArray, List.set_cons_zero, List.set_cons_succ, i64_w, i32_w]
                                                    rfl
                                                  refine pure_ (i := 2) (N := some 101) (v := ?_) (a' := ?_) #[true, true, true, false, false, false, false, false, false, false, false, false, false] rfl rfl (any_of HT_.out (by kernel_rfl)) (fun _ _ _ h => h) (Or.inl ⟨by rfl, ?_⟩) ?_ ?_
                                                  rotate_left
                                                  · intro w'
                                                    go_simp
                                                    with_reducible rfl
                                                  rotate_left
                                                  · simp only [Act.put, List.setIfInBounds_toArray, List.set_cons_zero, List.set_cons_succ, i64_w, i32_w]
                                                    rfl
                                                  refine pure_ (i := 3) (N := some 102) (v := ?_) (a' := ?_) #[true, true, true, true, false, false, false, false, false, false, false, false, false] rfl rfl (any_of HT_.out (by kernel_rfl)) (fun _ _ _ h => h) (Or.inl ⟨by rfl, ?_⟩) ?_ ?_
                                                  rotate_left
                                                  · intro w'
                                                    go_simp
                                                    with_reducible rfl
                                                  rotate_left
                                                  · simp only [Act.put, List.setIfInBounds_toArray, List.set_cons_zero, List.set_cons_succ, i64_w, i32_w]
                                                    rfl
                                                  refine pure_ (i := 4) (N := some 103) (v := ?_) (a' := ?_) #[true, true, true, true, true, false, false, false, false, false, false, false, false] rfl rfl (any_of HT_.out (by kernel_rfl)) (fun _ _ _ h => h) (Or.inl ⟨by rfl, ?_⟩) ?_ ?_
                                                  rotate_left
                                                  · intro w'
                                                    go_simp
                                                    with_reducible rfl
                                                  rotate_left
                                                  · simp only [Act.put, List.setIfInBounds_toArray, List.set_cons_zero, List.set_cons_succ, i64_w, i32_w]
                                                    rfl
                                                  refine pure_ (i := 5) (N := some 104) (v := ?_) (a' := ?_) #[true, true, true, true, true, true, false, false, false, false, false, false, false] rfl rfl (any_of HT_.out (by kernel_rfl)) (fun _ _ _ h => h) (Or.inl ⟨by rfl, ?_⟩) ?_ ?_
                                                  rotate_left
                                                  · intro w'
                                                    go_simp
                                                    with_reducible rfl
                                                  rotate_left
                                                  · simp only [Act.put, List.setIfInBounds_toArray, List.set_cons_zero, List.set_cons_succ, i64_w, i32_w]
                                                    rfl
                                                  refine pure_ (i := 6) (N := some 105) (v := ?_) (a' := ?_) #[true, true, true, true, true, true, true, false, false, false, false, false, false] rfl rfl (any_of HT_.out (by kernel_rfl)) (fun _ _ _ h => h) (Or.inl ⟨by rfl, ?_⟩) ?_ ?_
                                                  rotate_left
                                                  · intro w'
                                                    go_simp
                                                    with_reducible rfl
                                                  rotate_left
                                                  · simp only [Act.put, List.setIfInBounds_toArray, List.set_cons_zero, List.set_cons_succ, i64_w, i32_w]
                                                    rfl
                                                  refine pure_ (i := 7) (N := some 106) (v := ?_) (a' := ?_) #[true, true, true, true, true, true, true, true, false, false, false, false, false] rfl rfl (any_of HT_.out (by kernel_rfl)) (fun _ _ _ h => h) (Or.inl ⟨by rfl, ?_⟩) ?_ ?_
                                                  rotate_left
                                                  · intro w'
                                                    go_simp
                                                    with_reducible rfl
                                                  rotate_left
                                                  · simp only [Act.put, List.setIfInBounds_toArray, List.set_cons_zero, List.set_cons_succ, i64_w, i32_w]
                                                    rfl
                                                  refine pure_ (i := 9) (N := some 108) (v := ?_) (a' := ?_) #[true, true, true, true, true, true, true, true, false, true, false, false, false] rfl rfl (any_of HT_.out (by kernel_rfl)) (fun _ _ _ h => h) (Or.inl ⟨by rfl, ?_⟩) ?_ ?_
                                                  rotate_left
                                                  · intro w'
                                                    go_simp
                                                    with_reducible rfl
                                                  rotate_left
                                                  · simp only [Act.put, List.setIfInBounds_toArray, List.set_cons_zero, List.set_cons_succ, i64_w, i32_w]
                                                    rfl
                                                  refine take_ (i := 8) (N := some 107) (v := ?_) (a' := ?_) #[true, true, true, true, true, true, true, true, true, true, false, false, false] rfl rfl (take_ofW HT_.out HW_.out (by kernel_rfl)) (fun _ _ _ h => h) (Or.inl ⟨by rfl, ?_⟩) hHeld ?_ ?_
                                                  rotate_left
                                                  · rintro w' ⟨s0, s1, s2, s3, s4, s5, s6, s7, s8, s9⟩
                                                    go_simp
                                                    with_reducible rfl
                                                  rotate_left
                                                  · simp only [Act.put, List.setIfInBounds_toArray, List.set_cons_zero, List.set_cons_succ, i64_w, i32_w]
                                                    rfl
                                                  refine take_ (i := 10) (N := some 109) (v := ?_) (a' := ?_) #[true, true, true, true, true, true, true, true, true, true, true, false, false] rfl rfl (take_ofW HT_.out HW_.out (by kernel_rfl)) (fun _ _ _ h => h) (Or.inl ⟨by rfl, ?_⟩) hHeld ?_ ?_
                                                  rotate_left
                                                  · rintro w' ⟨s0, s1, s2, s3, s4, s5, s6, s7, s8, s9⟩
                                                    go_simp
                                                    with_reducible rfl
                                                  rotate_left
                                                  · simp only [Act.put, List.setIfInBounds_toArray, List.set_cons_zero, List.set_cons_succ, i64_w, i32_w]
                                                    rfl
                                                  refine pure_ (i := 11) (N := some 110) (v := ?_) (a' := ?_) #[true, true, true, true, true, true, true, true, true, true, true, true, false] rfl rfl (any_of HT_.out (by kernel_rfl)) (fun _ _ _ h => h) (Or.inl ⟨by rfl, ?_⟩) ?_ ?_
                                                  rotate_left
                                                  · intro w'
                                                    go_simp
                                                    with_reducible rfl
                                                  rotate_left
                                                  · simp only [Act.put, List.setIfInBounds_toArray, List.set_cons_zero, List.set_cons_succ, i64_w, i32_w]
                                                    rfl
                                                  refine pure_ (i := 12) (N := some 111) (v := ?_) (a' := ?_) #[true, true, true, true, true, true, true, true, true, true, true, true, true] rfl rfl (any_of HT_.out (by kernel_rfl)) (fun _ _ _ h => h) (Or.inl ⟨by rfl, ?_⟩) ?_ ?_
                                                  rotate_left
                                                  · intro w'
                                                    go_simp
                                                    with_reducible rfl
                                                  rotate_left
                                                  · simp only [Act.put, List.setIfInBounds_toArray, List.set_cons_zero, List.set_cons_succ, i64_w, i32_w]
                                                    rfl
                                                  refine done_ (done_of HT_.out (by kernel_rfl)) ?_
                                                  try go_wp2
                                                  have n0_ := Aside0.mk (Kd.R_drew HO_5.out)
                                                  have n1_ := Aside0.mk (blk_drew BK269.out)
                                                  have n2_ := Aside0.mk (blk_drew BK296.out)
                                                  have n3_ := Aside0.mk (below_drew1 HB.out)
                                                  clear HO_5
                                                  clear BK269
                                                  clear BK296
                                                  clear HB
                                                  have HO_5 := n0_
                                                  have BK269 := n1_
                                                  have BK296 := n2_
                                                  have HB := n3_
                                                  clear n0_ n1_ n2_ n3_
                                                  refine start_ (n := 8) (S := fun w' => w'.cell? ⟨gb296, 0, none⟩ = some (.int .i64 t287) ∧ w'.cell? ⟨gb296, 1, none⟩ = some (.int .i64 t288) ∧ w'.cell? ⟨gb296, 2, none⟩ = some (.int .i64 t289) ∧ w'.cell? ⟨gb296, 3, none⟩ = some (.int .i32 t290) ∧ w'.cell? ⟨gb296, 4, none⟩ = some (.int .i32 t291) ∧ w'.cell? ⟨gb296, 5, none⟩ = some (.int .i64 t292) ∧ w'.cell? ⟨gb296, 6, none⟩ = some (.int .i64 t293) ∧ w'.cell? ⟨gb296, 7, none⟩ = some (.int .u32 t294) ∧ w'.cell? ⟨gb296, 8, none⟩ = some (.int .i32 t295)) (ds := []) #[false, false, false, false, false, false, false, false] (by kernel_rfl) rfl rfl ⟨(blk_cell BK296.out 0).trans rfl, (blk_cell BK296.out 1).trans rfl, (blk_cell BK296.out 2).trans rfl, (blk_cell BK296.out 3).trans rfl, (blk_cell BK296.out 4).trans rfl, (blk_cell BK296.out 5).trans rfl, (blk_cell BK296.out 6).trans rfl, (blk_cell BK296.out 7).trans rfl, (blk_cell BK296.out 8).trans rfl⟩ (fun hHeld => ?_); refine with_tabW dragomanlaw20_HzBack.tab33 dragomanlaw20_HzBack.bits33 (fun HT_ HW_ => ?_)
                                                  generalize w93.drew = w95 at HO_5 BK269 BK296 HB hHeld ⊢
                                                  refine pure_ (i := 0) (N := some 114) (v := ?_) (a' := ?_) #[true, false, false, false, false, false, false, false] rfl rfl (any_of HT_.out (by kernel_rfl)) (fun _ _ _ h => h) (Or.inl ⟨by rfl, ?_⟩) ?_ ?_
                                                  rotate_left
                                                  · intro w'
                                                    go_simp
                                                    with_reducible rfl
                                                  rotate_left
                                                  · simp only [Act.put, List.setIfInBounds_toArray, List.set_cons_zero, List.set_cons_succ, i64_w, i32_w]
                                                    rfl
                                                  refine pure_ (i := 1) (N := some 115) (v := ?_) (a' := ?_) #[true, true, false, false, false, false, false, false] rfl rfl (any_of HT_.out (by kernel_rfl)) (fun _ _ _ h => h) (Or.inl ⟨by rfl, ?_⟩) ?_ ?_
                                                  rotate_left
                                                  · intro w'
                                                    go_simp
                                                    with_reducible rfl
                                                  rotate_left
                                                  · simp only [Act.put, List.setIfInBounds_toArray, List.set_cons_zero, List.set_cons_succ, i64_w, i32_w]
                                                    rfl
                                                  refine pure_ (i := 4) (N := some 118) (v := ?_) (a' := ?_) #[true, true, false, false, true, false, false, false] rfl rfl (any_of HT_.out (by kernel_rfl)) (fun _ _ _ h => h) (Or.inl ⟨by rfl, ?_⟩) ?_ ?_
                                                  rotate_left
                                                  · intro w'
                                                    go_simp
                                                    with_reducible rfl
                                                  rotate_left
                                                  · simp only [Act.put, List.setIfInBounds_toArray, List.set_cons_zero, List.set_cons_succ, i64_w, i32_w]
                                                    rfl
                                                  refine take_ (i := 2) (N := some 116) (v := ?_) (a' := ?_) #[true, true, true, false, true, false, false, false] rfl rfl (take_ofW HT_.out HW_.out (by kernel_rfl)) (fun _ _ _ h => h) (Or.inl ⟨by rfl, ?_⟩) hHeld ?_ ?_
                                                  rotate_left
                                                  · rintro w' ⟨s0, s1, s2, s3, s4, s5, s6, s7, s8⟩
                                                    go_simp
                                                    with_reducible rfl
                                                  rotate_left
                                                  · simp only [Act.put, List.setIfInBounds_toArray, List.set_cons_zero, List.set_cons_succ, i64_w, i32_w]
                                                    rfl
                                                  refine pure_ (i := 3) (N := some 117) (v := ?_) (a' := ?_) #[true, true, true, true, true, false, false, false] rfl rfl (any_of HT_.out (by kernel_rfl)) (fun _ _ _ h => h) (Or.inl ⟨by rfl, ?_⟩) ?_ ?_
                                                  rotate_left
                                                  · intro w'
                                                    go_simp
                                                    with_reducible rfl
                                                  rotate_left
                                                  · simp only [Act.put, List.setIfInBounds_toArray, List.set_cons_zero, List.set_cons_succ, i64_w, i32_w]
                                                    rfl
                                                  refine pure_ (i := 6) (N := some 4) (v := ?_) (a' := ?_) #[true, true, true, true, true, false, true, false] rfl rfl (any_of HT_.out (by kernel_rfl)) (fun _ _ _ h => h) (Or.inl ⟨by rfl, ?_⟩) ?_ ?_
                                                  rotate_left
                                                  · intro w'
                                                    go_simp
                                                    with_reducible rfl
                                                  rotate_left
                                                  · simp only [Act.put, List.setIfInBounds_toArray, List.set_cons_zero, List.set_cons_succ, i64_w, i32_w]
                                                    rfl
                                                  refine take_ (i := 5) (N := some 119) (v := ?_) (a' := ?_) #[true, true, true, true, true, true, true, false] rfl rfl (take_ofW HT_.out HW_.out (by kernel_rfl)) (fun _ _ _ h => h) (Or.inl ⟨by rfl, ?_⟩) hHeld ?_ ?_
                                                  rotate_left
                                                  · rintro w' ⟨s0, s1, s2, s3, s4, s5, s6, s7, s8⟩
                                                    go_simp
                                                    with_reducible rfl
                                                  rotate_left
                                                  · simp only [Act.put, List.setIfInBounds_toArray, List.set_cons_zero, List.set_cons_succ, i64_w, i32_w]
                                                    rfl
                                                  refine one_ (i := 7) (N := none) #[true, true, true, true, true, true, true, true] rfl rfl (one_of HT_.out (by kernel_rfl)) (by decide) (fun K hK => ?_)
                                                  have hs96 : w95.cell? ⟨gb269, 0, none⟩ = some (.int .i64 x270000_3) := (blk_cell BK269.out 0).trans rfl
                                                  have hfs96 := blk_frozen BK269.out 0
                                                  have hns96_1 := NB296_269.out
                                                  have hms96_1 := NB269_296.out
                                                  have hs97 : w95.cell? ⟨gb269, 1, none⟩ = some (.int .i64 x270001_3) := (blk_cell BK269.out 1).trans rfl
                                                  have hfs97 := blk_frozen BK269.out 1
                                                  have hns97_1 := NB296_269.out
                                                  have hms97_1 := NB269_296.out
                                                  have hs98 : w95.cell? ⟨gb269, 2, none⟩ = some (.int .u32 x270002_3) := (blk_cell BK269.out 2).trans rfl
                                                  have hfs98 := blk_frozen BK269.out 2
                                                  have hns98_1 := NB296_269.out
                                                  have hms98_1 := NB269_296.out
                                                  have hs99 : w95.cell? ⟨gb269, 3, none⟩ = some (.int .i32 x270003_3) := (blk_cell BK269.out 3).trans rfl
                                                  have hfs99 := blk_frozen BK269.out 3
                                                  have hns99_1 := NB296_269.out
                                                  have hms99_1 := NB269_296.out
                                                  refine skip_ (w1 := ?_) (by rfl) rfl ?_ ?_
                                                  rotate_left
                                                  · go_simp
                                                    rfl
                                                  refine hK.out _ _ ⟨((cell_far (p := ⟨gb269, _, none⟩) NB296_269.out _).trans (((cell_far (p := ⟨gb269, _, none⟩) NB296_269.out _).trans (((cell_far (p := ⟨gb269, _, none⟩) NB296_269.out _).trans (((cell_far (p := ⟨gb269, _, none⟩) NB296_269.out _).trans (hHeld.1)))))))), ((cell_far (p := ⟨gb269, _, none⟩) NB296_269.out _).trans (((cell_far (p := ⟨gb269, _, none⟩) NB296_269.out _).trans (((cell_far (p := ⟨gb269, _, none⟩) NB296_269.out _).trans (((cell_far (p := ⟨gb269, _, none⟩) NB296_269.out _).trans (hHeld.2.1)))))))), ((cell_far (p := ⟨gb269, _, none⟩) NB296_269.out _).trans (((cell_far (p := ⟨gb269, _, none⟩) NB296_269.out _).trans (((cell_far (p := ⟨gb269, _, none⟩) NB296_269.out _).trans (((cell_far (p := ⟨gb269, _, none⟩) NB296_269.out _).trans (hHeld.2.2.1)))))))), ((cell_far (p := ⟨gb269, _, none⟩) NB296_269.out _).trans (((cell_far (p := ⟨gb269, _, none⟩) NB296_269.out _).trans (((cell_far (p := ⟨gb269, _, none⟩) NB296_269.out _).trans (((cell_far (p := ⟨gb269, _, none⟩) NB296_269.out _).trans (hHeld.2.2.2.1)))))))), ((cell_far (p := ⟨gb269, _, none⟩) NB296_269.out _).trans (((cell_far (p := ⟨gb269, _, none⟩) NB296_269.out _).trans (((cell_far (p := ⟨gb269, _, none⟩) NB296_269.out _).trans (((cell_far (p := ⟨gb269, _, none⟩) NB296_269.out _).trans (hHeld.2.2.2.2.1)))))))), ((cell_far (p := ⟨gb269, _, none⟩) NB296_269.out _).trans (((cell_far (p := ⟨gb269, _, none⟩) NB296_269.out _).trans (((cell_far (p := ⟨gb269, _, none⟩) NB296_269.out _).trans (((cell_far (p := ⟨gb269, _, none⟩) NB296_269.out _).trans (hHeld.2.2.2.2.2.1)))))))), ((cell_far (p := ⟨gb269, _, none⟩) NB296_269.out _).trans (((cell_far (p := ⟨gb269, _, none⟩) NB296_269.out _).trans (((cell_far (p := ⟨gb269, _, none⟩) NB296_269.out _).trans (((cell_far (p := ⟨gb269, _, none⟩) NB296_269.out _).trans (hHeld.2.2.2.2.2.2.1)))))))), ((cell_far (p := ⟨gb269, _, none⟩) NB296_269.out _).trans (((cell_far (p := ⟨gb269, _, none⟩) NB296_269.out _).trans (((cell_far (p := ⟨gb269, _, none⟩) NB296_269.out _).trans (((cell_far (p := ⟨gb269, _, none⟩) NB296_269.out _).trans (hHeld.2.2.2.2.2.2.2.1)))))))), ((cell_far (p := ⟨gb269, _, none⟩) NB296_269.out _).trans (((cell_far (p := ⟨gb269, _, none⟩) NB296_269.out _).trans (((cell_far (p := ⟨gb269, _, none⟩) NB296_269.out _).trans (((cell_far (p := ⟨gb269, _, none⟩) NB296_269.out _).trans (hHeld.2.2.2.2.2.2.2.2))))))))⟩ (fun hHeld => ?_)
                                                  clear hK K
                                                  refine done_ (done_of HT_.out (by kernel_rfl)) ?_
                                                  try go_wp2
                                                  go_roundg k5
                                                  case measure => have := HK1.out; have := HJ6.out; have := HK3.out; have := HJ50.out; have := HK5.out; omega
                                                  case rel => exact ⟨(x4_3.extract (t288 : Int).toNat x4_3.size), (wrap64 (x10_3 + 1)), (t292), (t293), (t294), (t295), (by first | rfl | (simp; done) | (simp [*]; done)), (by first | rfl | (simp; done) | (simp [*]; done)), H', ⟨by have := HK1.out; have := HJ6.out; have := HK3.out; have := HJ50.out; have := HK5.out; omega⟩, ⟨by (with_reducible repeat (first | apply Kd.R_alloc | apply Kd.R_drewN | apply Kd.R_drew)); exact Kd.R_mono (Kd.R_far (p := ⟨gb269, 3, none⟩) (Kd.R_far (p := ⟨gb269, 2, none⟩) (Kd.R_far (p := ⟨gb269, 1, none⟩) (Kd.R_far (p := ⟨gb269, 0, none⟩) (Kd.R_types HO_5.out BK269.out (by decide)) (fun _ hk => hk.2) (.int .i64 t292)) (fun _ hk => hk.2) (.int .i64 t293)) (fun _ hk => hk.2) (.int .u32 t294)) (fun _ hk => hk.2) (.int .i32 t295)) (fun _ hk => trivial)⟩, ⟨by (with_reducible repeat (first | refine blk_drewN ?_ _ | refine blk_drew ?_ | refine blk_alloc ?_ _)); refine blk_put (cs := #[.int .i64 t292, .int .i64 t293, .int .u32 t294, .int .i32 x270003_3]) ?_ 3 _ rfl; (with_reducible repeat (first | refine blk_drewN ?_ _ | refine blk_drew ?_ | refine blk_alloc ?_ _)); refine blk_put (cs := #[.int .i64 t292, .int .i64 t293, .int .u32 x270002_3, .int .i32 x270003_3]) ?_ 2 _ rfl; (with_reducible repeat (first | refine blk_drewN ?_ _ | refine blk_drew ?_ | refine blk_alloc ?_ _)); refine blk_put (cs := #[.int .i64 t292, .int .i64 x270001_3, .int .u32 x270002_3, .int .i32 x270003_3]) ?_ 1 _ rfl; (with_reducible repeat (first | refine blk_drewN ?_ _ | refine blk_drew ?_ | refine blk_alloc ?_ _)); refine blk_put (cs := #[.int .i64 x270000_3, .int .i64 x270001_3, .int .u32 x270002_3, .int .i32 x270003_3]) ?_ 0 _ rfl; (with_reducible repeat (first | refine blk_drewN ?_ _ | refine blk_drew ?_ | refine blk_alloc ?_ _)); exact BK269.out⟩, ⟨by repeat (first | (with_reducible first | exact HB.out | apply below_alloc | apply pw_below_drewN | apply below_drew1 | refine below_set ?_ GE269.out | refine below_set ?_ GE296.out) | exact HB.out)⟩⟩
                                                · rw [if_neg c90] at H
                                                  exact absurd H (by simp)
                                              · rw [if_neg c89] at H
                                                exact absurd H (by simp)
                                            · rw [if_neg c88] at H
                                              have c88b0 : ((rd x5_1 x10_3) == t290) = false := beq_eq_false_iff_ne.mpr c88
                                              have c88b1 : ((rd x5_1 x10_3) != t290) = true := bne_iff_ne.mpr c88
                                              obtain rfl := Option.some.inj H
                                              have hnb100 := NB296_269.out
                                              have hnc100 := NB269_296.out
                                              have hcz101_0 : wr.cell? ⟨gb296, 0, none⟩ = some (.int .i64 t287) := (blk_cell BK296.out 0).trans rfl
                                              have hcz101_1 : wr.cell? ⟨gb296, 1, none⟩ = some (.int .i64 t288) := (blk_cell BK296.out 1).trans rfl
                                              have hcz101_2 : wr.cell? ⟨gb296, 2, none⟩ = some (.int .i64 t289) := (blk_cell BK296.out 2).trans rfl
                                              have hcz101_3 : wr.cell? ⟨gb296, 3, none⟩ = some (.int .i32 t290) := (blk_cell BK296.out 3).trans rfl
                                              have hcz101_4 : wr.cell? ⟨gb296, 4, none⟩ = some (.int .i32 t291) := (blk_cell BK296.out 4).trans rfl
                                              have hcz101_5 : wr.cell? ⟨gb296, 5, none⟩ = some (.int .i64 t292) := (blk_cell BK296.out 5).trans rfl
                                              have hcz101_6 : wr.cell? ⟨gb296, 6, none⟩ = some (.int .i64 t293) := (blk_cell BK296.out 6).trans rfl
                                              have hcz101_7 : wr.cell? ⟨gb296, 7, none⟩ = some (.int .u32 t294) := (blk_cell BK296.out 7).trans rfl
                                              have hcz101_8 : wr.cell? ⟨gb296, 8, none⟩ = some (.int .i32 t295) := (blk_cell BK296.out 8).trans rfl
                                              have hfz101_0 := blk_frozen BK296.out 0
                                              have hfz101_1 := blk_frozen BK296.out 1
                                              have hfz101_2 := blk_frozen BK296.out 2
                                              have hfz101_3 := blk_frozen BK296.out 3
                                              have hfz101_4 := blk_frozen BK296.out 4
                                              have hfz101_5 := blk_frozen BK296.out 5
                                              have hfz101_6 := blk_frozen BK296.out 6
                                              have hfz101_7 := blk_frozen BK296.out 7
                                              have hfz101_8 := blk_frozen BK296.out 8
                                              try go_wp2
                                              have n0_ := Aside0.mk (Kd.R_drew HO_5.out)
                                              have n1_ := Aside0.mk (blk_drew BK269.out)
                                              have n2_ := Aside0.mk (blk_drew BK296.out)
                                              have n3_ := Aside0.mk (below_drew1 HB.out)
                                              clear HO_5
                                              clear BK269
                                              clear BK296
                                              clear HB
                                              have HO_5 := n0_
                                              have BK269 := n1_
                                              have BK296 := n2_
                                              have HB := n3_
                                              clear n0_ n1_ n2_ n3_
                                              obtain ⟨Ao103, co103, eo103⟩ := Kd.R_slice HO_5.out
                                              (first | subst eo103 | (injection eo103 with f1_ f2_ f3_; have f4_ := f1_.symm; have f5_ := f3_.symm; clear f1_ f2_ f3_; subst f4_; subst f5_))
                                              have p297 : 0 ≤ (x10_3 : Int) := of_decide_eq_true (by first | (with_reducible assumption) | assumption)
                                              have q297 : x10_3 < (x5_1.length : Int) := of_decide_eq_true (by first | (with_reducible assumption) | assumption)
                                              obtain ⟨ad297, e297, hx297_0⟩ := Kd.at_int (Kd.R_reads' HO_5.out).2.2 x10_3 p297 q297
                                              cases e297
                                              replace p297 := eq_true p297
                                              replace q297 := eq_true q297
                                              refine start_ (n := 13) (S := fun w' => w'.cell? ⟨gb296, 0, none⟩ = some (.int .i64 t287) ∧ w'.cell? ⟨gb296, 1, none⟩ = some (.int .i64 t288) ∧ w'.cell? ⟨gb296, 2, none⟩ = some (.int .i64 t289) ∧ w'.cell? ⟨gb296, 3, none⟩ = some (.int .i32 t290) ∧ w'.cell? ⟨gb296, 4, none⟩ = some (.int .i32 t291) ∧ w'.cell? ⟨gb296, 5, none⟩ = some (.int .i64 t292) ∧ w'.cell? ⟨gb296, 6, none⟩ = some (.int .i64 t293) ∧ w'.cell? ⟨gb296, 7, none⟩ = some (.int .u32 t294) ∧ w'.cell? ⟨gb296, 8, none⟩ = some (.int .i32 t295) ∧ w'.cell? (ad297.add (x10_3).toNat) = some (.int .i32 (rd x5_1 x10_3))) (ds := []) #[false, false, false, false, false, false, false, false, false, false, false, false, false] (by kernel_rfl) rfl rfl ⟨(blk_cell BK296.out 0).trans rfl, (blk_cell BK296.out 1).trans rfl, (blk_cell BK296.out 2).trans rfl, (blk_cell BK296.out 3).trans rfl, (blk_cell BK296.out 4).trans rfl, (blk_cell BK296.out 5).trans rfl, (blk_cell BK296.out 6).trans rfl, (blk_cell BK296.out 7).trans rfl, (blk_cell BK296.out 8).trans rfl, hx297_0⟩ (fun hHeld => ?_); refine with_tabW dragomanlaw20_HzBack.tab30 dragomanlaw20_HzBack.bits30 (fun HT_ HW_ => ?_)
                                              generalize wr.drew = w102 at HO_5 BK269 BK296 HB hx297_0 hHeld ⊢
                                              refine pure_ (i := 0) (N := some 99) (v := ?_) (a' := ?_) #[true, false, false, false, false, false, false, false, false, false, false, false, false] rfl rfl (any_of HT_.out (by kernel_rfl)) (fun _ _ _ h => h) (Or.inl ⟨by rfl, ?_⟩) ?_ ?_
                                              rotate_left
                                              · intro w'
                                                go_simp
                                                with_reducible rfl
                                              rotate_left
                                              · simp only [Act.put, List.setIfInBounds_toArray, List.set_cons_zero, List.set_cons_succ, i64_w, i32_w]
                                                rfl
                                              refine pure_ (i := 1) (N := some 100) (v := ?_) (a' := ?_) #[true, true, false, false, false, false, false, false, false, false, false, false, false] rfl rfl (any_of HT_.out (by kernel_rfl)) (fun _ _ _ h => h) (Or.inl ⟨by rfl, ?_⟩) ?_ ?_
                                              rotate_left
                                              · intro w'
                                                go_simp
                                                with_reducible rfl
                                              rotate_left
                                              · simp only [Act.put, List.setIfInBounds_toArray, List.set_cons_zero, List.set_cons_succ, i64_w, i32_w]
                                                rfl
                                              refine pure_ (i := 2) (N := some 101) (v := ?_) (a' := ?_) #[true, true, true, false, false, false, false, false, false, false, false, false, false] rfl rfl (any_of HT_.out (by kernel_rfl)) (fun _ _ _ h => h) (Or.inl ⟨by rfl, ?_⟩) ?_ ?_
                                              rotate_left
                                              · intro w'
                                                go_simp
                                                with_reducible rfl
                                              rotate_left
                                              · simp only [Act.put, List.setIfInBounds_toArray, List.set_cons_zero, List.set_cons_succ, i64_w, i32_w]
                                                rfl
                                              refine pure_ (i := 3) (N := some 102) (v := ?_) (a' := ?_) #[true, true, true, true, false, false, false, false, false, false, false, false, false] rfl rfl (any_of HT_.out (by kernel_rfl)) (fun _ _ _ h => h) (Or.inl ⟨by rfl, ?_⟩) ?_ ?_
                                              rotate_left
                                              · intro w'
                                                go_simp
                                                with_reducible rfl
                                              rotate_left
                                              · simp only [Act.put, List.setIfInBounds_toArray, List.set_cons_zero, List.set_cons_succ, i64_w, i32_w]
                                                rfl
                                              refine pure_ (i := 4) (N := some 103) (v := ?_) (a' := ?_) #[true, true, true, true, true, false, false, false, false, false, false, false, false] rfl rfl (any_of HT_.out (by kernel_rfl)) (fun _ _ _ h => h) (Or.inl ⟨by rfl, ?_⟩) ?_ ?_
                                              rotate_left
                                              · intro w'
                                                go_simp
                                                with_reducible rfl
                                              rotate_left
                                              · simp only [Act.put, List.setIfInBounds_toArray, List.set_cons_zero, List.set_cons_succ, i64_w, i32_w]
                                                rfl
                                              refine pure_ (i := 5) (N := some 104) (v := ?_) (a' := ?_) #[true, true, true, true, true, true, false, false, false, false, false, false, false] rfl rfl (any_of HT_.out (by kernel_rfl)) (fun _ _ _ h => h) (Or.inl ⟨by rfl, ?_⟩) ?_ ?_
                                              rotate_left
                                              · intro w'
                                                go_simp
                                                with_reducible rfl
                                              rotate_left
                                              · simp only [Act.put, List.setIfInBounds_toArray, List.set_cons_zero, List.set_cons_succ, i64_w, i32_w]
                                                rfl
                                              refine pure_ (i := 6) (N := some 105) (v := ?_) (a' := ?_) #[true, true, true, true, true, true, true, false, false, false, false, false, false] rfl rfl (any_of HT_.out (by kernel_rfl)) (fun _ _ _ h => h) (Or.inl ⟨by rfl, ?_⟩) ?_ ?_
                                              rotate_left
                                              · intro w'
                                                go_simp
                                                with_reducible rfl
                                              rotate_left
                                              · simp only [Act.put, List.setIfInBounds_toArray, List.set_cons_zero, List.set_cons_succ, i64_w, i32_w]
                                                rfl
                                              refine pure_ (i := 7) (N := some 106) (v := ?_) (a' := ?_) #[true, true, true, true, true, true, true, true, false, false, false, false, false] rfl rfl (any_of HT_.out (by kernel_rfl)) (fun _ _ _ h => h) (Or.inl ⟨by rfl, ?_⟩) ?_ ?_
                                              rotate_left
                                              · intro w'
                                                go_simp
                                                with_reducible rfl
                                              rotate_left
                                              · simp only [Act.put, List.setIfInBounds_toArray, List.set_cons_zero, List.set_cons_succ, i64_w, i32_w]
                                                rfl
                                              refine pure_ (i := 9) (N := some 108) (v := ?_) (a' := ?_) #[true, true, true, true, true, true, true, true, false, true, false, false, false] rfl rfl (any_of HT_.out (by kernel_rfl)) (fun _ _ _ h => h) (Or.inl ⟨by rfl, ?_⟩) ?_ ?_
                                              rotate_left
                                              · intro w'
                                                go_simp
                                                with_reducible rfl
                                              rotate_left
                                              · simp only [Act.put, List.setIfInBounds_toArray, List.set_cons_zero, List.set_cons_succ, i64_w, i32_w]
                                                rfl
                                              refine take_ (i := 8) (N := some 107) (v := ?_) (a' := ?_) #[true, true, true, true, true, true, true, true, true, true, false, false, false] rfl rfl (take_ofW HT_.out HW_.out (by kernel_rfl)) (fun _ _ _ h => h) (Or.inl ⟨by rfl, ?_⟩) hHeld ?_ ?_
                                              rotate_left
                                              · rintro w' ⟨s0, s1, s2, s3, s4, s5, s6, s7, s8, s9⟩
                                                go_simp
                                                with_reducible rfl
                                              rotate_left
                                              · simp only [Act.put, List.setIfInBounds_toArray, List.set_cons_zero, List.set_cons_succ, i64_w, i32_w]
                                                rfl
                                              refine take_ (i := 10) (N := some 109) (v := ?_) (a' := ?_) #[true, true, true, true, true, true, true, true, true, true, true, false, false] rfl rfl (take_ofW HT_.out HW_.out (by kernel_rfl)) (fun _ _ _ h => h) (Or.inl ⟨by rfl, ?_⟩) hHeld ?_ ?_
                                              rotate_left
                                              · rintro w' ⟨s0, s1, s2, s3, s4, s5, s6, s7, s8, s9⟩
                                                go_simp
                                                with_reducible rfl
                                              rotate_left
                                              · simp only [Act.put, List.setIfInBounds_toArray, List.set_cons_zero, List.set_cons_succ, i64_w, i32_w]
                                                rfl
                                              refine pure_ (i := 11) (N := some 110) (v := ?_) (a' := ?_) #[true, true, true, true, true, true, true, true, true, true, true, true, false] rfl rfl (any_of HT_.out (by kernel_rfl)) (fun _ _ _ h => h) (Or.inl ⟨by rfl, ?_⟩) ?_ ?_
                                              rotate_left
                                              · intro w'
                                                go_simp
                                                with_reducible rfl
                                              rotate_left
                                              · simp only [Act.put, List.setIfInBounds_toArray, List.set_cons_zero, List.set_cons_succ, i64_w, i32_w]
                                                rfl
                                              refine pure_ (i := 12) (N := some 111) (v := ?_) (a' := ?_) #[true, true, true, true, true, true, true, true, true, true, true, true, true] rfl rfl (any_of HT_.out (by kernel_rfl)) (fun _ _ _ h => h) (Or.inl ⟨by rfl, ?_⟩) ?_ ?_
                                              rotate_left
                                              · intro w'
                                                go_simp
                                                with_reducible rfl
                                              rotate_left
                                              · simp only [Act.put, List.setIfInBounds_toArray, List.set_cons_zero, List.set_cons_succ, i64_w, i32_w]
                                                rfl
                                              refine done_ (done_of HT_.out (by kernel_rfl)) ?_
                                              try go_wp2
                                              go_ret
                                              exact ⟨by first | rfl | (simp [errW_none, errW_some] <;> rfl) | (simp [*, errW_none, errW_some] <;> rfl), by repeat (first | (with_reducible first | exact HB.out | apply below_alloc | apply pw_below_drewN | apply below_drew1 | refine below_set ?_ GE269.out | refine below_set ?_ GE296.out) | exact HB.out)⟩
                                          · rw [if_neg c87] at H
                                            exact absurd H (by simp)
                                        · rw [if_neg c86] at H
                                          exact absurd H (by simp)
                                    · rw [if_neg c80] at H
                                      have c80b0 : (t289 == 1) = false := beq_eq_false_iff_ne.mpr c80
                                      have c80b1 : (t289 != 1) = true := bne_iff_ne.mpr c80
                                      by_cases c104 : 0 ≤ t288
                                      · rw [if_pos c104] at H
                                        have c104b0 := eq_true c104
                                        have c104b1 : decide (0 ≤ t288) = true := decide_eq_true c104
                                        clear c104
                                        by_cases c105 : t288 ≤ (x4_3.size : Int)
                                        · rw [if_pos c105] at H
                                          have c105b0 := eq_true c105
                                          have c105b1 : decide (t288 ≤ (x4_3.size : Int)) = true := decide_eq_true c105
                                          clear c105
                                          have H' := Aside0.mk H
                                          clear H
                                          have hnb106 := NB296_269.out
                                          have hnc106 := NB269_296.out
                                          have hcz107_0 : wr.cell? ⟨gb296, 0, none⟩ = some (.int .i64 t287) := (blk_cell BK296.out 0).trans rfl
                                          have hcz107_1 : wr.cell? ⟨gb296, 1, none⟩ = some (.int .i64 t288) := (blk_cell BK296.out 1).trans rfl
                                          have hcz107_2 : wr.cell? ⟨gb296, 2, none⟩ = some (.int .i64 t289) := (blk_cell BK296.out 2).trans rfl
                                          have hcz107_3 : wr.cell? ⟨gb296, 3, none⟩ = some (.int .i32 t290) := (blk_cell BK296.out 3).trans rfl
                                          have hcz107_4 : wr.cell? ⟨gb296, 4, none⟩ = some (.int .i32 t291) := (blk_cell BK296.out 4).trans rfl
                                          have hcz107_5 : wr.cell? ⟨gb296, 5, none⟩ = some (.int .i64 t292) := (blk_cell BK296.out 5).trans rfl
                                          have hcz107_6 : wr.cell? ⟨gb296, 6, none⟩ = some (.int .i64 t293) := (blk_cell BK296.out 6).trans rfl
                                          have hcz107_7 : wr.cell? ⟨gb296, 7, none⟩ = some (.int .u32 t294) := (blk_cell BK296.out 7).trans rfl
                                          have hcz107_8 : wr.cell? ⟨gb296, 8, none⟩ = some (.int .i32 t295) := (blk_cell BK296.out 8).trans rfl
                                          have hfz107_0 := blk_frozen BK296.out 0
                                          have hfz107_1 := blk_frozen BK296.out 1
                                          have hfz107_2 := blk_frozen BK296.out 2
                                          have hfz107_3 := blk_frozen BK296.out 3
                                          have hfz107_4 := blk_frozen BK296.out 4
                                          have hfz107_5 := blk_frozen BK296.out 5
                                          have hfz107_6 := blk_frozen BK296.out 6
                                          have hfz107_7 := blk_frozen BK296.out 7
                                          have hfz107_8 := blk_frozen BK296.out 8
                                          try go_wp2
                                          have n0_ := Aside0.mk (Kd.R_drew HO_5.out)
                                          have n1_ := Aside0.mk (blk_drew BK269.out)
                                          have n2_ := Aside0.mk (blk_drew BK296.out)
                                          have n3_ := Aside0.mk (below_drew1 HB.out)
                                          clear HO_5
                                          clear BK269
                                          clear BK296
                                          clear HB
                                          have HO_5 := n0_
                                          have BK269 := n1_
                                          have BK296 := n2_
                                          have HB := n3_
                                          clear n0_ n1_ n2_ n3_
                                          refine start_ (n := 8) (S := fun w' => w'.cell? ⟨gb296, 0, none⟩ = some (.int .i64 t287) ∧ w'.cell? ⟨gb296, 1, none⟩ = some (.int .i64 t288) ∧ w'.cell? ⟨gb296, 2, none⟩ = some (.int .i64 t289) ∧ w'.cell? ⟨gb296, 3, none⟩ = some (.int .i32 t290) ∧ w'.cell? ⟨gb296, 4, none⟩ = some (.int .i32 t291) ∧ w'.cell? ⟨gb296, 5, none⟩ = some (.int .i64 t292) ∧ w'.cell? ⟨gb296, 6, none⟩ = some (.int .i64 t293) ∧ w'.cell? ⟨gb296, 7, none⟩ = some (.int .u32 t294) ∧ w'.cell? ⟨gb296, 8, none⟩ = some (.int .i32 t295)) (ds := []) #[false, false, false, false, false, false, false, false] (by kernel_rfl) rfl rfl ⟨(blk_cell BK296.out 0).trans rfl, (blk_cell BK296.out 1).trans rfl, (blk_cell BK296.out 2).trans rfl, (blk_cell BK296.out 3).trans rfl, (blk_cell BK296.out 4).trans rfl, (blk_cell BK296.out 5).trans rfl, (blk_cell BK296.out 6).trans rfl, (blk_cell BK296.out 7).trans rfl, (blk_cell BK296.out 8).trans rfl⟩ (fun hHeld => ?_); refine with_tabW dragomanlaw20_HzBack.tab33 dragomanlaw20_HzBack.bits33 (fun HT_ HW_ => ?_)
                                          generalize wr.drew = w108 at HO_5 BK269 BK296 HB hHeld ⊢
                                          refine pure_ (i := 0) (N := some 114) (v := ?_) (a' := ?_) #[true, false, false, false, false, false, false, false] rfl rfl (any_of HT_.out (by kernel_rfl)) (fun _ _ _ h => h) (Or.inl ⟨by rfl, ?_⟩) ?_ ?_
                                          rotate_left
                                          · intro w'
                                            go_simp
                                            with_reducible rfl
                                          rotate_left
                                          · simp only [Act.put, List.setIfInBounds_toArray, List.set_cons_zero, List.set_cons_succ, i64_w, i32_w]
                                            rfl
                                          refine pure_ (i := 1) (N := some 115) (v := ?_) (a' := ?_) #[true, true, false, false, false, false, false, false] rfl rfl (any_of HT_.out (by kernel_rfl)) (fun _ _ _ h => h) (Or.inl ⟨by rfl, ?_⟩) ?_ ?_
                                          rotate_left
                                          · intro w'
                                            go_simp
                                            with_reducible rfl
                                          rotate_left
                                          · simp only [Act.put, List.setIfInBounds_toArray, List.set_cons_zero, List.set_cons_succ, i64_w, i32_w]
                                            rfl
                                          refine pure_ (i := 4) (N := some 118) (v := ?_) (a' := ?_) #[true, true, false, false, true, false, false, false] rfl rfl (any_of HT_.out (by kernel_rfl)) (fun _ _ _ h => h) (Or.inl ⟨by rfl, ?_⟩) ?_ ?_
                                          rotate_left
                                          · intro w'
                                            go_simp
                                            with_reducible rfl
                                          rotate_left
                                          · simp only [Act.put, List.setIfInBounds_toArray, List.set_cons_zero, List.set_cons_succ, i64_w, i32_w]
                                            rfl
                                          refine take_ (i := 2) (N := some 116) (v := ?_) (a' := ?_) #[true, true, true, false, true, false, false, false] rfl rfl (take_ofW HT_.out HW_.out (by kernel_rfl)) (fun _ _ _ h => h) (Or.inl ⟨by rfl, ?_⟩) hHeld ?_ ?_
                                          rotate_left
                                          · rintro w' ⟨s0, s1, s2, s3, s4, s5, s6, s7, s8⟩
                                            go_simp
                                            with_reducible rfl
                                          rotate_left
                                          · simp only [Act.put, List.setIfInBounds_toArray, List.set_cons_zero, List.set_cons_succ, i64_w, i32_w]
                                            rfl
                                          refine pure_ (i := 3) (N := some 117) (v := ?_) (a' := ?_) #[true, true, true, true, true, false, false, false] rfl rfl (any_of HT_.out (by kernel_rfl)) (fun _ _ _ h => h) (Or.inl ⟨by rfl, ?_⟩) ?_ ?_
                                          rotate_left
                                          · intro w'
                                            go_simp
                                            with_reducible rfl
                                          rotate_left
                                          · simp only [Act.put, List.setIfInBounds_toArray, List.set_cons_zero, List.set_cons_succ, i64_w, i32_w]
                                            rfl
                                          refine pure_ (i := 6) (N := some 4) (v := ?_) (a' := ?_) #[true, true, true, true, true, false, true, false] rfl rfl (any_of HT_.out (by kernel_rfl)) (fun _ _ _ h => h) (Or.inl ⟨by rfl, ?_⟩) ?_ ?_
                                          rotate_left
                                          · intro w'
                                            go_simp
                                            with_reducible rfl
                                          rotate_left
                                          · simp only [Act.put, List.setIfInBounds_toArray, List.set_cons_zero, List.set_cons_succ, i64_w, i32_w]
                                            rfl
                                          refine take_ (i := 5) (N := some 119) (v := ?_) (a' := ?_) #[true, true, true, true, true, true, true, false] rfl rfl (take_ofW HT_.out HW_.out (by kernel_rfl)) (fun _ _ _ h => h) (Or.inl ⟨by rfl, ?_⟩) hHeld ?_ ?_
                                          rotate_left
                                          · rintro w' ⟨s0, s1, s2, s3, s4, s5, s6, s7, s8⟩
                                            go_simp
                                            with_reducible rfl
                                          rotate_left
                                          · simp only [Act.put, List.setIfInBounds_toArray, List.set_cons_zero, List.set_cons_succ, i64_w, i32_w]
                                            rfl
                                          refine one_ (i := 7) (N := none) #[true, true, true, true, true, true, true, true] rfl rfl (one_of HT_.out (by kernel_rfl)) (by decide) (fun K hK => ?_)
                                          have hs109 : w108.cell? ⟨gb269, 0, none⟩ = some (.int .i64 x270000_3) := (blk_cell BK269.out 0).trans rfl
                                          have hfs109 := blk_frozen BK269.out 0
                                          have hns109_1 := NB296_269.out
                                          have hms109_1 := NB269_296.out
                                          have hs110 : w108.cell? ⟨gb269, 1, none⟩ = some (.int .i64 x270001_3) := (blk_cell BK269.out 1).trans rfl
                                          have hfs110 := blk_frozen BK269.out 1
                                          have hns110_1 := NB296_269.out
                                          have hms110_1 := NB269_296.out
                                          have hs111 : w108.cell? ⟨gb269, 2, none⟩ = some (.int .u32 x270002_3) := (blk_cell BK269.out 2).trans rfl
                                          have hfs111 := blk_frozen BK269.out 2
                                          have hns111_1 := NB296_269.out
                                          have hms111_1 := NB269_296.out
                                          have hs112 : w108.cell? ⟨gb269, 3, none⟩ = some (.int .i32 x270003_3) := (blk_cell BK269.out 3).trans rfl
                                          have hfs112 := blk_frozen BK269.out 3
                                          have hns112_1 := NB296_269.out
                                          have hms112_1 := NB269_296.out
                                          refine skip_ (w1 := ?_) (by rfl) rfl ?_ ?_
                                          rotate_left
                                          · go_simp
                                            rfl
                                          refine hK.out _ _ ⟨((cell_far (p := ⟨gb269, _, none⟩) NB296_269.out _).trans (((cell_far (p := ⟨gb269, _, none⟩) NB296_269.out _).trans (((cell_far (p := ⟨gb269, _, none⟩) NB296_269.out _).trans (((cell_far (p := ⟨gb269, _, none⟩) NB296_269.out _).trans (hHeld.1)))))))), ((cell_far (p := ⟨gb269, _, none⟩) NB296_269.out _).trans (((cell_far (p := ⟨gb269, _, none⟩) NB296_269.out _).trans (((cell_far (p := ⟨gb269, _, none⟩) NB296_269.out _).trans (((cell_far (p := ⟨gb269, _, none⟩) NB296_269.out _).trans (hHeld.2.1)))))))), ((cell_far (p := ⟨gb269, _, none⟩) NB296_269.out _).trans (((cell_far (p := ⟨gb269, _, none⟩) NB296_269.out _).trans (((cell_far (p := ⟨gb269, _, none⟩) NB296_269.out _).trans (((cell_far (p := ⟨gb269, _, none⟩) NB296_269.out _).trans (hHeld.2.2.1)))))))), ((cell_far (p := ⟨gb269, _, none⟩) NB296_269.out _).trans (((cell_far (p := ⟨gb269, _, none⟩) NB296_269.out _).trans (((cell_far (p := ⟨gb269, _, none⟩) NB296_269.out _).trans (((cell_far (p := ⟨gb269, _, none⟩) NB296_269.out _).trans (hHeld.2.2.2.1)))))))), ((cell_far (p := ⟨gb269, _, none⟩) NB296_269.out _).trans (((cell_far (p := ⟨gb269, _, none⟩) NB296_269.out _).trans (((cell_far (p := ⟨gb269, _, none⟩) NB296_269.out _).trans (((cell_far (p := ⟨gb269, _, none⟩) NB296_269.out _).trans (hHeld.2.2.2.2.1)))))))), ((cell_far (p := ⟨gb269, _, none⟩) NB296_269.out _).trans (((cell_far (p := ⟨gb269, _, none⟩) NB296_269.out _).trans (((cell_far (p := ⟨gb269, _, none⟩) NB296_269.out _).trans (((cell_far (p := ⟨gb269, _, none⟩) NB296_269.out _).trans (hHeld.2.2.2.2.2.1)))))))), ((cell_far (p := ⟨gb269, _, none⟩) NB296_269.out _).trans (((cell_far (p := ⟨gb269, _, none⟩) NB296_269.out _).trans (((cell_far (p := ⟨gb269, _, none⟩) NB296_269.out _).trans (((cell_far (p := ⟨gb269, _, none⟩) NB296_269.out _).trans (hHeld.2.2.2.2.2.2.1)))))))), ((cell_far (p := ⟨gb269, _, none⟩) NB296_269.out _).trans (((cell_far (p := ⟨gb269, _, none⟩) NB296_269.out _).trans (((cell_far (p := ⟨gb269, _, none⟩) NB296_269.out _).trans (((cell_far (p := ⟨gb269, _, none⟩) NB296_269.out _).trans (hHeld.2.2.2.2.2.2.2.1)))))))), ((cell_far (p := ⟨gb269, _, none⟩) NB296_269.out _).trans (((cell_far (p := ⟨gb269, _, none⟩) NB296_269.out _).trans (((cell_far (p := ⟨gb269, _, none⟩) NB296_269.out _).trans (((cell_far (p := ⟨gb269, _, none⟩) NB296_269.out _).trans (hHeld.2.2.2.2.2.2.2.2))))))))⟩ (fun hHeld => ?_)
                                          clear hK K
                                          refine done_ (done_of HT_.out (by kernel_rfl)) ?_
                                          try go_wp2
                                          go_roundg k5
                                          case measure => have := HK1.out; have := HJ6.out; have := HK3.out; have := HJ50.out; have := HK5.out; omega
                                          case rel => exact ⟨(x4_3.extract (t288 : Int).toNat x4_3.size), (x10_3), (t292), (t293), (t294), (t295), (by first | rfl | (simp; done) | (simp [*]; done)), (by first | rfl | (simp; done) | (simp [*]; done)), H', ⟨by have := HK1.out; have := HJ6.out; have := HK3.out; have := HJ50.out; have := HK5.out; omega⟩, ⟨by (with_reducible repeat (first | apply Kd.R_alloc | apply Kd.R_drewN | apply Kd.R_drew)); exact Kd.R_mono (Kd.R_far (p := ⟨gb269, 3, none⟩) (Kd.R_far (p := ⟨gb269, 2, none⟩) (Kd.R_far (p := ⟨gb269, 1, none⟩) (Kd.R_far (p := ⟨gb269, 0, none⟩) (Kd.R_types HO_5.out BK269.out (by decide)) (fun _ hk => hk.2) (.int .i64 t292)) (fun _ hk => hk.2) (.int .i64 t293)) (fun _ hk => hk.2) (.int .u32 t294)) (fun _ hk => hk.2) (.int .i32 t295)) (fun _ hk => trivial)⟩, ⟨by (with_reducible repeat (first | refine blk_drewN ?_ _ | refine blk_drew ?_ | refine blk_alloc ?_ _)); refine blk_put (cs := #[.int .i64 t292, .int .i64 t293, .int .u32 t294, .int .i32 x270003_3]) ?_ 3 _ rfl; (with_reducible repeat (first | refine blk_drewN ?_ _ | refine blk_drew ?_ | refine blk_alloc ?_ _)); refine blk_put (cs := #[.int .i64 t292, .int .i64 t293, .int .u32 x270002_3, .int .i32 x270003_3]) ?_ 2 _ rfl; (with_reducible repeat (first | refine blk_drewN ?_ _ | refine blk_drew ?_ | refine blk_alloc ?_ _)); refine blk_put (cs := #[.int .i64 t292, .int .i64 x270001_3, .int .u32 x270002_3, .int .i32 x270003_3]) ?_ 1 _ rfl; (with_reducible repeat (first | refine blk_drewN ?_ _ | refine blk_drew ?_ | refine blk_alloc ?_ _)); refine blk_put (cs := #[.int .i64 x270000_3, .int .i64 x270001_3, .int .u32 x270002_3, .int .i32 x270003_3]) ?_ 0 _ rfl; (with_reducible repeat (first | refine blk_drewN ?_ _ | refine blk_drew ?_ | refine blk_alloc ?_ _)); exact BK269.out⟩, ⟨by repeat (first | (with_reducible first | exact HB.out | apply below_alloc | apply pw_below_drewN | apply below_drew1 | refine below_set ?_ GE269.out | refine below_set ?_ GE296.out) | exact HB.out)⟩⟩
                                        · rw [if_neg c105] at H
                                          exact absurd H (by simp)
                                      · rw [if_neg c104] at H
                                        exact absurd H (by simp)
                      · rw [if_neg c48] at H
                        have c48b0 : decide (0 < (x4_3.size : Int)) = false := decide_eq_false c48
                        have c48b1 : decide (0 < x4_3.size) = false := decide_eq_false (by omega)
                        clear c48
                        by_cases c113 : x10_3 = (x5_1.length : Int)
                        · rw [if_pos c113] at H
                          have c113b0 : (x10_3 == (x5_1.length : Int)) = true := beq_iff_eq.mpr c113
                          have c113b1 : (x10_3 != (x5_1.length : Int)) = false := bne_eq_false_iff_eq.mpr c113
                          clear c113
                          obtain rfl := Option.some.inj H
                          obtain ⟨Ao114, co114, eo114⟩ := Kd.R_slice HO_5.out
                          subst eo114
                          have hcz115_0 : wr.cell? ⟨gb269, 0, none⟩ = some (.int .i64 x270000_3) := (blk_cell BK269.out 0).trans rfl
                          have hcz115_1 : wr.cell? ⟨gb269, 1, none⟩ = some (.int .i64 x270001_3) := (blk_cell BK269.out 1).trans rfl
                          have hcz115_2 : wr.cell? ⟨gb269, 2, none⟩ = some (.int .u32 x270002_3) := (blk_cell BK269.out 2).trans rfl
                          have hcz115_3 : wr.cell? ⟨gb269, 3, none⟩ = some (.int .i32 x270003_3) := (blk_cell BK269.out 3).trans rfl
                          have hfz115_0 := blk_frozen BK269.out 0
                          have hfz115_1 := blk_frozen BK269.out 1
                          have hfz115_2 := blk_frozen BK269.out 2
                          have hfz115_3 := blk_frozen BK269.out 3
                          go_wp2
                          go_ret
                          exact ⟨by first | rfl | (simp [errW_none, errW_some] <;> rfl) | (simp [*, errW_none, errW_some] <;> rfl), by repeat (first | (with_reducible first | exact HB.out | apply below_alloc | apply pw_below_drewN | apply below_drew1 | refine below_set ?_ GE269.out) | exact HB.out)⟩
                        · rw [if_neg c113] at H
                          have c113b0 : (x10_3 == (x5_1.length : Int)) = false := beq_eq_false_iff_ne.mpr c113
                          have c113b1 : (x10_3 != (x5_1.length : Int)) = true := bne_iff_ne.mpr c113
                          obtain rfl := Option.some.inj H
                          obtain ⟨Ao116, co116, eo116⟩ := Kd.R_slice HO_5.out
                          subst eo116
                          go_wp2
                          go_ret
                          exact ⟨by first | rfl | (simp [errW_none, errW_some] <;> rfl) | (simp [*, errW_none, errW_some] <;> rfl), by repeat (first | (with_reducible first | exact HB.out | apply below_alloc | apply pw_below_drewN | apply below_drew1 | refine below_set ?_ GE269.out) | exact HB.out)⟩
                · rw [if_neg c44] at H
                  exact absurd H (by simp)
              · rw [if_neg c43] at H
                have c43b0 : (t283 == 0) = false := beq_eq_false_iff_ne.mpr c43
                have c43b1 : (t283 != 0) = true := bne_iff_ne.mpr c43
                obtain rfl := Option.some.inj H
                have hcz117_0 : wc.cell? ⟨gb269, 0, none⟩ = some (.int .i64 x270000_1) := (blk_cell BK269.out 0).trans rfl
                have hcz117_1 : wc.cell? ⟨gb269, 1, none⟩ = some (.int .i64 x270001_1) := (blk_cell BK269.out 1).trans rfl
                have hcz117_2 : wc.cell? ⟨gb269, 2, none⟩ = some (.int .u32 x270002_1) := (blk_cell BK269.out 2).trans rfl
                have hcz117_3 : wc.cell? ⟨gb269, 3, none⟩ = some (.int .i32 x270003_1) := (blk_cell BK269.out 3).trans rfl
                have hfz117_0 := blk_frozen BK269.out 0
                have hfz117_1 := blk_frozen BK269.out 1
                have hfz117_2 := blk_frozen BK269.out 2
                have hfz117_3 := blk_frozen BK269.out 3
                go_wp2_with (first | ((with_reducible refine gate_callee (f := 21) rfl ?_); refine goesL_ (some 50) rfl rfl Try.func21 (by kernel_rfl) rfl #[.agg #[.int .i64 x270000_1, .int .i64 x270001_1, .int .u32 x270002_1, .int .i32 x270003_1]] rfl (by (try simp only [List.map_toArray, List.map_cons, List.map_nil]); first | done | rfl | (simp only [List.length_drop, List.length_take]; rfl)) ?_; (with_reducible refine (hz_End.calls x270000_1 x270001_1 x270002_1 x270003_1 t282 t283 _ A42.out).mono ?_); rintro e w118 ⟨rfl, hb⟩; refine ⟨_, rfl, ?_⟩; have n0_ := Aside0.mk (Kd.R_below (by (with_reducible repeat (first | apply Kd.R_alloc | apply Kd.R_drewN | apply Kd.R_drew)); exact HO_5.out) hb); have n1_ := Aside0.mk (blk_below (g := gb269) (o := .cells #[.int .i64 x270000_1, .int .i64 x270001_1, .int .u32 x270002_1, .int .i32 x270003_1] 25 (0, 0)) (by (with_reducible repeat (first | refine blk_drewN ?_ _ | refine blk_drew ?_ | refine blk_alloc ?_ _)); exact BK269.out) hb); have n2_ := Aside0.mk (below_step (by repeat (first | (with_reducible first | exact HB.out | apply below_alloc | apply pw_below_drewN | apply below_drew1 | refine below_set ?_ GE269.out) | exact HB.out)) hb); clear HO_5; clear BK269; clear HB; have HO_5 := n0_; have BK269 := n1_; have HB := n2_; clear n0_ n1_ n2_; (try clear hb); (try clear hb2); (try clear hk); (try clear hi)))
                go_ret
                exact ⟨by first | rfl | (simp [errW_none, errW_some] <;> rfl) | (simp [*, errW_none, errW_some] <;> rfl), by repeat (first | (with_reducible first | exact HB.out | apply below_alloc | apply pw_below_drewN | apply below_drew1 | refine below_set ?_ GE269.out) | exact HB.out)⟩
  · replace c3 := Bool.eq_false_iff.mpr c3
    subst c3
    have H1 : (some false) = some r := by rw [if_neg (show ¬ (false = true) by decide)] at H; exact H
    clear H
    have H := H1
    clear H1
    obtain rfl := Option.some.inj H
    go_enter Try.func6, Try.ntmps6
    go_wp2_with (first | ((with_reducible refine gate_callee (f := 27) rfl ?_); refine goesL_ (some 13) rfl rfl Try.func27 (by kernel_rfl) rfl #[] rfl (by (try simp only [List.map_toArray, List.map_cons, List.map_nil]); first | done | rfl | (simp only [List.length_drop, List.length_take]; rfl)) ?_; (with_reducible refine (dragomanlaw20_works.calls k  false _ A2.out).mono ?_); rintro e w119 ⟨rfl, hb⟩; refine ⟨_, rfl, ?_⟩; have n0_ := Aside0.mk (below_step (by repeat (first | (with_reducible first | exact HB.out | apply below_alloc | apply pw_below_drewN | apply below_drew1) | exact HB.out)) hb); clear HB; have HB := n0_; clear n0_; (try clear hb); (try clear hb2); (try clear hk); (try clear hi)))
    go_ret
    exact ⟨by first | rfl | (simp [errW_none, errW_some] <;> rfl) | (simp [*, errW_none, errW_some] <;> rfl), by repeat (first | (with_reducible first | exact HB.out | apply below_alloc | apply pw_below_drewN | apply below_drew1) | exact HB.out)⟩

/-- THE ONE PURE STATEMENT of dragomanlaw20_HzBack: yours. -/
def dragomanlaw20_HzBack.Pure : Prop := ∀ (l0 : List Int), l0.length ≤ maxLen → l0.length * 4 ≤ 140737488351232 → (∀ x ∈ l0, (Lit.int .i32 x).wf = true) → ∃ k, dragomanlaw20_HzBack.f k l0 = some true
theorem dragomanlaw20_HzBack.walk (P : dragomanlaw20_HzBack.Pure) (a0 : Option Addr) (len0 cap0 : Nat) (z0 : List Int) (w : World) (w0 : (a0 = none ∧ len0 = 0 ∧ cap0 = 0 ∧ z0 = []) ∨ ∃ x, a0 = some x ∧ len0 ≤ cap0 ∧ cap0 ≤ maxLen ∧ z0.length = cap0 ∧ (∀ i, i < z0.length → w.cell? (x.add i) = some (.int .i32 (z0.getD i 0))) ∧ ∀ n ∈ z0, (Lit.int .i32 n).wf = true) (y0 : len0 * 4 ≤ 140737488351232) :
    Calls Try.prog 6 #[.slice a0 len0 cap0] w fun e w' => e = .returned (.bool true) ∧ Below w.heap.size w w' := by
  obtain ⟨l0, rfl, hr0, hm0, hw0, hc0⟩ := ReadsInt.ofRowC w0
  obtain ⟨k, h⟩ := P l0 hm0 y0 hw0
  refine (dragomanlaw20_HzBack.calls k _ _ l0 true w (Kd.C_of_reads (d := (0 : Int)) (h1 := fun _ => rfl) hr0) hc0 h).mono ?_
  rintro e w' ⟨rfl, hd⟩
  exact ⟨rfl, hd⟩

end Go.Proofs.Ytenmanionddamaa.Q
