/- Contracts of functions that the laws reach: each call answers what the plain function beside it answers. No conditions but those that each theorem states. (Written by a patched copy of the print, wip/gen/patch_print.py, over contracts of our own.) -/
import Derived.Test.YtenmanionddamaaQdragomanlaw21Iso2022Backa
namespace Go.Proofs.Ytenmanionddamaa.Q
open Go.RowKit Go.Proofs.YtenmanionddamaaW.PrintWords Go.Proofs.YtenmanionddamaaW.PrintLast Go.Proofs.YtenmanionddamaaW.PrintMore
attribute [local go_sem] max2_int min2_int max_two min_two max_three min_three max_four min_four   -- for this text's walks alone
set_option linter.unusedVariables false
set_option linter.unusedSimpArgs false
set_option maxHeartbeats 8000000 in
set_option maxRecDepth 100000 in
theorem dragomanlaw21_Iso2022Back.calls (k : Nat) (a0 : Bool) (A1 : Option Addr) (c1 : Nat) (l1 : List Int) (r : Bool) (w : World) (hr1 : Kd.C (Kd.int .i32) w A1 l1.length l1) (hc1 : l1.length ≤ c1) (h : dragomanlaw21_Iso2022Back.f k a0 l1 = some r) :
  Calls Try.prog 16 #[.bool a0, .slice A1 l1.length c1] w fun e w' => e = .returned (.bool r) ∧ Below w.heap.size w w' := by
 have hu25 := Try.underlying25
 have hu27 := Try.underlying27
 have hu36 := Try.underlying36
 have HR1 := Aside0.mk hr1
 have HC1 := Aside0.mk hc1
 clear hr1 hc1
 have HB := Aside0.mk (Below.refl w.heap.size w)
 have H : ((dragomanlaw21_works.f k).bind fun t268 => (if t268 = true then (if a0 = true then (dragomanlaw21_Iso2022Back.j0 k a0 l1 88) else (dragomanlaw21_Iso2022Back.j0 k a0 l1 83)) else (some false))) = some r := h
 clear h
 replace H := Option.bind_eq_some_iff.mp H
 obtain ⟨t268, A30, H⟩ := H
 replace H : (if t268 = true then (if a0 = true then (dragomanlaw21_Iso2022Back.j0 k a0 l1 88) else (dragomanlaw21_Iso2022Back.j0 k a0 l1 83)) else (some false)) = some r := H
 have A3 := Aside0.mk A30
 clear A30
 by_cases c4 : t268 = true
 ·subst c4
  have H1 : (if a0 = true then (dragomanlaw21_Iso2022Back.j0 k a0 l1 88) else (dragomanlaw21_Iso2022Back.j0 k a0 l1 83)) = some r := by rw [if_pos rfl] at H; exact H
  clear H
  have H := H1
  clear H1
  have HC5 := Aside0.mk H
  clear H
  go_enter Try.func16, Try.ntmps16
  go_upto_if 19 with (first | ((with_reducible refine gate_callee (f := 40) rfl ?_); refine goesL_ (some 17) rfl rfl Try.func40 (by kernel_rfl) rfl #[] rfl (by (try simp only [List.map_toArray, List.map_cons, List.map_nil]); first | done | rfl | (simp only [List.length_drop, List.length_take]; rfl)) ?_; (with_reducible refine (dragomanlaw21_works.calls k  true _ A3.out).mono ?_); rintro e w6 ⟨rfl, hb⟩; refine ⟨_, rfl, ?_⟩; have n0_ := Aside0.mk (below_step (by repeat (first | (with_reducible first | exact HB.out | apply below_alloc | apply pw_below_drewN | apply below_drew1) | exact HB.out)) hb); clear HB; have HB := n0_; clear n0_; (try clear hb); (try clear hb2); (try clear hk); (try clear hi)))
  (try simp only [Act.put, List.setIfInBounds_toArray, List.set_cons_zero, List.set_cons_succ])
  go_cut [5] (fun v5 wc => ∃ (kq : Nat) (x5_4 : Int), v5 = .int .i64 x5_4 ∧ Aside0 (dragomanlaw21_Iso2022Back.j0 kq a0 l1 x5_4 = some r) ∧ Aside0 (kq ≤ k) ∧ Aside0 (Below w.heap.size w wc))
  case first =>
   have H := HC5.out
   clear HC5
   by_cases c7 : a0 = true
   ·subst c7
    have H1 : (dragomanlaw21_Iso2022Back.j0 k true l1 88) = some r := by rw [if_pos rfl] at H; exact H
    clear H
    have H := H1
    clear H1
    have H' := Aside0.mk H
    clear H
    go_wp2
    go_meet
    case rel => exact ⟨_, (88), (by first | rfl | (simp; done) | (simp [*]; done)), H', ⟨by first | omega | exact Nat.le_refl _⟩, ⟨by repeat (first | (with_reducible first | exact HB.out | apply below_alloc | apply pw_below_drewN | apply below_drew1) | exact HB.out)⟩⟩
   ·replace c7 := Bool.eq_false_iff.mpr c7
    subst c7
    have H1 : (dragomanlaw21_Iso2022Back.j0 k false l1 83) = some r := by rw [if_neg (show ¬ (false = true) by decide)] at H; exact H
    clear H
    have H := H1
    clear H1
    have H' := Aside0.mk H
    clear H
    go_wp2
    go_meet
    case rel => exact ⟨_, (83), (by first | rfl | (simp; done) | (simp [*]; done)), H', ⟨by first | omega | exact Nat.le_refl _⟩, ⟨by repeat (first | (with_reducible first | exact HB.out | apply below_alloc | apply pw_below_drewN | apply below_drew1) | exact HB.out)⟩⟩
  case rest =>
   clear HC5
   (try clear c1); (try clear p2); (try clear c4); (try clear c7)
   obtain ⟨kq, x5_4, rfl, HA, HJ4, HB⟩ := hcut
   cases kq with
   | zero => exact absurd HA.out (by simp [dragomanlaw21_Iso2022Back.j0])
   | succ kj4 =>
    have H := HA.out
    clear HA
    simp only [dragomanlaw21_Iso2022Back.j0] at H
    have H' := Aside0.mk H
    clear H
    go_wp2_with (first | ((with_reducible refine gate_dst (N := 6) rfl ?_); (try (refine gate_guard (by rfl) ?_; dsimp only)); refine box_event ?hg (N := 6) ?hd (cs := #[.int .i64 0, .int .i64 0, .int .u32 0, .int .i32 0]) (t := 25) ?hr ?_; (case hd => rfl); (case hg => rfl); (case hr => first | (go_simp; done) | (go_simp; rfl)); intro gb269 hg w8 hbox hb; have n0_ := Aside0.mk (below_step (by repeat (first | (with_reducible first | exact HB.out | apply below_alloc | apply pw_below_drewN | apply below_drew1) | exact HB.out)) hb); have n1_ := Aside0.mk (hbox); have n2_ := Aside0.mk ((by rw [hg]; exact (below_size (by repeat (first | (with_reducible first | exact HB.out | apply below_alloc | apply pw_below_drewN | apply below_drew1) | exact HB.out))) : w.heap.size ≤ gb269)); have n3_ := Aside0.mk ((by rw [hg]; exact (below_size (by repeat (first | (with_reducible first | exact HB.out | apply below_alloc | apply pw_below_drewN | apply below_drew1) | exact HB.out))) : w.heap.size ≤ gb269)); clear HB; have HB := n0_; have BK269 := n1_; have GW269 := n2_; have GE269 := n3_; clear n0_ n1_ n2_ n3_; clear hb hbox hg; have hcz9_0 : w8.cell? ⟨gb269, 0, none⟩ = some (.int .i64 0) := (blk_cell BK269.out 0).trans rfl; have hcz9_1 : w8.cell? ⟨gb269, 1, none⟩ = some (.int .i64 0) := (blk_cell BK269.out 1).trans rfl; have hcz9_2 : w8.cell? ⟨gb269, 2, none⟩ = some (.int .u32 0) := (blk_cell BK269.out 2).trans rfl; have hcz9_3 : w8.cell? ⟨gb269, 3, none⟩ = some (.int .i32 0) := (blk_cell BK269.out 3).trans rfl; have hfz9_0 := blk_frozen BK269.out 0; have hfz9_1 := blk_frozen BK269.out 1; have hfz9_2 := blk_frozen BK269.out 2; have hfz9_3 := blk_frozen BK269.out 3))
    go_loopg [7, 8, 9] kj4 (fun kq v7 v8 v9 w' => ∃ (x7_2 : ByteArray) (x8_2 : List Int) (x9_2 : Int) (x270000_2 : Int) (x270001_2 : Int) (x270002_2 : Int) (x270003_2 : Int), v7 = .string x7_2 ∧ v9 = .int .i64 x9_2 ∧ Aside0 (dragomanlaw21_Iso2022Back.l0 kq a0 l1 x5_4 x7_2 x8_2 x9_2 x270000_2 x270001_2 x270002_2 x270003_2 = some r) ∧ Aside0 (kq ≤ kj4) ∧ Aside0 (Kd.R (Kd.int .i32) 21 w' w.heap.size (fun _ => True) v8 x8_2) ∧ Aside0 (w'.heap[gb269]? = some (.cells #[.int .i64 x270000_2, .int .i64 x270001_2, .int .u32 x270002_2, .int .i32 x270003_2] 25 (0, 0))) ∧ Aside0 (Below w.heap.size w w'))
    case atStart => exact ⟨((⟨#[]⟩ : ByteArray)), (([] : List Int)), (0), (0), (0), (0), (0), (by first | rfl | (simp; done) | (simp [*]; done)), (by first | rfl | (simp; done) | (simp [*]; done)), H', ⟨Nat.le_refl _⟩, ⟨by first | exact Kd.R_nil _ _ _ _ _ | exact Kd.N_nil _ _ _ _ _ | exact Kd.V_nil _ _ _ _ _ | exact Kd.Q_nil _ _ _ _ _ | exact Kd.S_nil _ _ _ _ _⟩, ⟨by (with_reducible repeat (first | refine bN_ ?_ _ | refine bD_ ?_ | refine bA_ ?_ _)); refine blk_put (cs := #[.int .i64 0, .int .i64 0, .int .u32 0, .int .i32 0]) ?_ 3 _ rfl; (with_reducible repeat (first | refine bN_ ?_ _ | refine bD_ ?_ | refine bA_ ?_ _)); refine blk_put (cs := #[.int .i64 0, .int .i64 0, .int .u32 0, .int .i32 0]) ?_ 2 _ rfl; (with_reducible repeat (first | refine bN_ ?_ _ | refine bD_ ?_ | refine bA_ ?_ _)); refine blk_put (cs := #[.int .i64 0, .int .i64 0, .int .u32 0, .int .i32 0]) ?_ 1 _ rfl; (with_reducible repeat (first | refine bN_ ?_ _ | refine bD_ ?_ | refine bA_ ?_ _)); refine blk_put (cs := #[.int .i64 0, .int .i64 0, .int .u32 0, .int .i32 0]) ?_ 0 _ rfl; (with_reducible repeat (first | refine bN_ ?_ _ | refine bD_ ?_ | refine bA_ ?_ _)); exact BK269.out⟩, ⟨by repeat (first | (with_reducible first | exact HB.out | apply below_alloc | apply pw_below_drewN | apply below_drew1 | refine below_set ?_ GE269.out) | exact HB.out)⟩⟩
    case round =>
     clear H'
     (try clear c1); (try clear p2); (try clear c4); (try clear c7); (try clear hcz9_0); (try clear hcz9_1); (try clear hcz9_2); (try clear hcz9_3); (try clear hfz9_0); (try clear hfz9_1); (try clear hfz9_2); (try clear hfz9_3); (try clear p2)
     obtain ⟨x7_2, x8_2, x9_2, x270000_2, x270001_2, x270002_2, x270003_2, rfl, rfl, HA, HK2, HO_8, BK269, HB⟩ := hrel
     cases gk with
     | zero => exact absurd HA.out (by simp [dragomanlaw21_Iso2022Back.l0])
     | succ k2 =>
      have H := HA.out
      clear HA
      simp only [dragomanlaw21_Iso2022Back.l0] at H
      have HC10 := Aside0.mk H
      clear H
      go_upto_region 10 with (fail)
      go_cut [28] (fun v28 wc => ∃ (kq : Nat) (x28_9 : Bool), v28 = .bool x28_9 ∧ Aside0 (dragomanlaw21_Iso2022Back.j2 kq a0 l1 x5_4 x7_2 x8_2 x9_2 x28_9 x270000_2 x270001_2 x270002_2 x270003_2 = some r) ∧ Aside0 (kq ≤ k2) ∧ Aside0 (Kd.R (Kd.int .i32) 21 wc w.heap.size (fun _ => True) u8 x8_2) ∧ Aside0 (wc.heap[gb269]? = some (.cells #[.int .i64 x270000_2, .int .i64 x270001_2, .int .u32 x270002_2, .int .i32 x270003_2] 25 (0, 0))) ∧ Aside0 (Below w.heap.size w wc))
      case first =>
       have H := HC10.out
       clear HC10
       by_cases c11 : x9_2 < (l1.length : Int)
       ·rw [if_pos c11] at H
        have c11b0 : decide (x9_2 < (l1.length : Int)) = true := decide_eq_true c11
        clear c11
        (first | rw [c11b0] | (simp only [i64_w, i32_w]; rw [c11b0]) | skip)
        have H' := Aside0.mk H
        clear H
        go_wp2
        go_meet
        case rel => exact ⟨_, (decide (x9_2 < 200)), (by first | rfl | (simp; done) | (simp [*]; done)), H', ⟨by have := HJ4.out; have := HK2.out; first | omega | exact Nat.le_refl _⟩, ⟨by (with_reducible repeat (first | apply Kd.R_alloc | apply Kd.R_drewN | apply Kd.R_drew)); exact HO_8.out⟩, ⟨by (with_reducible repeat (first | refine bN_ ?_ _ | refine bD_ ?_ | refine bA_ ?_ _)); exact BK269.out⟩, ⟨by repeat (first | (with_reducible first | exact HB.out | apply below_alloc | apply pw_below_drewN | apply below_drew1 | refine below_set ?_ GE269.out) | exact HB.out)⟩⟩
       ·rw [if_neg c11] at H
        have c11b0 : decide (x9_2 < (l1.length : Int)) = false := decide_eq_false c11
        clear c11
        (first | rw [c11b0] | (simp only [i64_w, i32_w]; rw [c11b0]) | skip)
        have H' := Aside0.mk H
        clear H
        go_wp2
        go_meet
        case rel => exact ⟨_, (false), (by first | rfl | (simp; done) | (simp [*]; done)), H', ⟨by have := HJ4.out; have := HK2.out; first | omega | exact Nat.le_refl _⟩, ⟨by (with_reducible repeat (first | apply Kd.R_alloc | apply Kd.R_drewN | apply Kd.R_drew)); exact HO_8.out⟩, ⟨by (with_reducible repeat (first | refine bN_ ?_ _ | refine bD_ ?_ | refine bA_ ?_ _)); exact BK269.out⟩, ⟨by repeat (first | (with_reducible first | exact HB.out | apply below_alloc | apply pw_below_drewN | apply below_drew1 | refine below_set ?_ GE269.out) | exact HB.out)⟩⟩
      case rest =>
       clear HC10
       (try clear c1); (try clear p2); (try clear c4); (try clear c7); (try clear c11); (try clear c11b0); (try clear hcz9_0); (try clear hcz9_1); (try clear hcz9_2); (try clear hcz9_3); (try clear hfz9_0); (try clear hfz9_1); (try clear hfz9_2); (try clear hfz9_3); (try clear p2)
       obtain ⟨kq, x28_9, rfl, HA, HJ9, HO_8, BK269, HB⟩ := hcut
       cases kq with
       | zero => exact absurd HA.out (by simp [dragomanlaw21_Iso2022Back.j2])
       | succ kj9 =>
        have H := HA.out
        clear HA
        simp only [dragomanlaw21_Iso2022Back.j2] at H
        by_cases c12 : x28_9 = true
        ·subst c12
         have H1 : (if 0 ≤ x9_2 then (if x9_2 < (l1.length : Int) then ((iso2022_Set.f kj9 x5_4 x270000_2 x270001_2 x270002_2 x270003_2 (rd l1 x9_2)).bind fun bt271 => (if bt271.1 = 0 then (if (bt271.2.1.size : Int) > 8 then (some false) else (if x7_2.size + bt271.2.1.size ≤ 9223372036854775807 then (if x8_2.length < 35184372088832 then (dragomanlaw21_Iso2022Back.l0 kj9 a0 l1 x5_4 (x7_2 ++ bt271.2.1) (x8_2 ++ [rd l1 x9_2]) (wrap64 (x9_2 + 1)) bt271.2.2.1 bt271.2.2.2.1 bt271.2.2.2.2.1 bt271.2.2.2.2.2) else (none)) else (none))) else (dragomanlaw21_Iso2022Back.l0 kj9 a0 l1 x5_4 x7_2 x8_2 (wrap64 (x9_2 + 1)) x270000_2 x270001_2 x270002_2 x270003_2))) else (none)) else (none)) = some r := by rw [if_pos rfl] at H; exact H
         clear H
         have H := H1
         clear H1
         by_cases c13 : 0 ≤ x9_2
         ·rw [if_pos c13] at H
          have c13b0 : decide (0 ≤ x9_2) = true := decide_eq_true c13
          clear c13
          by_cases c14 : x9_2 < (l1.length : Int)
          ·rw [if_pos c14] at H
           have c14b0 : decide (x9_2 < (l1.length : Int)) = true := decide_eq_true c14
           clear c14
           replace H := Option.bind_eq_some_iff.mp H
           obtain ⟨⟨t271, t272, t273, t274, t275, t276⟩, A150, H⟩ := H
           replace H : (if t271 = 0 then (if (t272.size : Int) > 8 then (some false) else (if x7_2.size + t272.size ≤ 9223372036854775807 then (if x8_2.length < 35184372088832 then (dragomanlaw21_Iso2022Back.l0 kj9 a0 l1 x5_4 (x7_2 ++ t272) (x8_2 ++ [rd l1 x9_2]) (wrap64 (x9_2 + 1)) t273 t274 t275 t276) else (none)) else (none))) else (dragomanlaw21_Iso2022Back.l0 kj9 a0 l1 x5_4 x7_2 x8_2 (wrap64 (x9_2 + 1)) x270000_2 x270001_2 x270002_2 x270003_2)) = some r := H
           have A15 := Aside0.mk A150
           clear A150
           by_cases c16 : t271 = 0
           ·rw [if_pos c16] at H
            have c16b0 : (t271 == 0) = true := beq_iff_eq.mpr c16
            have c16b1 : (t271 != 0) = false := bne_eq_false_iff_eq.mpr c16
            clear c16
            by_cases c17 : (t272.size : Int) > 8
            ·rw [if_pos c17] at H
             have c17b0 : decide (8 < (t272.size : Int)) = true := decide_eq_true c17
             have c17b1 : decide (8 < t272.size) = true := decide_eq_true (by omega)
             clear c17
             obtain rfl := Option.some.inj H
             try go_wp2
             have n0_ := Aside0.mk (Kd.R_drew HO_8.out)
             have n1_ := Aside0.mk (blk_drew BK269.out)
             have n2_ := Aside0.mk (below_drew1 HB.out)
             clear HO_8
             clear BK269
             clear HB
             have HO_8 := n0_
             have BK269 := n1_
             have HB := n2_
             clear n0_ n1_ n2_
             have p270 : 0 ≤ (x9_2 : Int) := of_decide_eq_true (by first | (with_reducible assumption) | assumption)
             have q270 : x9_2 < (l1.length : Int) := of_decide_eq_true (by first | (with_reducible assumption) | assumption)
             obtain ⟨ad270, e270, hx270_0⟩ := Kd.at_int HR1.out x9_2 p270 q270
             have hw270_0 := hx270_0
             cases e270
             replace hx270_0 := (HB.out.cell (World.block_lt_of_cell? w _ hx270_0)).trans hx270_0
             replace p270 := eq_true p270
             replace q270 := eq_true q270
             refine start_ (n := 9) (S := fun w' => w'.cell? ⟨gb269, 0, none⟩ = some (.int .i64 x270000_2) ∧ w'.cell? ⟨gb269, 1, none⟩ = some (.int .i64 x270001_2) ∧ w'.cell? ⟨gb269, 2, none⟩ = some (.int .u32 x270002_2) ∧ w'.cell? ⟨gb269, 3, none⟩ = some (.int .i32 x270003_2) ∧ w'.cell? (ad270.add (x9_2).toNat) = some (.int .i32 (rd l1 x9_2))) (ds := []) #[false, false, false, false, false, false, false, false, false] (by kernel_rfl) rfl rfl ⟨(blk_cell BK269.out 0).trans rfl, (blk_cell BK269.out 1).trans rfl, (blk_cell BK269.out 2).trans rfl, (blk_cell BK269.out 3).trans rfl, ((HB.out.cell (World.block_lt_of_cell? w _ hw270_0)).trans hw270_0)⟩ (fun hHeld => ?_); refine with_tabW dragomanlaw21_Iso2022Back.tab12 dragomanlaw21_Iso2022Back.bits12 (fun HT_ HW_ => ?_)
             generalize wc.drew = w18 at HO_8 BK269 HB hx270_0 hHeld ⊢
             refine pure_ (i := 0) (N := some 31) (v := ?_) (a' := ?_) #[true, false, false, false, false, false, false, false, false] rfl rfl (any_of HT_.out (by kernel_rfl)) (fun _ _ _ h => h) (Or.inl ⟨by rfl, ?_⟩) ?_ ?_
             rotate_left
             ·intro w'
              go_simp
              with_reducible rfl
             rotate_left
             ·simp only [Act.put, List.setIfInBounds_toArray, List.set_cons_zero, List.set_cons_succ, i64_w, i32_w]
              rfl
             refine pure_ (i := 2) (N := some 33) (v := ?_) (a' := ?_) #[true, false, true, false, false, false, false, false, false] rfl rfl (any_of HT_.out (by kernel_rfl)) (fun _ _ _ h => h) (Or.inl ⟨by rfl, ?_⟩) ?_ ?_
             rotate_left
             ·intro w'
              go_simp
              with_reducible rfl
             rotate_left
             ·simp only [Act.put, List.setIfInBounds_toArray, List.set_cons_zero, List.set_cons_succ, i64_w, i32_w]
              rfl
             refine pure_ (i := 3) (N := some 34) (v := ?_) (a' := ?_) #[true, false, true, true, false, false, false, false, false] rfl rfl (any_of HT_.out (by kernel_rfl)) (fun _ _ _ h => h) (Or.inl ⟨by rfl, ?_⟩) ?_ ?_
             rotate_left
             ·intro w'
              go_simp
              with_reducible rfl
             rotate_left
             ·simp only [Act.put, List.setIfInBounds_toArray, List.set_cons_zero, List.set_cons_succ, i64_w, i32_w]
              rfl
             refine pure_ (i := 4) (N := some 35) (v := ?_) (a' := ?_) #[true, false, true, true, true, false, false, false, false] rfl rfl (any_of HT_.out (by kernel_rfl)) (fun _ _ _ h => h) (Or.inl ⟨by rfl, ?_⟩) ?_ ?_
             rotate_left
             ·intro w'
              go_simp
              with_reducible rfl
             rotate_left
             ·simp only [Act.put, List.setIfInBounds_toArray, List.set_cons_zero, List.set_cons_succ, i64_w, i32_w]
              rfl
             refine take_ (i := 1) (N := some 32) (v := ?_) (a' := ?_) #[true, true, true, true, true, false, false, false, false] rfl rfl (take_ofW HT_.out HW_.out (by kernel_rfl)) (fun _ _ _ h => h) (Or.inl ⟨by rfl, ?_⟩) hHeld ?_ ?_
             rotate_left
             ·rintro w' ⟨s0, s1, s2, s3, s4⟩
              go_simp
              with_reducible rfl
             rotate_left
             ·simp only [Act.put, List.setIfInBounds_toArray, List.set_cons_zero, List.set_cons_succ, i64_w, i32_w]
              rfl
             refine take_ (i := 5) (N := some 36) (v := ?_) (a' := ?_) #[true, true, true, true, true, true, false, false, false] rfl rfl (take_ofW HT_.out HW_.out (by kernel_rfl)) (fun _ _ _ h => h) (Or.inl ⟨by rfl, ?_⟩) hHeld ?_ ?_
             rotate_left
             ·rintro w' ⟨s0, s1, s2, s3, s4⟩
              go_simp
              with_reducible rfl
             rotate_left
             ·simp only [Act.put, List.setIfInBounds_toArray, List.set_cons_zero, List.set_cons_succ, i64_w, i32_w]
              rfl
             refine join_ (σ := Nat) 1 #[true, true, true, true, true, true, true, true, false] (fun s_ => [(37, .agg #[.int .i64 t271, .string t272, .int .i64 t273, .int .i64 t274, .int .u32 t275, .int .i32 t276]), (10, .pointer (some ⟨s_, 0, none⟩))]) (fun s_ w' => (w'.cell? ⟨gb269, 0, none⟩ = some (.int .i64 x270000_2) ∧ w'.cell? ⟨gb269, 1, none⟩ = some (.int .i64 x270001_2) ∧ w'.cell? ⟨gb269, 2, none⟩ = some (.int .u32 x270002_2) ∧ w'.cell? ⟨gb269, 3, none⟩ = some (.int .i32 x270003_2) ∧ w'.cell? (ad270.add (x9_2).toNat) = some (.int .i32 (rd l1 x9_2))) ∧ (Kd.R (Kd.int .i32) 21 w' w.heap.size (fun _ => True) u8 x8_2) ∧ (w'.heap[gb269]? = some (.cells #[.int .i64 x270000_2, .int .i64 x270001_2, .int .u32 x270002_2, .int .i32 x270003_2] 25 (0, 0))) ∧ (w'.heap[s_]? = some (.cells #[.int .i64 0, .string (⟨#[]⟩ : ByteArray), .int .i64 0, .int .i64 0, .int .u32 0, .int .i32 0] 27 (0, 0))) ∧ (w.heap.size ≤ s_) ∧ (w.heap.size ≤ s_) ∧ (gb269 ≠ s_) ∧ (s_ ≠ gb269) ∧ (Below w.heap.size w w')) ?_ ?_
             rotate_left
             ·intro hCont
              refine two_ (i := 6) (j := 7) (Ni := some 37) (Nj := some 10) #[true, true, true, true, true, true, true, false, false] #[true, true, true, true, true, true, false, true, false] rfl rfl rfl rfl (two_of HT_.out (by kernel_rfl)) (by decide) (by decide) (fun K hK => ?_) (fun K hK => ?_)
              ·skip
               refine goes_ Try.func38 (by kernel_rfl) rfl #[.int .i64 x5_4, .agg #[.int .i64 x270000_2, .int .i64 x270001_2, .int .u32 x270002_2, .int .i32 x270003_2], .int .i32 (rd l1 x9_2)] (by rfl) rfl rfl (by (try simp only [List.map_toArray, List.map_cons, List.map_nil]); first | done | rfl | (simp only [List.length_drop, List.length_take]; rfl)) ?_
               with_reducible refine (iso2022_Set.calls kj9 x5_4 x270000_2 x270001_2 x270002_2 x270003_2 (rd l1 x9_2) t271 t272 t273 t274 t275 t276 _ A15.out).mono ?_
               rintro e w19 ⟨rfl, hb⟩
               refine ⟨_, rfl, ?_⟩
               have n0_ := Aside0.mk (Kd.R_below (by (with_reducible repeat (first | apply Kd.R_alloc | apply Kd.R_drewN | apply Kd.R_drew)); exact HO_8.out) hb)
               have n1_ := Aside0.mk (blk_below (g := gb269) (o := .cells #[.int .i64 x270000_2, .int .i64 x270001_2, .int .u32 x270002_2, .int .i32 x270003_2] 25 (0, 0)) (by (with_reducible repeat (first | refine bN_ ?_ _ | refine bD_ ?_ | refine bA_ ?_ _)); exact BK269.out) hb)
               have n2_ := Aside0.mk (below_step (by repeat (first | (with_reducible first | exact HB.out | apply below_alloc | apply pw_below_drewN | apply below_drew1 | refine below_set ?_ GE269.out) | exact HB.out)) hb)
               clear HO_8
               clear BK269
               clear HB
               have HO_8 := n0_
               have BK269 := n1_
               have HB := n2_
               clear n0_ n1_ n2_
               (try clear hb)
               (try clear hb2)
               (try clear hk)
               (try clear hi)
               refine hK.out _ _ ⟨(blk_cell BK269.out 0).trans rfl, (blk_cell BK269.out 1).trans rfl, (blk_cell BK269.out 2).trans rfl, (blk_cell BK269.out 3).trans rfl, ((HB.out.cell (World.block_lt_of_cell? w _ hw270_0)).trans hw270_0)⟩ (fun hHeld => ?_)
               clear hK K
               refine norm_ (a' := ?_) ?_ ?_
               rotate_left
               ·show Act.put _ (some 37) _ = _
                simp only [Act.put, List.setIfInBounds_toArray, List.set_cons_zero, List.set_cons_succ, i64_w, i32_w]
                rfl
               refine one_ (i := 7) (N := some 10) #[true, true, true, true, true, true, true, true, false] rfl rfl (one_of HT_.out (by kernel_rfl)) (by decide) (fun K hK => ?_)
               refine box_step ?hg (N := 10) ?hd (cs := #[.int .i64 0, .string (⟨#[]⟩ : ByteArray), .int .i64 0, .int .i64 0, .int .u32 0, .int .i32 0]) (t := 27) ?hr ?_; (case hd => rfl); (case hg => rfl); (case hr => first | (go_simp; done) | (go_simp; rfl))
               intro gb277 hg w20 hbox hb
               have n0_ := Aside0.mk (Kd.R_below (by (with_reducible repeat (first | apply Kd.R_alloc | apply Kd.R_drewN | apply Kd.R_drew)); exact HO_8.out) hb)
               have n1_ := Aside0.mk (blk_below (g := gb269) (o := .cells #[.int .i64 x270000_2, .int .i64 x270001_2, .int .u32 x270002_2, .int .i32 x270003_2] 25 (0, 0)) (by (with_reducible repeat (first | refine bN_ ?_ _ | refine bD_ ?_ | refine bA_ ?_ _)); exact BK269.out) hb)
               have n2_ := Aside0.mk (below_step (by repeat (first | (with_reducible first | exact HB.out | apply below_alloc | apply pw_below_drewN | apply below_drew1 | refine below_set ?_ GE269.out) | exact HB.out)) hb)
               have n3_ := Aside0.mk (hbox)
               have n4_ := Aside0.mk ((by rw [hg]; exact (below_size (by repeat (first | (with_reducible first | exact HB.out | apply below_alloc | apply pw_below_drewN | apply below_drew1 | refine below_set ?_ GE269.out) | exact HB.out))) : w.heap.size ≤ gb277))
               have n5_ := Aside0.mk ((by rw [hg]; exact (below_size (by repeat (first | (with_reducible first | exact HB.out | apply below_alloc | apply pw_below_drewN | apply below_drew1 | refine below_set ?_ GE269.out) | exact HB.out))) : w.heap.size ≤ gb277))
               have n6_ := Aside0.mk ((by rw [hg]; exact Nat.ne_of_lt (blk_lt (g := gb269) (o := .cells #[.int .i64 x270000_2, .int .i64 x270001_2, .int .u32 x270002_2, .int .i32 x270003_2] 25 (0, 0)) (by (with_reducible repeat (first | refine bN_ ?_ _ | refine bD_ ?_ | refine bA_ ?_ _)); exact BK269.out)) : gb269 ≠ gb277))
               have n7_ := Aside0.mk ((by rw [hg]; exact Nat.ne_of_gt (blk_lt (g := gb269) (o := .cells #[.int .i64 x270000_2, .int .i64 x270001_2, .int .u32 x270002_2, .int .i32 x270003_2] 25 (0, 0)) (by (with_reducible repeat (first | refine bN_ ?_ _ | refine bD_ ?_ | refine bA_ ?_ _)); exact BK269.out)) : gb277 ≠ gb269))
               clear HO_8
               clear BK269
               clear HB
               have HO_8 := n0_
               have BK269 := n1_
               have HB := n2_
               have BK277 := n3_
               have GW277 := n4_
               have GE277 := n5_
               have NB269_277 := n6_
               have NB277_269 := n7_
               clear n0_ n1_ n2_ n3_ n4_ n5_ n6_ n7_
               clear hb hbox hg
               refine hK.out _ _ ⟨(blk_cell BK269.out 0).trans rfl, (blk_cell BK269.out 1).trans rfl, (blk_cell BK269.out 2).trans rfl, (blk_cell BK269.out 3).trans rfl, ((HB.out.cell (World.block_lt_of_cell? w _ hw270_0)).trans hw270_0)⟩ (fun hHeld => ?_)
               clear hK K
               refine norm_ (a' := ?_) ?_ ?_
               rotate_left
               ·show Act.put _ (some 10) _ = _
                simp only [Act.put, List.setIfInBounds_toArray, List.set_cons_zero, List.set_cons_succ, i64_w, i32_w]
                rfl
               exact norm_ (by simp only [putAll, Act.put, List.setIfInBounds_toArray, List.set_cons_zero, List.set_cons_succ]) (hCont (gb277) _ ⟨hHeld, (by (with_reducible repeat (first | apply Kd.R_alloc | apply Kd.R_drewN | apply Kd.R_drew)); exact HO_8.out), (by (with_reducible repeat (first | refine bN_ ?_ _ | refine bD_ ?_ | refine bA_ ?_ _)); exact BK269.out), (by (with_reducible repeat (first | refine bN_ ?_ _ | refine bD_ ?_ | refine bA_ ?_ _)); exact BK277.out), GW277.out, GE277.out, NB269_277.out, NB277_269.out, (by repeat (first | (with_reducible first | exact HB.out | apply below_alloc | apply pw_below_drewN | apply below_drew1 | refine below_set ?_ GE269.out | refine below_set ?_ GE277.out) | exact HB.out))⟩)
              ·skip
               refine box_step ?hg (N := 10) ?hd (cs := #[.int .i64 0, .string (⟨#[]⟩ : ByteArray), .int .i64 0, .int .i64 0, .int .u32 0, .int .i32 0]) (t := 27) ?hr ?_; (case hd => rfl); (case hg => rfl); (case hr => first | (go_simp; done) | (go_simp; rfl))
               intro gb277 hg w19 hbox hb
               have n0_ := Aside0.mk (Kd.R_below (by (with_reducible repeat (first | apply Kd.R_alloc | apply Kd.R_drewN | apply Kd.R_drew)); exact HO_8.out) hb)
               have n1_ := Aside0.mk (blk_below (g := gb269) (o := .cells #[.int .i64 x270000_2, .int .i64 x270001_2, .int .u32 x270002_2, .int .i32 x270003_2] 25 (0, 0)) (by (with_reducible repeat (first | refine bN_ ?_ _ | refine bD_ ?_ | refine bA_ ?_ _)); exact BK269.out) hb)
               have n2_ := Aside0.mk (below_step (by repeat (first | (with_reducible first | exact HB.out | apply below_alloc | apply pw_below_drewN | apply below_drew1 | refine below_set ?_ GE269.out) | exact HB.out)) hb)
               have n3_ := Aside0.mk (hbox)
               have n4_ := Aside0.mk ((by rw [hg]; exact (below_size (by repeat (first | (with_reducible first | exact HB.out | apply below_alloc | apply pw_below_drewN | apply below_drew1 | refine below_set ?_ GE269.out) | exact HB.out))) : w.heap.size ≤ gb277))
               have n5_ := Aside0.mk ((by rw [hg]; exact (below_size (by repeat (first | (with_reducible first | exact HB.out | apply below_alloc | apply pw_below_drewN | apply below_drew1 | refine below_set ?_ GE269.out) | exact HB.out))) : w.heap.size ≤ gb277))
               have n6_ := Aside0.mk ((by rw [hg]; exact Nat.ne_of_lt (blk_lt (g := gb269) (o := .cells #[.int .i64 x270000_2, .int .i64 x270001_2, .int .u32 x270002_2, .int .i32 x270003_2] 25 (0, 0)) (by (with_reducible repeat (first | refine bN_ ?_ _ | refine bD_ ?_ | refine bA_ ?_ _)); exact BK269.out)) : gb269 ≠ gb277))
               have n7_ := Aside0.mk ((by rw [hg]; exact Nat.ne_of_gt (blk_lt (g := gb269) (o := .cells #[.int .i64 x270000_2, .int .i64 x270001_2, .int .u32 x270002_2, .int .i32 x270003_2] 25 (0, 0)) (by (with_reducible repeat (first | refine bN_ ?_ _ | refine bD_ ?_ | refine bA_ ?_ _)); exact BK269.out)) : gb277 ≠ gb269))
               clear HO_8
               clear BK269
               clear HB
               have HO_8 := n0_
               have BK269 := n1_
               have HB := n2_
               have BK277 := n3_
               have GW277 := n4_
               have GE277 := n5_
               have NB269_277 := n6_
               have NB277_269 := n7_
               clear n0_ n1_ n2_ n3_ n4_ n5_ n6_ n7_
               clear hb hbox hg
               refine hK.out _ _ ⟨(blk_cell BK269.out 0).trans rfl, (blk_cell BK269.out 1).trans rfl, (blk_cell BK269.out 2).trans rfl, (blk_cell BK269.out 3).trans rfl, ((HB.out.cell (World.block_lt_of_cell? w _ hw270_0)).trans hw270_0)⟩ (fun hHeld => ?_)
               clear hK K
               refine norm_ (a' := ?_) ?_ ?_
               rotate_left
               ·show Act.put _ (some 10) _ = _
                simp only [Act.put, List.setIfInBounds_toArray, List.set_cons_zero, List.set_cons_succ, i64_w, i32_w]
                rfl
               refine one_ (i := 6) (N := some 37) #[true, true, true, true, true, true, true, true, false] rfl rfl (one_of HT_.out (by kernel_rfl)) (by decide) (fun K hK => ?_)
               refine goes_ Try.func38 (by kernel_rfl) rfl #[.int .i64 x5_4, .agg #[.int .i64 x270000_2, .int .i64 x270001_2, .int .u32 x270002_2, .int .i32 x270003_2], .int .i32 (rd l1 x9_2)] (by rfl) rfl rfl (by (try simp only [List.map_toArray, List.map_cons, List.map_nil]); first | done | rfl | (simp only [List.length_drop, List.length_take]; rfl)) ?_
               with_reducible refine (iso2022_Set.calls kj9 x5_4 x270000_2 x270001_2 x270002_2 x270003_2 (rd l1 x9_2) t271 t272 t273 t274 t275 t276 _ A15.out).mono ?_
               rintro e w20 ⟨rfl, hb⟩
               refine ⟨_, rfl, ?_⟩
               have n0_ := Aside0.mk (Kd.R_below (by (with_reducible repeat (first | apply Kd.R_alloc | apply Kd.R_drewN | apply Kd.R_drew)); exact HO_8.out) hb)
               have n1_ := Aside0.mk (blk_below (g := gb269) (o := .cells #[.int .i64 x270000_2, .int .i64 x270001_2, .int .u32 x270002_2, .int .i32 x270003_2] 25 (0, 0)) (by (with_reducible repeat (first | refine bN_ ?_ _ | refine bD_ ?_ | refine bA_ ?_ _)); exact BK269.out) hb)
               have n2_ := Aside0.mk (blk_below (g := gb277) (o := .cells #[.int .i64 0, .string (⟨#[]⟩ : ByteArray), .int .i64 0, .int .i64 0, .int .u32 0, .int .i32 0] 27 (0, 0)) (by (with_reducible repeat (first | refine bN_ ?_ _ | refine bD_ ?_ | refine bA_ ?_ _)); exact BK277.out) hb)
               have n3_ := Aside0.mk (below_step (by repeat (first | (with_reducible first | exact HB.out | apply below_alloc | apply pw_below_drewN | apply below_drew1 | refine below_set ?_ GE269.out | refine below_set ?_ GE277.out) | exact HB.out)) hb)
               clear HO_8
               clear BK269
               clear BK277
               clear HB
               have HO_8 := n0_
               have BK269 := n1_
               have BK277 := n2_
               have HB := n3_
               clear n0_ n1_ n2_ n3_
               (try clear hb)
               (try clear hb2)
               (try clear hk)
               (try clear hi)
               refine hK.out _ _ ⟨(blk_cell BK269.out 0).trans rfl, (blk_cell BK269.out 1).trans rfl, (blk_cell BK269.out 2).trans rfl, (blk_cell BK269.out 3).trans rfl, ((HB.out.cell (World.block_lt_of_cell? w _ hw270_0)).trans hw270_0)⟩ (fun hHeld => ?_)
               clear hK K
               refine norm_ (a' := ?_) ?_ ?_
               rotate_left
               ·show Act.put _ (some 37) _ = _
                simp only [Act.put, List.setIfInBounds_toArray, List.set_cons_zero, List.set_cons_succ, i64_w, i32_w]
                rfl
               exact norm_ (by simp only [putAll, Act.put, List.setIfInBounds_toArray, List.set_cons_zero, List.set_cons_succ]) (hCont (gb277) _ ⟨hHeld, (by (with_reducible repeat (first | apply Kd.R_alloc | apply Kd.R_drewN | apply Kd.R_drew)); exact HO_8.out), (by (with_reducible repeat (first | refine bN_ ?_ _ | refine bD_ ?_ | refine bA_ ?_ _)); exact BK269.out), (by (with_reducible repeat (first | refine bN_ ?_ _ | refine bD_ ?_ | refine bA_ ?_ _)); exact BK277.out), GW277.out, GE277.out, NB269_277.out, NB277_269.out, (by repeat (first | (with_reducible first | exact HB.out | apply below_alloc | apply pw_below_drewN | apply below_drew1 | refine below_set ?_ GE269.out | refine below_set ?_ GE277.out) | exact HB.out))⟩)
             rintro gb277 w21 ⟨hS_, h0_, h1_, h2_, h3_, h4_, h5_, h6_, h7_⟩
             have n0_ : Aside0 (Kd.R (Kd.int .i32) 21 w21 w.heap.size (fun _ => True) u8 x8_2) := ⟨h0_⟩
             have n1_ : Aside0 (w21.heap[gb269]? = some (.cells #[.int .i64 x270000_2, .int .i64 x270001_2, .int .u32 x270002_2, .int .i32 x270003_2] 25 (0, 0))) := ⟨h1_⟩
             have n2_ : Aside0 (w21.heap[gb277]? = some (.cells #[.int .i64 0, .string (⟨#[]⟩ : ByteArray), .int .i64 0, .int .i64 0, .int .u32 0, .int .i32 0] 27 (0, 0))) := ⟨h2_⟩
             have n3_ : Aside0 (w.heap.size ≤ gb277) := ⟨h3_⟩
             have n4_ : Aside0 (w.heap.size ≤ gb277) := ⟨h4_⟩
             have n5_ : Aside0 (gb269 ≠ gb277) := ⟨h5_⟩
             have n6_ : Aside0 (gb277 ≠ gb269) := ⟨h6_⟩
             have n7_ : Aside0 (Below w.heap.size w w21) := ⟨h7_⟩
             clear HO_8
             clear BK269
             clear HB
             clear h0_ h1_ h2_ h3_ h4_ h5_ h6_ h7_
             have HO_8 := n0_
             have BK269 := n1_
             have BK277 := n2_
             have GW277 := n3_
             have GE277 := n4_
             have NB269_277 := n5_
             have NB277_269 := n6_
             have HB := n7_
             clear n0_ n1_ n2_ n3_ n4_ n5_ n6_ n7_
             have hHeld : w21.cell? ⟨gb269, 0, none⟩ = some (.int .i64 x270000_2) ∧ w21.cell? ⟨gb269, 1, none⟩ = some (.int .i64 x270001_2) ∧ w21.cell? ⟨gb269, 2, none⟩ = some (.int .u32 x270002_2) ∧ w21.cell? ⟨gb269, 3, none⟩ = some (.int .i32 x270003_2) ∧ w21.cell? (ad270.add (x9_2).toNat) = some (.int .i32 (rd l1 x9_2)) := hS_
             refine norm_ (a' := ?_) ?_ ?_
             rotate_left
             ·simp only [putAll, Act.put, List.setIfInBounds_toArray, List.set_cons_zero, List.set_cons_succ]
              rfl
             refine one_ (i := 8) (N := none) #[true, true, true, true, true, true, true, true, true] rfl rfl (one_of HT_.out (by kernel_rfl)) (by decide) (fun K hK => ?_)
             have hs22 : w21.cell? ⟨gb277, 0, none⟩ = some (.int .i64 0) := (blk_cell BK277.out 0).trans rfl
             have hfs22 := blk_frozen BK277.out 0
             have hns22_0 := NB269_277.out
             have hms22_0 := NB277_269.out
             have hs23 : w21.cell? ⟨gb277, 1, none⟩ = some (.string (⟨#[]⟩ : ByteArray)) := (blk_cell BK277.out 1).trans rfl
             have hfs23 := blk_frozen BK277.out 1
             have hns23_0 := NB269_277.out
             have hms23_0 := NB277_269.out
             have hs24 : w21.cell? ⟨gb277, 2, none⟩ = some (.int .i64 0) := (blk_cell BK277.out 2).trans rfl
             have hfs24 := blk_frozen BK277.out 2
             have hns24_0 := NB269_277.out
             have hms24_0 := NB277_269.out
             have hs25 : w21.cell? ⟨gb277, 3, none⟩ = some (.int .i64 0) := (blk_cell BK277.out 3).trans rfl
             have hfs25 := blk_frozen BK277.out 3
             have hns25_0 := NB269_277.out
             have hms25_0 := NB277_269.out
             have hs26 : w21.cell? ⟨gb277, 4, none⟩ = some (.int .u32 0) := (blk_cell BK277.out 4).trans rfl
             have hfs26 := blk_frozen BK277.out 4
             have hns26_0 := NB269_277.out
             have hms26_0 := NB277_269.out
             have hs27 : w21.cell? ⟨gb277, 5, none⟩ = some (.int .i32 0) := (blk_cell BK277.out 5).trans rfl
             have hfs27 := blk_frozen BK277.out 5
             have hns27_0 := NB269_277.out
             have hms27_0 := NB277_269.out
             refine skip_ (w1 := ?_) (by rfl) rfl ?_ ?_
             rotate_left
             ·go_simp
              rfl
             refine hK.out _ _ ⟨((cell_far (p := ⟨gb277, _, none⟩) NB269_277.out _).trans (((cell_far (p := ⟨gb277, _, none⟩) NB269_277.out _).trans (((cell_far (p := ⟨gb277, _, none⟩) NB269_277.out _).trans (((cell_far (p := ⟨gb277, _, none⟩) NB269_277.out _).trans (((cell_far (p := ⟨gb277, _, none⟩) NB269_277.out _).trans (((cell_far (p := ⟨gb277, _, none⟩) NB269_277.out _).trans (hHeld.1)))))))))))), ((cell_far (p := ⟨gb277, _, none⟩) NB269_277.out _).trans (((cell_far (p := ⟨gb277, _, none⟩) NB269_277.out _).trans (((cell_far (p := ⟨gb277, _, none⟩) NB269_277.out _).trans (((cell_far (p := ⟨gb277, _, none⟩) NB269_277.out _).trans (((cell_far (p := ⟨gb277, _, none⟩) NB269_277.out _).trans (((cell_far (p := ⟨gb277, _, none⟩) NB269_277.out _).trans (hHeld.2.1)))))))))))), ((cell_far (p := ⟨gb277, _, none⟩) NB269_277.out _).trans (((cell_far (p := ⟨gb277, _, none⟩) NB269_277.out _).trans (((cell_far (p := ⟨gb277, _, none⟩) NB269_277.out _).trans (((cell_far (p := ⟨gb277, _, none⟩) NB269_277.out _).trans (((cell_far (p := ⟨gb277, _, none⟩) NB269_277.out _).trans (((cell_far (p := ⟨gb277, _, none⟩) NB269_277.out _).trans (hHeld.2.2.1)))))))))))), ((cell_far (p := ⟨gb277, _, none⟩) NB269_277.out _).trans (((cell_far (p := ⟨gb277, _, none⟩) NB269_277.out _).trans (((cell_far (p := ⟨gb277, _, none⟩) NB269_277.out _).trans (((cell_far (p := ⟨gb277, _, none⟩) NB269_277.out _).trans (((cell_far (p := ⟨gb277, _, none⟩) NB269_277.out _).trans (((cell_far (p := ⟨gb277, _, none⟩) NB269_277.out _).trans (hHeld.2.2.2.1)))))))))))), ((cell_far (p := ⟨gb277, _, none⟩) (by first | exact Nat.ne_of_lt (Nat.lt_of_lt_of_le (by have := World.block_lt_of_cell? _ _ hw270_0; first | rwa [add_block] at this | exact this) GW277.out) | (rw [add_block]; exact Nat.ne_of_lt (Nat.lt_of_lt_of_le (by have := World.block_lt_of_cell? _ _ hw270_0; first | rwa [add_block] at this | exact this) GW277.out)) | (show (Addr.add _ _).block ≠ _; rw [add_block]; exact Nat.ne_of_lt (Nat.lt_of_lt_of_le (by have := World.block_lt_of_cell? _ _ hw270_0; first | rwa [add_block] at this | exact this) GW277.out)) | (dsimp only; exact Nat.ne_of_lt (Nat.lt_of_lt_of_le (by have := World.block_lt_of_cell? _ _ hw270_0; first | rwa [add_block] at this | exact this) GW277.out))) _).trans (((cell_far (p := ⟨gb277, _, none⟩) (by first | exact Nat.ne_of_lt (Nat.lt_of_lt_of_le (by have := World.block_lt_of_cell? _ _ hw270_0; first | rwa [add_block] at this | exact this) GW277.out) | (rw [add_block]; exact Nat.ne_of_lt (Nat.lt_of_lt_of_le (by have := World.block_lt_of_cell? _ _ hw270_0; first | rwa [add_block] at this | exact this) GW277.out)) | (show (Addr.add _ _).block ≠ _; rw [add_block]; exact Nat.ne_of_lt (Nat.lt_of_lt_of_le (by have := World.block_lt_of_cell? _ _ hw270_0; first | rwa [add_block] at this | exact this) GW277.out)) | (dsimp only; exact Nat.ne_of_lt (Nat.lt_of_lt_of_le (by have := World.block_lt_of_cell? _ _ hw270_0; first | rwa [add_block] at this | exact this) GW277.out))) _).trans (((cell_far (p := ⟨gb277, _, none⟩) (by first | exact Nat.ne_of_lt (Nat.lt_of_lt_of_le (by have := World.block_lt_of_cell? _ _ hw270_0; first | rwa [add_block] at this | exact this) GW277.out) | (rw [add_block]; exact Nat.ne_of_lt (Nat.lt_of_lt_of_le (by have := World.block_lt_of_cell? _ _ hw270_0; first | rwa [add_block] at this | exact this) GW277.out)) | (show (Addr.add _ _).block ≠ _; rw [add_block]; exact Nat.ne_of_lt (Nat.lt_of_lt_of_le (by have := World.block_lt_of_cell? _ _ hw270_0; first | rwa [add_block] at this | exact this) GW277.out)) | (dsimp only; exact Nat.ne_of_lt (Nat.lt_of_lt_of_le (by have := World.block_lt_of_cell? _ _ hw270_0; first | rwa [add_block] at this | exact this) GW277.out))) _).trans (((cell_far (p := ⟨gb277, _, none⟩) (by first | exact Nat.ne_of_lt (Nat.lt_of_lt_of_le (by have := World.block_lt_of_cell? _ _ hw270_0; first | rwa [add_block] at this | exact this) GW277.out) | (rw [add_block]; exact Nat.ne_of_lt (Nat.lt_of_lt_of_le (by have := World.block_lt_of_cell? _ _ hw270_0; first | rwa [add_block] at this | exact this) GW277.out)) | (show (Addr.add _ _).block ≠ _; rw [add_block]; exact Nat.ne_of_lt (Nat.lt_of_lt_of_le (by have := World.block_lt_of_cell? _ _ hw270_0; first | rwa [add_block] at this | exact this) GW277.out)) | (dsimp only; exact Nat.ne_of_lt (Nat.lt_of_lt_of_le (by have := World.block_lt_of_cell? _ _ hw270_0; first | rwa [add_block] at this | exact this) GW277.out))) _).trans (((cell_far (p := ⟨gb277, _, none⟩) (by first | exact Nat.ne_of_lt (Nat.lt_of_lt_of_le (by have := World.block_lt_of_cell? _ _ hw270_0; first | rwa [add_block] at this | exact this) GW277.out) | (rw [add_block]; exact Nat.ne_of_lt (Nat.lt_of_lt_of_le (by have := World.block_lt_of_cell? _ _ hw270_0; first | rwa [add_block] at this | exact this) GW277.out)) | (show (Addr.add _ _).block ≠ _; rw [add_block]; exact Nat.ne_of_lt (Nat.lt_of_lt_of_le (by have := World.block_lt_of_cell? _ _ hw270_0; first | rwa [add_block] at this | exact this) GW277.out)) | (dsimp only; exact Nat.ne_of_lt (Nat.lt_of_lt_of_le (by have := World.block_lt_of_cell? _ _ hw270_0; first | rwa [add_block] at this | exact this) GW277.out))) _).trans (((cell_far (p := ⟨gb277, _, none⟩) (by first | exact Nat.ne_of_lt (Nat.lt_of_lt_of_le (by have := World.block_lt_of_cell? _ _ hw270_0; first | rwa [add_block] at this | exact this) GW277.out) | (rw [add_block]; exact Nat.ne_of_lt (Nat.lt_of_lt_of_le (by have := World.block_lt_of_cell? _ _ hw270_0; first | rwa [add_block] at this | exact this) GW277.out)) | (show (Addr.add _ _).block ≠ _; rw [add_block]; exact Nat.ne_of_lt (Nat.lt_of_lt_of_le (by have := World.block_lt_of_cell? _ _ hw270_0; first | rwa [add_block] at this | exact this) GW277.out)) | (dsimp only; exact Nat.ne_of_lt (Nat.lt_of_lt_of_le (by have := World.block_lt_of_cell? _ _ hw270_0; first | rwa [add_block] at this | exact this) GW277.out))) _).trans (hHeld.2.2.2.2))))))))))))⟩ (fun hHeld => ?_)
             clear hK K
             refine done_ (done_of HT_.out (by kernel_rfl)) ?_
             have hnb28 := NB277_269.out
             have hnc28 := NB269_277.out
             have hcz29_0 : w21.cell? ⟨gb277, 0, none⟩ = some (.int .i64 0) := (blk_cell BK277.out 0).trans rfl
             have hcz29_1 : w21.cell? ⟨gb277, 1, none⟩ = some (.string (⟨#[]⟩ : ByteArray)) := (blk_cell BK277.out 1).trans rfl
             have hcz29_2 : w21.cell? ⟨gb277, 2, none⟩ = some (.int .i64 0) := (blk_cell BK277.out 2).trans rfl
             have hcz29_3 : w21.cell? ⟨gb277, 3, none⟩ = some (.int .i64 0) := (blk_cell BK277.out 3).trans rfl
             have hcz29_4 : w21.cell? ⟨gb277, 4, none⟩ = some (.int .u32 0) := (blk_cell BK277.out 4).trans rfl
             have hcz29_5 : w21.cell? ⟨gb277, 5, none⟩ = some (.int .i32 0) := (blk_cell BK277.out 5).trans rfl
             have hfz29_0 := blk_frozen BK277.out 0
             have hfz29_1 := blk_frozen BK277.out 1
             have hfz29_2 := blk_frozen BK277.out 2
             have hfz29_3 := blk_frozen BK277.out 3
             have hfz29_4 := blk_frozen BK277.out 4
             have hfz29_5 := blk_frozen BK277.out 5
             try go_wp2
             go_ret
             exact ⟨by first | rfl | (simp [errW_none, errW_some] <;> rfl) | (simp [*, errW_none, errW_some] <;> rfl), by repeat (first | (with_reducible first | exact HB.out | apply below_alloc | apply pw_below_drewN | apply below_drew1 | refine below_set ?_ GE269.out | refine below_set ?_ GE277.out) | exact HB.out)⟩
            ·rw [if_neg c17] at H
             have c17b0 : decide (8 < (t272.size : Int)) = false := decide_eq_false c17
             have c17b1 : decide (8 < t272.size) = false := decide_eq_false (by omega)
             clear c17
             by_cases c30 : x7_2.size + t272.size ≤ 9223372036854775807
             ·rw [if_pos c30] at H
              have c30b0 := eq_true c30
              have c30b1 : decide (x7_2.size + t272.size ≤ 9223372036854775807) = true := decide_eq_true c30
              try have c30b2 : (9223372036854775807 < x7_2.size + t272.size) = False := eq_false (Nat.not_lt.2 c30)
              by_cases c31 : x8_2.length < 35184372088832
              ·rw [if_pos c31] at H
               have LMc31 := Aside0.mk c31
               clear c31
               obtain ⟨y279, hy279⟩ : ∃ y_ : List Int, y_ = (x8_2 ++ [rd l1 x9_2]) := ⟨_, rfl⟩
               replace H : (dragomanlaw21_Iso2022Back.l0 kj9 a0 l1 x5_4 (x7_2 ++ t272) y279 (wrap64 (x9_2 + 1)) t273 t274 t275 t276) = some r := by first | (rw [hy279]; with_reducible exact H) | (have H2_ := (Option.bind_some _ _).symm.trans H; rw [hy279]; with_reducible exact H2_) | (have H2_ := (Option.bind_some _ _).symm.trans H; with_reducible exact H2_) | with_reducible exact H | (rw [hy279]; exact H) | exact H
               have Ny279 := Aside0.mk hy279
               clear hy279
               have H' := Aside0.mk H
               clear H
               try go_wp2
               have n0_ := Aside0.mk (Kd.R_drew HO_8.out)
               have n1_ := Aside0.mk (blk_drew BK269.out)
               have n2_ := Aside0.mk (below_drew1 HB.out)
               clear HO_8
               clear BK269
               clear HB
               have HO_8 := n0_
               have BK269 := n1_
               have HB := n2_
               clear n0_ n1_ n2_
               have p270 : 0 ≤ (x9_2 : Int) := of_decide_eq_true (by first | (with_reducible assumption) | assumption)
               have q270 : x9_2 < (l1.length : Int) := of_decide_eq_true (by first | (with_reducible assumption) | assumption)
               obtain ⟨ad270, e270, hx270_0⟩ := Kd.at_int HR1.out x9_2 p270 q270
               have hw270_0 := hx270_0
               cases e270
               replace hx270_0 := (HB.out.cell (World.block_lt_of_cell? w _ hx270_0)).trans hx270_0
               replace p270 := eq_true p270
               replace q270 := eq_true q270
               refine start_ (n := 9) (S := fun w' => w'.cell? ⟨gb269, 0, none⟩ = some (.int .i64 x270000_2) ∧ w'.cell? ⟨gb269, 1, none⟩ = some (.int .i64 x270001_2) ∧ w'.cell? ⟨gb269, 2, none⟩ = some (.int .u32 x270002_2) ∧ w'.cell? ⟨gb269, 3, none⟩ = some (.int .i32 x270003_2) ∧ w'.cell? (ad270.add (x9_2).toNat) = some (.int .i32 (rd l1 x9_2))) (ds := []) #[false, false, false, false, false, false, false, false, false] (by kernel_rfl) rfl rfl ⟨(blk_cell BK269.out 0).trans rfl, (blk_cell BK269.out 1).trans rfl, (blk_cell BK269.out 2).trans rfl, (blk_cell BK269.out 3).trans rfl, ((HB.out.cell (World.block_lt_of_cell? w _ hw270_0)).trans hw270_0)⟩ (fun hHeld => ?_); refine with_tabW dragomanlaw21_Iso2022Back.tab12 dragomanlaw21_Iso2022Back.bits12 (fun HT_ HW_ => ?_)
               generalize wc.drew = w32 at HO_8 BK269 HB hx270_0 hHeld ⊢
               refine pure_ (i := 0) (N := some 31) (v := ?_) (a' := ?_) #[true, false, false, false, false, false, false, false, false] rfl rfl (any_of HT_.out (by kernel_rfl)) (fun _ _ _ h => h) (Or.inl ⟨by rfl, ?_⟩) ?_ ?_
               rotate_left
               ·intro w'
                go_simp
                with_reducible rfl
               rotate_left
               ·simp only [Act.put, List.setIfInBounds_toArray, List.set_cons_zero, List.set_cons_succ, i64_w, i32_w]
                rfl
               refine pure_ (i := 2) (N := some 33) (v := ?_) (a' := ?_) #[true, false, true, false, false, false, false, false, false] rfl rfl (any_of HT_.out (by kernel_rfl)) (fun _ _ _ h => h) (Or.inl ⟨by rfl, ?_⟩) ?_ ?_
               rotate_left
               ·intro w'
                go_simp
                with_reducible rfl
               rotate_left
               ·simp only [Act.put, List.setIfInBounds_toArray, List.set_cons_zero, List.set_cons_succ, i64_w, i32_w]
                rfl
               refine pure_ (i := 3) (N := some 34) (v := ?_) (a' := ?_) #[true, false, true, true, false, false, false, false, false] rfl rfl (any_of HT_.out (by kernel_rfl)) (fun _ _ _ h => h) (Or.inl ⟨by rfl, ?_⟩) ?_ ?_
               rotate_left
               ·intro w'
                go_simp
                with_reducible rfl
               rotate_left
               ·simp only [Act.put, List.setIfInBounds_toArray, List.set_cons_zero, List.set_cons_succ, i64_w, i32_w]
                rfl
               refine pure_ (i := 4) (N := some 35) (v := ?_) (a' := ?_) #[true, false, true, true, true, false, false, false, false] rfl rfl (any_of HT_.out (by kernel_rfl)) (fun _ _ _ h => h) (Or.inl ⟨by rfl, ?_⟩) ?_ ?_
               rotate_left
               ·intro w'
                go_simp
                with_reducible rfl
               rotate_left
               ·simp only [Act.put, List.setIfInBounds_toArray, List.set_cons_zero, List.set_cons_succ, i64_w, i32_w]
                rfl
               refine take_ (i := 1) (N := some 32) (v := ?_) (a' := ?_) #[true, true, true, true, true, false, false, false, false] rfl rfl (take_ofW HT_.out HW_.out (by kernel_rfl)) (fun _ _ _ h => h) (Or.inl ⟨by rfl, ?_⟩) hHeld ?_ ?_
               rotate_left
               ·rintro w' ⟨s0, s1, s2, s3, s4⟩
                go_simp
                with_reducible rfl
               rotate_left
               ·simp only [Act.put, List.setIfInBounds_toArray, List.set_cons_zero, List.set_cons_succ, i64_w, i32_w]
                rfl
               refine take_ (i := 5) (N := some 36) (v := ?_) (a' := ?_) #[true, true, true, true, true, true, false, false, false] rfl rfl (take_ofW HT_.out HW_.out (by kernel_rfl)) (fun _ _ _ h => h) (Or.inl ⟨by rfl, ?_⟩) hHeld ?_ ?_
               rotate_left
               ·rintro w' ⟨s0, s1, s2, s3, s4⟩
                go_simp
                with_reducible rfl
               rotate_left
               ·simp only [Act.put, List.setIfInBounds_toArray, List.set_cons_zero, List.set_cons_succ, i64_w, i32_w]
                rfl
               refine join_ (σ := Nat) 1 #[true, true, true, true, true, true, true, true, false] (fun s_ => [(37, .agg #[.int .i64 t271, .string t272, .int .i64 t273, .int .i64 t274, .int .u32 t275, .int .i32 t276]), (10, .pointer (some ⟨s_, 0, none⟩))]) (fun s_ w' => (w'.cell? ⟨gb269, 0, none⟩ = some (.int .i64 x270000_2) ∧ w'.cell? ⟨gb269, 1, none⟩ = some (.int .i64 x270001_2) ∧ w'.cell? ⟨gb269, 2, none⟩ = some (.int .u32 x270002_2) ∧ w'.cell? ⟨gb269, 3, none⟩ = some (.int .i32 x270003_2) ∧ w'.cell? (ad270.add (x9_2).toNat) = some (.int .i32 (rd l1 x9_2))) ∧ (Kd.R (Kd.int .i32) 21 w' w.heap.size (fun _ => True) u8 x8_2) ∧ (w'.heap[gb269]? = some (.cells #[.int .i64 x270000_2, .int .i64 x270001_2, .int .u32 x270002_2, .int .i32 x270003_2] 25 (0, 0))) ∧ (w'.heap[s_]? = some (.cells #[.int .i64 0, .string (⟨#[]⟩ : ByteArray), .int .i64 0, .int .i64 0, .int .u32 0, .int .i32 0] 27 (0, 0))) ∧ (w.heap.size ≤ s_) ∧ (w.heap.size ≤ s_) ∧ (gb269 ≠ s_) ∧ (s_ ≠ gb269) ∧ (Below w.heap.size w w')) ?_ ?_
               rotate_left
               ·intro hCont
                refine two_ (i := 6) (j := 7) (Ni := some 37) (Nj := some 10) #[true, true, true, true, true, true, true, false, false] #[true, true, true, true, true, true, false, true, false] rfl rfl rfl rfl (two_of HT_.out (by kernel_rfl)) (by decide) (by decide) (fun K hK => ?_) (fun K hK => ?_)
                ·skip
                 refine goes_ Try.func38 (by kernel_rfl) rfl #[.int .i64 x5_4, .agg #[.int .i64 x270000_2, .int .i64 x270001_2, .int .u32 x270002_2, .int .i32 x270003_2], .int .i32 (rd l1 x9_2)] (by rfl) rfl rfl (by (try simp only [List.map_toArray, List.map_cons, List.map_nil]); first | done | rfl | (simp only [List.length_drop, List.length_take]; rfl)) ?_
                 with_reducible refine (iso2022_Set.calls kj9 x5_4 x270000_2 x270001_2 x270002_2 x270003_2 (rd l1 x9_2) t271 t272 t273 t274 t275 t276 _ A15.out).mono ?_
                 rintro e w33 ⟨rfl, hb⟩
                 refine ⟨_, rfl, ?_⟩
                 have n0_ := Aside0.mk (Kd.R_below (by (with_reducible repeat (first | apply Kd.R_alloc | apply Kd.R_drewN | apply Kd.R_drew)); exact HO_8.out) hb)
                 have n1_ := Aside0.mk (blk_below (g := gb269) (o := .cells #[.int .i64 x270000_2, .int .i64 x270001_2, .int .u32 x270002_2, .int .i32 x270003_2] 25 (0, 0)) (by (with_reducible repeat (first | refine bN_ ?_ _ | refine bD_ ?_ | refine bA_ ?_ _)); exact BK269.out) hb)
                 have n2_ := Aside0.mk (below_step (by repeat (first | (with_reducible first | exact HB.out | apply below_alloc | apply pw_below_drewN | apply below_drew1 | refine below_set ?_ GE269.out) | exact HB.out)) hb)
                 clear HO_8
                 clear BK269
                 clear HB
                 have HO_8 := n0_
                 have BK269 := n1_
                 have HB := n2_
                 clear n0_ n1_ n2_
                 (try clear hb)
                 (try clear hb2)
                 (try clear hk)
                 (try clear hi)
                 refine hK.out _ _ ⟨(blk_cell BK269.out 0).trans rfl, (blk_cell BK269.out 1).trans rfl, (blk_cell BK269.out 2).trans rfl, (blk_cell BK269.out 3).trans rfl, ((HB.out.cell (World.block_lt_of_cell? w _ hw270_0)).trans hw270_0)⟩ (fun hHeld => ?_)
                 clear hK K
                 refine norm_ (a' := ?_) ?_ ?_
                 rotate_left
                 ·show Act.put _ (some 37) _ = _
                  simp only [Act.put, List.setIfInBounds_toArray, List.set_cons_zero, List.set_cons_succ, i64_w, i32_w]
                  rfl
                 refine one_ (i := 7) (N := some 10) #[true, true, true, true, true, true, true, true, false] rfl rfl (one_of HT_.out (by kernel_rfl)) (by decide) (fun K hK => ?_)
                 refine box_step ?hg (N := 10) ?hd (cs := #[.int .i64 0, .string (⟨#[]⟩ : ByteArray), .int .i64 0, .int .i64 0, .int .u32 0, .int .i32 0]) (t := 27) ?hr ?_; (case hd => rfl); (case hg => rfl); (case hr => first | (go_simp; done) | (go_simp; rfl))
                 intro gb277 hg w34 hbox hb
                 have n0_ := Aside0.mk (Kd.R_below (by (with_reducible repeat (first | apply Kd.R_alloc | apply Kd.R_drewN | apply Kd.R_drew)); exact HO_8.out) hb)
                 have n1_ := Aside0.mk (blk_below (g := gb269) (o := .cells #[.int .i64 x270000_2, .int .i64 x270001_2, .int .u32 x270002_2, .int .i32 x270003_2] 25 (0, 0)) (by (with_reducible repeat (first | refine bN_ ?_ _ | refine bD_ ?_ | refine bA_ ?_ _)); exact BK269.out) hb)
                 have n2_ := Aside0.mk (below_step (by repeat (first | (with_reducible first | exact HB.out | apply below_alloc | apply pw_below_drewN | apply below_drew1 | refine below_set ?_ GE269.out) | exact HB.out)) hb)
                 have n3_ := Aside0.mk (hbox)
                 have n4_ := Aside0.mk ((by rw [hg]; exact (below_size (by repeat (first | (with_reducible first | exact HB.out | apply below_alloc | apply pw_below_drewN | apply below_drew1 | refine below_set ?_ GE269.out) | exact HB.out))) : w.heap.size ≤ gb277))
                 have n5_ := Aside0.mk ((by rw [hg]; exact (below_size (by repeat (first | (with_reducible first | exact HB.out | apply below_alloc | apply pw_below_drewN | apply below_drew1 | refine below_set ?_ GE269.out) | exact HB.out))) : w.heap.size ≤ gb277))
                 have n6_ := Aside0.mk ((by rw [hg]; exact Nat.ne_of_lt (blk_lt (g := gb269) (o := .cells #[.int .i64 x270000_2, .int .i64 x270001_2, .int .u32 x270002_2, .int .i32 x270003_2] 25 (0, 0)) (by (with_reducible repeat (first | refine bN_ ?_ _ | refine bD_ ?_ | refine bA_ ?_ _)); exact BK269.out)) : gb269 ≠ gb277))
                 have n7_ := Aside0.mk ((by rw [hg]; exact Nat.ne_of_gt (blk_lt (g := gb269) (o := .cells #[.int .i64 x270000_2, .int .i64 x270001_2, .int .u32 x270002_2, .int .i32 x270003_2] 25 (0, 0)) (by (with_reducible repeat (first | refine bN_ ?_ _ | refine bD_ ?_ | refine bA_ ?_ _)); exact BK269.out)) : gb277 ≠ gb269))
                 clear HO_8
                 clear BK269
                 clear HB
                 have HO_8 := n0_
                 have BK269 := n1_
                 have HB := n2_
                 have BK277 := n3_
                 have GW277 := n4_
                 have GE277 := n5_
                 have NB269_277 := n6_
                 have NB277_269 := n7_
                 clear n0_ n1_ n2_ n3_ n4_ n5_ n6_ n7_
                 clear hb hbox hg
                 refine hK.out _ _ ⟨(blk_cell BK269.out 0).trans rfl, (blk_cell BK269.out 1).trans rfl, (blk_cell BK269.out 2).trans rfl, (blk_cell BK269.out 3).trans rfl, ((HB.out.cell (World.block_lt_of_cell? w _ hw270_0)).trans hw270_0)⟩ (fun hHeld => ?_)
                 clear hK K
                 refine norm_ (a' := ?_) ?_ ?_
                 rotate_left
                 ·show Act.put _ (some 10) _ = _
                  simp only [Act.put, List.setIfInBounds_toArray, List.set_cons_zero, List.set_cons_succ, i64_w, i32_w]
                  rfl
                 exact norm_ (by simp only [putAll, Act.put, List.setIfInBounds_toArray, List.set_cons_zero, List.set_cons_succ]) (hCont (gb277) _ ⟨hHeld, (by (with_reducible repeat (first | apply Kd.R_alloc | apply Kd.R_drewN | apply Kd.R_drew)); exact HO_8.out), (by (with_reducible repeat (first | refine bN_ ?_ _ | refine bD_ ?_ | refine bA_ ?_ _)); exact BK269.out), (by (with_reducible repeat (first | refine bN_ ?_ _ | refine bD_ ?_ | refine bA_ ?_ _)); exact BK277.out), GW277.out, GE277.out, NB269_277.out, NB277_269.out, (by repeat (first | (with_reducible first | exact HB.out | apply below_alloc | apply pw_below_drewN | apply below_drew1 | refine below_set ?_ GE269.out | refine below_set ?_ GE277.out) | exact HB.out))⟩)
                ·skip
                 refine box_step ?hg (N := 10) ?hd (cs := #[.int .i64 0, .string (⟨#[]⟩ : ByteArray), .int .i64 0, .int .i64 0, .int .u32 0, .int .i32 0]) (t := 27) ?hr ?_; (case hd => rfl); (case hg => rfl); (case hr => first | (go_simp; done) | (go_simp; rfl))
                 intro gb277 hg w33 hbox hb
                 have n0_ := Aside0.mk (Kd.R_below (by (with_reducible repeat (first | apply Kd.R_alloc | apply Kd.R_drewN | apply Kd.R_drew)); exact HO_8.out) hb)
                 have n1_ := Aside0.mk (blk_below (g := gb269) (o := .cells #[.int .i64 x270000_2, .int .i64 x270001_2, .int .u32 x270002_2, .int .i32 x270003_2] 25 (0, 0)) (by (with_reducible repeat (first | refine bN_ ?_ _ | refine bD_ ?_ | refine bA_ ?_ _)); exact BK269.out) hb)
                 have n2_ := Aside0.mk (below_step (by repeat (first | (with_reducible first | exact HB.out | apply below_alloc | apply pw_below_drewN | apply below_drew1 | refine below_set ?_ GE269.out) | exact HB.out)) hb)
                 have n3_ := Aside0.mk (hbox)
                 have n4_ := Aside0.mk ((by rw [hg]; exact (below_size (by repeat (first | (with_reducible first | exact HB.out | apply below_alloc | apply pw_below_drewN | apply below_drew1 | refine below_set ?_ GE269.out) | exact HB.out))) : w.heap.size ≤ gb277))
                 have n5_ := Aside0.mk ((by rw [hg]; exact (below_size (by repeat (first | (with_reducible first | exact HB.out | apply below_alloc | apply pw_below_drewN | apply below_drew1 | refine below_set ?_ GE269.out) | exact HB.out))) : w.heap.size ≤ gb277))
                 have n6_ := Aside0.mk ((by rw [hg]; exact Nat.ne_of_lt (blk_lt (g := gb269) (o := .cells #[.int .i64 x270000_2, .int .i64 x270001_2, .int .u32 x270002_2, .int .i32 x270003_2] 25 (0, 0)) (by (with_reducible repeat (first | refine bN_ ?_ _ | refine bD_ ?_ | refine bA_ ?_ _)); exact BK269.out)) : gb269 ≠ gb277))
                 have n7_ := Aside0.mk ((by rw [hg]; exact Nat.ne_of_gt (blk_lt (g := gb269) (o := .cells #[.int .i64 x270000_2, .int .i64 x270001_2, .int .u32 x270002_2, .int .i32 x270003_2] 25 (0, 0)) (by (with_reducible repeat (first | refine bN_ ?_ _ | refine bD_ ?_ | refine bA_ ?_ _)); exact BK269.out)) : gb277 ≠ gb269))
                 clear HO_8
                 clear BK269
                 clear HB
                 have HO_8 := n0_
                 have BK269 := n1_
                 have HB := n2_
                 have BK277 := n3_
                 have GW277 := n4_
                 have GE277 := n5_
                 have NB269_277 := n6_
                 have NB277_269 := n7_
                 clear n0_ n1_ n2_ n3_ n4_ n5_ n6_ n7_
                 clear hb hbox hg
                 refine hK.out _ _ ⟨(blk_cell BK269.out 0).trans rfl, (blk_cell BK269.out 1).trans rfl, (blk_cell BK269.out 2).trans rfl, (blk_cell BK269.out 3).trans rfl, ((HB.out.cell (World.block_lt_of_cell? w _ hw270_0)).trans hw270_0)⟩ (fun hHeld => ?_)
                 clear hK K
                 refine norm_ (a' := ?_) ?_ ?_
                 rotate_left
                 ·show Act.put _ (some 10) _ = _
                  simp only [Act.put, List.setIfInBounds_toArray, List.set_cons_zero, List.set_cons_succ, i64_w, i32_w]
                  rfl
                 refine one_ (i := 6) (N := some 37) #[true, true, true, true, true, true, true, true, false] rfl rfl (one_of HT_.out (by kernel_rfl)) (by decide) (fun K hK => ?_)
                 refine goes_ Try.func38 (by kernel_rfl) rfl #[.int .i64 x5_4, .agg #[.int .i64 x270000_2, .int .i64 x270001_2, .int .u32 x270002_2, .int .i32 x270003_2], .int .i32 (rd l1 x9_2)] (by rfl) rfl rfl (by (try simp only [List.map_toArray, List.map_cons, List.map_nil]); first | done | rfl | (simp only [List.length_drop, List.length_take]; rfl)) ?_
                 with_reducible refine (iso2022_Set.calls kj9 x5_4 x270000_2 x270001_2 x270002_2 x270003_2 (rd l1 x9_2) t271 t272 t273 t274 t275 t276 _ A15.out).mono ?_
                 rintro e w34 ⟨rfl, hb⟩
                 refine ⟨_, rfl, ?_⟩
                 have n0_ := Aside0.mk (Kd.R_below (by (with_reducible repeat (first | apply Kd.R_alloc | apply Kd.R_drewN | apply Kd.R_drew)); exact HO_8.out) hb)
                 have n1_ := Aside0.mk (blk_below (g := gb269) (o := .cells #[.int .i64 x270000_2, .int .i64 x270001_2, .int .u32 x270002_2, .int .i32 x270003_2] 25 (0, 0)) (by (with_reducible repeat (first | refine bN_ ?_ _ | refine bD_ ?_ | refine bA_ ?_ _)); exact BK269.out) hb)
                 have n2_ := Aside0.mk (blk_below (g := gb277) (o := .cells #[.int .i64 0, .string (⟨#[]⟩ : ByteArray), .int .i64 0, .int .i64 0, .int .u32 0, .int .i32 0] 27 (0, 0)) (by (with_reducible repeat (first | refine bN_ ?_ _ | refine bD_ ?_ | refine bA_ ?_ _)); exact BK277.out) hb)
                 have n3_ := Aside0.mk (below_step (by repeat (first | (with_reducible first | exact HB.out | apply below_alloc | apply pw_below_drewN | apply below_drew1 | refine below_set ?_ GE269.out | refine below_set ?_ GE277.out) | exact HB.out)) hb)
                 clear HO_8
                 clear BK269
                 clear BK277
                 clear HB
                 have HO_8 := n0_
                 have BK269 := n1_
                 have BK277 := n2_
                 have HB := n3_
                 clear n0_ n1_ n2_ n3_
                 (try clear hb)
                 (try clear hb2)
                 (try clear hk)
                 (try clear hi)
                 refine hK.out _ _ ⟨(blk_cell BK269.out 0).trans rfl, (blk_cell BK269.out 1).trans rfl, (blk_cell BK269.out 2).trans rfl, (blk_cell BK269.out 3).trans rfl, ((HB.out.cell (World.block_lt_of_cell? w _ hw270_0)).trans hw270_0)⟩ (fun hHeld => ?_)
                 clear hK K
                 refine norm_ (a' := ?_) ?_ ?_
                 rotate_left
                 ·show Act.put _ (some 37) _ = _
                  simp only [Act.put, List.setIfInBounds_toArray, List.set_cons_zero, List.set_cons_succ, i64_w, i32_w]
                  rfl
                 exact norm_ (by simp only [putAll, Act.put, List.setIfInBounds_toArray, List.set_cons_zero, List.set_cons_succ]) (hCont (gb277) _ ⟨hHeld, (by (with_reducible repeat (first | apply Kd.R_alloc | apply Kd.R_drewN | apply Kd.R_drew)); exact HO_8.out), (by (with_reducible repeat (first | refine bN_ ?_ _ | refine bD_ ?_ | refine bA_ ?_ _)); exact BK269.out), (by (with_reducible repeat (first | refine bN_ ?_ _ | refine bD_ ?_ | refine bA_ ?_ _)); exact BK277.out), GW277.out, GE277.out, NB269_277.out, NB277_269.out, (by repeat (first | (with_reducible first | exact HB.out | apply below_alloc | apply pw_below_drewN | apply below_drew1 | refine below_set ?_ GE269.out | refine below_set ?_ GE277.out) | exact HB.out))⟩)
               rintro gb277 w35 ⟨hS_, h0_, h1_, h2_, h3_, h4_, h5_, h6_, h7_⟩
               have n0_ : Aside0 (Kd.R (Kd.int .i32) 21 w35 w.heap.size (fun _ => True) u8 x8_2) := ⟨h0_⟩
               have n1_ : Aside0 (w35.heap[gb269]? = some (.cells #[.int .i64 x270000_2, .int .i64 x270001_2, .int .u32 x270002_2, .int .i32 x270003_2] 25 (0, 0))) := ⟨h1_⟩
               have n2_ : Aside0 (w35.heap[gb277]? = some (.cells #[.int .i64 0, .string (⟨#[]⟩ : ByteArray), .int .i64 0, .int .i64 0, .int .u32 0, .int .i32 0] 27 (0, 0))) := ⟨h2_⟩
               have n3_ : Aside0 (w.heap.size ≤ gb277) := ⟨h3_⟩
               have n4_ : Aside0 (w.heap.size ≤ gb277) := ⟨h4_⟩
               have n5_ : Aside0 (gb269 ≠ gb277) := ⟨h5_⟩
               have n6_ : Aside0 (gb277 ≠ gb269) := ⟨h6_⟩
               have n7_ : Aside0 (Below w.heap.size w w35) := ⟨h7_⟩
               clear HO_8
               clear BK269
               clear HB
               clear h0_ h1_ h2_ h3_ h4_ h5_ h6_ h7_
               have HO_8 := n0_
               have BK269 := n1_
               have BK277 := n2_
               have GW277 := n3_
               have GE277 := n4_
               have NB269_277 := n5_
               have NB277_269 := n6_
               have HB := n7_
               clear n0_ n1_ n2_ n3_ n4_ n5_ n6_ n7_
               have hHeld : w35.cell? ⟨gb269, 0, none⟩ = some (.int .i64 x270000_2) ∧ w35.cell? ⟨gb269, 1, none⟩ = some (.int .i64 x270001_2) ∧ w35.cell? ⟨gb269, 2, none⟩ = some (.int .u32 x270002_2) ∧ w35.cell? ⟨gb269, 3, none⟩ = some (.int .i32 x270003_2) ∧ w35.cell? (ad270.add (x9_2).toNat) = some (.int .i32 (rd l1 x9_2)) := hS_
               refine norm_ (a' := ?_) ?_ ?_
               rotate_left
               ·simp only [putAll, Act.put, List.setIfInBounds_toArray, List.set_cons_zero, List.set_cons_succ]
                rfl
               refine one_ (i := 8) (N := none) #[true, true, true, true, true, true, true, true, true] rfl rfl (one_of HT_.out (by kernel_rfl)) (by decide) (fun K hK => ?_)
               have hs36 : w35.cell? ⟨gb277, 0, none⟩ = some (.int .i64 0) := (blk_cell BK277.out 0).trans rfl
               have hfs36 := blk_frozen BK277.out 0
               have hns36_0 := NB269_277.out
               have hms36_0 := NB277_269.out
               have hs37 : w35.cell? ⟨gb277, 1, none⟩ = some (.string (⟨#[]⟩ : ByteArray)) := (blk_cell BK277.out 1).trans rfl
               have hfs37 := blk_frozen BK277.out 1
               have hns37_0 := NB269_277.out
               have hms37_0 := NB277_269.out
               have hs38 : w35.cell? ⟨gb277, 2, none⟩ = some (.int .i64 0) := (blk_cell BK277.out 2).trans rfl
               have hfs38 := blk_frozen BK277.out 2
               have hns38_0 := NB269_277.out
               have hms38_0 := NB277_269.out
               have hs39 : w35.cell? ⟨gb277, 3, none⟩ = some (.int .i64 0) := (blk_cell BK277.out 3).trans rfl
               have hfs39 := blk_frozen BK277.out 3
               have hns39_0 := NB269_277.out
               have hms39_0 := NB277_269.out
               have hs40 : w35.cell? ⟨gb277, 4, none⟩ = some (.int .u32 0) := (blk_cell BK277.out 4).trans rfl
               have hfs40 := blk_frozen BK277.out 4
               have hns40_0 := NB269_277.out
               have hms40_0 := NB277_269.out
               have hs41 : w35.cell? ⟨gb277, 5, none⟩ = some (.int .i32 0) := (blk_cell BK277.out 5).trans rfl
               have hfs41 := blk_frozen BK277.out 5
               have hns41_0 := NB269_277.out
               have hms41_0 := NB277_269.out
               refine skip_ (w1 := ?_) (by rfl) rfl ?_ ?_
               rotate_left
               ·go_simp
                rfl
               refine hK.out _ _ ⟨((cell_far (p := ⟨gb277, _, none⟩) NB269_277.out _).trans (((cell_far (p := ⟨gb277, _, none⟩) NB269_277.out _).trans (((cell_far (p := ⟨gb277, _, none⟩) NB269_277.out _).trans (((cell_far (p := ⟨gb277, _, none⟩) NB269_277.out _).trans (((cell_far (p := ⟨gb277, _, none⟩) NB269_277.out _).trans (((cell_far (p := ⟨gb277, _, none⟩) NB269_277.out _).trans (hHeld.1)))))))))))), ((cell_far (p := ⟨gb277, _, none⟩) NB269_277.out _).trans (((cell_far (p := ⟨gb277, _, none⟩) NB269_277.out _).trans (((cell_far (p := ⟨gb277, _, none⟩) NB269_277.out _).trans (((cell_far (p := ⟨gb277, _, none⟩) NB269_277.out _).trans (((cell_far (p := ⟨gb277, _, none⟩) NB269_277.out _).trans (((cell_far (p := ⟨gb277, _, none⟩) NB269_277.out _).trans (hHeld.2.1)))))))))))), ((cell_far (p := ⟨gb277, _, none⟩) NB269_277.out _).trans (((cell_far (p := ⟨gb277, _, none⟩) NB269_277.out _).trans (((cell_far (p := ⟨gb277, _, none⟩) NB269_277.out _).trans (((cell_far (p := ⟨gb277, _, none⟩) NB269_277.out _).trans (((cell_far (p := ⟨gb277, _, none⟩) NB269_277.out _).trans (((cell_far (p := ⟨gb277, _, none⟩) NB269_277.out _).trans (hHeld.2.2.1)))))))))))), ((cell_far (p := ⟨gb277, _, none⟩) NB269_277.out _).trans (((cell_far (p := ⟨gb277, _, none⟩) NB269_277.out _).trans (((cell_far (p := ⟨gb277, _, none⟩) NB269_277.out _).trans (((cell_far (p := ⟨gb277, _, none⟩) NB269_277.out _).trans (((cell_far (p := ⟨gb277, _, none⟩) NB269_277.out _).trans (((cell_far (p := ⟨gb277, _, none⟩) NB269_277.out _).trans (hHeld.2.2.2.1)))))))))))), ((cell_far (p := ⟨gb277, _, none⟩) (by first | exact Nat.ne_of_lt (Nat.lt_of_lt_of_le (by have := World.block_lt_of_cell? _ _ hw270_0; first | rwa [add_block] at this | exact this) GW277.out) | (rw [add_block]; exact Nat.ne_of_lt (Nat.lt_of_lt_of_le (by have := World.block_lt_of_cell? _ _ hw270_0; first | rwa [add_block] at this | exact this) GW277.out)) | (show (Addr.add _ _).block ≠ _; rw [add_block]; exact Nat.ne_of_lt (Nat.lt_of_lt_of_le (by have := World.block_lt_of_cell? _ _ hw270_0; first | rwa [add_block] at this | exact this) GW277.out)) | (dsimp only; exact Nat.ne_of_lt (Nat.lt_of_lt_of_le (by have := World.block_lt_of_cell? _ _ hw270_0; first | rwa [add_block] at this | exact this) GW277.out))) _).trans (((cell_far (p := ⟨gb277, _, none⟩) (by first | exact Nat.ne_of_lt (Nat.lt_of_lt_of_le (by have := World.block_lt_of_cell? _ _ hw270_0; first | rwa [add_block] at this | exact this) GW277.out) | (rw [add_block]; exact Nat.ne_of_lt (Nat.lt_of_lt_of_le (by have := World.block_lt_of_cell? _ _ hw270_0; first | rwa [add_block] at this | exact this) GW277.out)) | (show (Addr.add _ _).block ≠ _; rw [add_block]; exact Nat.ne_of_lt (Nat.lt_of_lt_of_le (by have := World.block_lt_of_cell? _ _ hw270_0; first | rwa [add_block] at this | exact this) GW277.out)) | (dsimp only; exact Nat.ne_of_lt (Nat.lt_of_lt_of_le (by have := World.block_lt_of_cell? _ _ hw270_0; first | rwa [add_block] at this | exact this) GW277.out))) _).trans (((cell_far (p := ⟨gb277, _, none⟩) (by first | exact Nat.ne_of_lt (Nat.lt_of_lt_of_le (by have := World.block_lt_of_cell? _ _ hw270_0; first | rwa [add_block] at this | exact this) GW277.out) | (rw [add_block]; exact Nat.ne_of_lt (Nat.lt_of_lt_of_le (by have := World.block_lt_of_cell? _ _ hw270_0; first | rwa [add_block] at this | exact this) GW277.out)) | (show (Addr.add _ _).block ≠ _; rw [add_block]; exact Nat.ne_of_lt (Nat.lt_of_lt_of_le (by have := World.block_lt_of_cell? _ _ hw270_0; first | rwa [add_block] at this | exact this) GW277.out)) | (dsimp only; exact Nat.ne_of_lt (Nat.lt_of_lt_of_le (by have := World.block_lt_of_cell? _ _ hw270_0; first | rwa [add_block] at this | exact this) GW277.out))) _).trans (((cell_far (p := ⟨gb277, _, none⟩) (by first | exact Nat.ne_of_lt (Nat.lt_of_lt_of_le (by have := World.block_lt_of_cell? _ _ hw270_0; first | rwa [add_block] at this | exact this) GW277.out) | (rw [add_block]; exact Nat.ne_of_lt (Nat.lt_of_lt_of_le (by have := World.block_lt_of_cell? _ _ hw270_0; first | rwa [add_block] at this | exact this) GW277.out)) | (show (Addr.add _ _).block ≠ _; rw [add_block]; exact Nat.ne_of_lt (Nat.lt_of_lt_of_le (by have := World.block_lt_of_cell? _ _ hw270_0; first | rwa [add_block] at this | exact this) GW277.out)) | (dsimp only; exact Nat.ne_of_lt (Nat.lt_of_lt_of_le (by have := World.block_lt_of_cell? _ _ hw270_0; first | rwa [add_block] at this | exact this) GW277.out))) _).trans (((cell_far (p := ⟨gb277, _, none⟩) (by first | exact Nat.ne_of_lt (Nat.lt_of_lt_of_le (by have := World.block_lt_of_cell? _ _ hw270_0; first | rwa [add_block] at this | exact this) GW277.out) | (rw [add_block]; exact Nat.ne_of_lt (Nat.lt_of_lt_of_le (by have := World.block_lt_of_cell? _ _ hw270_0; first | rwa [add_block] at this | exact this) GW277.out)) | (show (Addr.add _ _).block ≠ _; rw [add_block]; exact Nat.ne_of_lt (Nat.lt_of_lt_of_le (by have := World.block_lt_of_cell? _ _ hw270_0; first | rwa [add_block] at this | exact this) GW277.out)) | (dsimp only; exact Nat.ne_of_lt (Nat.lt_of_lt_of_le (by have := World.block_lt_of_cell? _ _ hw270_0; first | rwa [add_block] at this | exact this) GW277.out))) _).trans (((cell_far (p := ⟨gb277, _, none⟩) (by first | exact Nat.ne_of_lt (Nat.lt_of_lt_of_le (by have := World.block_lt_of_cell? _ _ hw270_0; first | rwa [add_block] at this | exact this) GW277.out) | (rw [add_block]; exact Nat.ne_of_lt (Nat.lt_of_lt_of_le (by have := World.block_lt_of_cell? _ _ hw270_0; first | rwa [add_block] at this | exact this) GW277.out)) | (show (Addr.add _ _).block ≠ _; rw [add_block]; exact Nat.ne_of_lt (Nat.lt_of_lt_of_le (by have := World.block_lt_of_cell? _ _ hw270_0; first | rwa [add_block] at this | exact this) GW277.out)) | (dsimp only; exact Nat.ne_of_lt (Nat.lt_of_lt_of_le (by have := World.block_lt_of_cell? _ _ hw270_0; first | rwa [add_block] at this | exact this) GW277.out))) _).trans (hHeld.2.2.2.2))))))))))))⟩ (fun hHeld => ?_)
               clear hK K
               refine done_ (done_of HT_.out (by kernel_rfl)) ?_
               have hnb42 := NB277_269.out
               have hnc42 := NB269_277.out
               have hcz43_0 : w35.cell? ⟨gb277, 0, none⟩ = some (.int .i64 0) := (blk_cell BK277.out 0).trans rfl
               have hcz43_1 : w35.cell? ⟨gb277, 1, none⟩ = some (.string (⟨#[]⟩ : ByteArray)) := (blk_cell BK277.out 1).trans rfl
               have hcz43_2 : w35.cell? ⟨gb277, 2, none⟩ = some (.int .i64 0) := (blk_cell BK277.out 2).trans rfl
               have hcz43_3 : w35.cell? ⟨gb277, 3, none⟩ = some (.int .i64 0) := (blk_cell BK277.out 3).trans rfl
               have hcz43_4 : w35.cell? ⟨gb277, 4, none⟩ = some (.int .u32 0) := (blk_cell BK277.out 4).trans rfl
               have hcz43_5 : w35.cell? ⟨gb277, 5, none⟩ = some (.int .i32 0) := (blk_cell BK277.out 5).trans rfl
               have hfz43_0 := blk_frozen BK277.out 0
               have hfz43_1 := blk_frozen BK277.out 1
               have hfz43_2 := blk_frozen BK277.out 2
               have hfz43_3 := blk_frozen BK277.out 3
               have hfz43_4 := blk_frozen BK277.out 4
               have hfz43_5 := blk_frozen BK277.out 5
               have hcz44_0 : w35.cell? ⟨gb269, 0, none⟩ = some (.int .i64 x270000_2) := (blk_cell BK269.out 0).trans rfl
               have hcz44_1 : w35.cell? ⟨gb269, 1, none⟩ = some (.int .i64 x270001_2) := (blk_cell BK269.out 1).trans rfl
               have hcz44_2 : w35.cell? ⟨gb269, 2, none⟩ = some (.int .u32 x270002_2) := (blk_cell BK269.out 2).trans rfl
               have hcz44_3 : w35.cell? ⟨gb269, 3, none⟩ = some (.int .i32 x270003_2) := (blk_cell BK269.out 3).trans rfl
               have hfz44_0 := blk_frozen BK269.out 0
               have hfz44_1 := blk_frozen BK269.out 1
               have hfz44_2 := blk_frozen BK269.out 2
               have hfz44_3 := blk_frozen BK269.out 3
               have p278 : 0 ≤ (x9_2 : Int) := of_decide_eq_true (by first | (with_reducible assumption) | assumption)
               have q278 : x9_2 < (l1.length : Int) := of_decide_eq_true (by first | (with_reducible assumption) | assumption)
               obtain ⟨ad278, e278, hx278_0⟩ := Kd.at_int HR1.out x9_2 p278 q278
               obtain rfl : ad270 = ad278 := (by injection e278)
               have hn278_0 : ad270.block ≠ gb277 := Nat.ne_of_lt (Nat.lt_of_lt_of_le (by have := World.block_lt_of_cell? _ _ hx278_0; first | rwa [add_block] at this | exact this) GW277.out)
               have hn278_1 : ad270.block ≠ gb277 := Nat.ne_of_lt (Nat.lt_of_lt_of_le (by have := World.block_lt_of_cell? _ _ hx278_0; first | rwa [add_block] at this | exact this) GW277.out)
               have hn278_2 : ad270.block ≠ gb277 := Nat.ne_of_lt (Nat.lt_of_lt_of_le (by have := World.block_lt_of_cell? _ _ hx278_0; first | rwa [add_block] at this | exact this) GW277.out)
               have hn278_3 : ad270.block ≠ gb277 := Nat.ne_of_lt (Nat.lt_of_lt_of_le (by have := World.block_lt_of_cell? _ _ hx278_0; first | rwa [add_block] at this | exact this) GW277.out)
               have hn278_4 : ad270.block ≠ gb277 := Nat.ne_of_lt (Nat.lt_of_lt_of_le (by have := World.block_lt_of_cell? _ _ hx278_0; first | rwa [add_block] at this | exact this) GW277.out)
               have hn278_5 : ad270.block ≠ gb277 := Nat.ne_of_lt (Nat.lt_of_lt_of_le (by have := World.block_lt_of_cell? _ _ hx278_0; first | rwa [add_block] at this | exact this) GW277.out)
               have hn278_6 : ad270.block ≠ gb269 := Nat.ne_of_lt (Nat.lt_of_lt_of_le (by have := World.block_lt_of_cell? _ _ hx278_0; first | rwa [add_block] at this | exact this) GW269.out)
               have hn278_7 : ad270.block ≠ gb269 := Nat.ne_of_lt (Nat.lt_of_lt_of_le (by have := World.block_lt_of_cell? _ _ hx278_0; first | rwa [add_block] at this | exact this) GW269.out)
               have hn278_8 : ad270.block ≠ gb269 := Nat.ne_of_lt (Nat.lt_of_lt_of_le (by have := World.block_lt_of_cell? _ _ hx278_0; first | rwa [add_block] at this | exact this) GW269.out)
               have hn278_9 : ad270.block ≠ gb269 := Nat.ne_of_lt (Nat.lt_of_lt_of_le (by have := World.block_lt_of_cell? _ _ hx278_0; first | rwa [add_block] at this | exact this) GW269.out)
               replace hx278_0 := (HB.out.cell (World.block_lt_of_cell? w _ hx278_0)).trans hx278_0
               replace hx278_0 := (cell_far (p := ⟨gb277, 0, none⟩) (by first | (rw [add_block]; exact hn278_0) | (show (Addr.add _ _).block ≠ _; rw [add_block]; exact hn278_0) | exact hn278_0) (.int .i64 t271)).trans hx278_0
               replace hx278_0 := (cell_far (p := ⟨gb277, 1, none⟩) (by first | (rw [add_block]; exact hn278_1) | (show (Addr.add _ _).block ≠ _; rw [add_block]; exact hn278_1) | exact hn278_1) (.string t272)).trans hx278_0
               replace hx278_0 := (cell_far (p := ⟨gb277, 2, none⟩) (by first | (rw [add_block]; exact hn278_2) | (show (Addr.add _ _).block ≠ _; rw [add_block]; exact hn278_2) | exact hn278_2) (.int .i64 t273)).trans hx278_0
               replace hx278_0 := (cell_far (p := ⟨gb277, 3, none⟩) (by first | (rw [add_block]; exact hn278_3) | (show (Addr.add _ _).block ≠ _; rw [add_block]; exact hn278_3) | exact hn278_3) (.int .i64 t274)).trans hx278_0
               replace hx278_0 := (cell_far (p := ⟨gb277, 4, none⟩) (by first | (rw [add_block]; exact hn278_4) | (show (Addr.add _ _).block ≠ _; rw [add_block]; exact hn278_4) | exact hn278_4) (.int .u32 t275)).trans hx278_0
               replace hx278_0 := (cell_far (p := ⟨gb277, 5, none⟩) (by first | (rw [add_block]; exact hn278_5) | (show (Addr.add _ _).block ≠ _; rw [add_block]; exact hn278_5) | exact hn278_5) (.int .i32 t276)).trans hx278_0
               replace hx278_0 := (cell_far (p := ⟨gb269, 0, none⟩) (by first | (rw [add_block]; exact hn278_6) | (show (Addr.add _ _).block ≠ _; rw [add_block]; exact hn278_6) | exact hn278_6) (.int .i64 t273)).trans hx278_0
               replace hx278_0 := (cell_far (p := ⟨gb269, 1, none⟩) (by first | (rw [add_block]; exact hn278_7) | (show (Addr.add _ _).block ≠ _; rw [add_block]; exact hn278_7) | exact hn278_7) (.int .i64 t274)).trans hx278_0
               replace hx278_0 := (cell_far (p := ⟨gb269, 2, none⟩) (by first | (rw [add_block]; exact hn278_8) | (show (Addr.add _ _).block ≠ _; rw [add_block]; exact hn278_8) | exact hn278_8) (.int .u32 t275)).trans hx278_0
               replace hx278_0 := (cell_far (p := ⟨gb269, 3, none⟩) (by first | (rw [add_block]; exact hn278_9) | (show (Addr.add _ _).block ≠ _; rw [add_block]; exact hn278_9) | exact hn278_9) (.int .i32 t276)).trans hx278_0
               clear hn278_0
               clear hn278_1
               clear hn278_2
               clear hn278_3
               clear hn278_4
               clear hn278_5
               clear hn278_6
               clear hn278_7
               clear hn278_8
               clear hn278_9
               replace p278 := eq_true p278
               replace q278 := eq_true q278
               try go_wp2_with (first | ((with_reducible refine gate_builtin (b := .append) (xs := #[.tmp 51, .tmp 56]) rfl ?_); (try (refine gate_guard (by rfl) ?_; dsimp only)); at_builtin; refine Kd.R_append (Kd.int .i32) (w0 := w) w.heap.size rfl (.tmp 51) (.tmp 56) 39 21 (.int .i32 0) 4 rfl Try.underlying39 info21 rfl (by decide) (by omega) u8 x8_2 (rd l1 x9_2) [.int .i32 (rd l1 x9_2)] (fun _ => True) (fun _ => False) rfl (by first | (go_simp; done) | (go_simp; rfl)) ?aP (fun _ hk => hk.elim) ?aF ?aO ?aB ?aS ?aL ?_; (case aP => exact rfl); (case aB => exact (by repeat (first | (with_reducible first | exact HB.out | apply below_alloc | apply pw_below_drewN | apply below_drew1 | refine below_set ?_ GE269.out | refine below_set ?_ GE277.out) | exact HB.out))); (case aF => exact (fun _ _ => trivial)); (case aO => exact (by (with_reducible repeat (first | apply Kd.R_alloc | apply Kd.R_drewN | apply Kd.R_drew)); exact Kd.R_mono (Kd.R_far (p := ⟨gb269, 3, none⟩) (Kd.R_far (p := ⟨gb269, 2, none⟩) (Kd.R_far (p := ⟨gb269, 1, none⟩) (Kd.R_far (p := ⟨gb269, 0, none⟩) (Kd.R_far (p := ⟨gb277, 5, none⟩) (Kd.R_far (p := ⟨gb277, 4, none⟩) (Kd.R_far (p := ⟨gb277, 3, none⟩) (Kd.R_far (p := ⟨gb277, 2, none⟩) (Kd.R_far (p := ⟨gb277, 1, none⟩) (Kd.R_far (p := ⟨gb277, 0, none⟩) (Kd.R_types (Kd.R_types HO_8.out BK277.out (by decide)) BK269.out (by decide)) (fun _ hk => hk.1.2) (.int .i64 t271)) (fun _ hk => hk.1.2) (.string t272)) (fun _ hk => hk.1.2) (.int .i64 t273)) (fun _ hk => hk.1.2) (.int .i64 t274)) (fun _ hk => hk.1.2) (.int .u32 t275)) (fun _ hk => hk.1.2) (.int .i32 t276)) (fun _ hk => hk.2) (.int .i64 t273)) (fun _ hk => hk.2) (.int .i64 t274)) (fun _ hk => hk.2) (.int .u32 t275)) (fun _ hk => hk.2) (.int .i32 t276)) (fun _ hk => trivial))); (case aS => exact (below_size (by repeat (first | (with_reducible first | exact HB.out | apply below_alloc | apply pw_below_drewN | apply below_drew1 | refine below_set ?_ GE269.out | refine below_set ?_ GE277.out) | exact HB.out)))); (case aL => have := LMc31.out; omega); intro v280 w45 ho hb hg hat; rw [← Ny279.out] at ho; have n0_ := Aside0.mk (blk_grown (g := gb269) (o := .cells #[.int .i64 t273, .int .i64 t274, .int .u32 t275, .int .i32 t276] 25 (0, 0)) (by (with_reducible repeat (first | refine bN_ ?_ _ | refine bD_ ?_ | refine bA_ ?_ _)); refine blk_put (cs := #[.int .i64 t273, .int .i64 t274, .int .u32 t275, .int .i32 x270003_2]) ?_ 3 _ rfl; (with_reducible repeat (first | refine bN_ ?_ _ | refine bD_ ?_ | refine bA_ ?_ _)); refine blk_put (cs := #[.int .i64 t273, .int .i64 t274, .int .u32 x270002_2, .int .i32 x270003_2]) ?_ 2 _ rfl; (with_reducible repeat (first | refine bN_ ?_ _ | refine bD_ ?_ | refine bA_ ?_ _)); refine blk_put (cs := #[.int .i64 t273, .int .i64 x270001_2, .int .u32 x270002_2, .int .i32 x270003_2]) ?_ 1 _ rfl; (with_reducible repeat (first | refine bN_ ?_ _ | refine bD_ ?_ | refine bA_ ?_ _)); refine blk_put (cs := #[.int .i64 x270000_2, .int .i64 x270001_2, .int .u32 x270002_2, .int .i32 x270003_2]) ?_ 0 _ rfl; (with_reducible repeat (first | refine bN_ ?_ _ | refine bD_ ?_ | refine bA_ ?_ _)); refine blk_far ?_ NB269_277.out _; (with_reducible repeat (first | refine bN_ ?_ _ | refine bD_ ?_ | refine bA_ ?_ _)); refine blk_far ?_ NB269_277.out _; (with_reducible repeat (first | refine bN_ ?_ _ | refine bD_ ?_ | refine bA_ ?_ _)); refine blk_far ?_ NB269_277.out _; (with_reducible repeat (first | refine bN_ ?_ _ | refine bD_ ?_ | refine bA_ ?_ _)); refine blk_far ?_ NB269_277.out _; (with_reducible repeat (first | refine bN_ ?_ _ | refine bD_ ?_ | refine bA_ ?_ _)); refine blk_far ?_ NB269_277.out _; (with_reducible repeat (first | refine bN_ ?_ _ | refine bD_ ?_ | refine bA_ ?_ _)); refine blk_far ?_ NB269_277.out _; (with_reducible repeat (first | refine bN_ ?_ _ | refine bD_ ?_ | refine bA_ ?_ _)); exact BK269.out) hg (Kd.R_ne HO_8.out BK269.out (by decide))); have n1_ := Aside0.mk (blk_grown (g := gb277) (o := .cells #[.int .i64 t271, .string t272, .int .i64 t273, .int .i64 t274, .int .u32 t275, .int .i32 t276] 27 (0, 0)) (by (with_reducible repeat (first | refine bN_ ?_ _ | refine bD_ ?_ | refine bA_ ?_ _)); refine blk_far ?_ NB277_269.out _; (with_reducible repeat (first | refine bN_ ?_ _ | refine bD_ ?_ | refine bA_ ?_ _)); refine blk_far ?_ NB277_269.out _; (with_reducible repeat (first | refine bN_ ?_ _ | refine bD_ ?_ | refine bA_ ?_ _)); refine blk_far ?_ NB277_269.out _; (with_reducible repeat (first | refine bN_ ?_ _ | refine bD_ ?_ | refine bA_ ?_ _)); refine blk_far ?_ NB277_269.out _; (with_reducible repeat (first | refine bN_ ?_ _ | refine bD_ ?_ | refine bA_ ?_ _)); refine blk_put (cs := #[.int .i64 t271, .string t272, .int .i64 t273, .int .i64 t274, .int .u32 t275, .int .i32 0]) ?_ 5 _ rfl; (with_reducible repeat (first | refine bN_ ?_ _ | refine bD_ ?_ | refine bA_ ?_ _)); refine blk_put (cs := #[.int .i64 t271, .string t272, .int .i64 t273, .int .i64 t274, .int .u32 0, .int .i32 0]) ?_ 4 _ rfl; (with_reducible repeat (first | refine bN_ ?_ _ | refine bD_ ?_ | refine bA_ ?_ _)); refine blk_put (cs := #[.int .i64 t271, .string t272, .int .i64 t273, .int .i64 0, .int .u32 0, .int .i32 0]) ?_ 3 _ rfl; (with_reducible repeat (first | refine bN_ ?_ _ | refine bD_ ?_ | refine bA_ ?_ _)); refine blk_put (cs := #[.int .i64 t271, .string t272, .int .i64 0, .int .i64 0, .int .u32 0, .int .i32 0]) ?_ 2 _ rfl; (with_reducible repeat (first | refine bN_ ?_ _ | refine bD_ ?_ | refine bA_ ?_ _)); refine blk_put (cs := #[.int .i64 t271, .string (⟨#[]⟩ : ByteArray), .int .i64 0, .int .i64 0, .int .u32 0, .int .i32 0]) ?_ 1 _ rfl; (with_reducible repeat (first | refine bN_ ?_ _ | refine bD_ ?_ | refine bA_ ?_ _)); refine blk_put (cs := #[.int .i64 0, .string (⟨#[]⟩ : ByteArray), .int .i64 0, .int .i64 0, .int .u32 0, .int .i32 0]) ?_ 0 _ rfl; (with_reducible repeat (first | refine bN_ ?_ _ | refine bD_ ?_ | refine bA_ ?_ _)); exact BK277.out) hg (Kd.R_ne HO_8.out BK277.out (by decide))); have n2_ := Aside0.mk (hb); have n3_ := Aside0.mk (ho); clear BK269; clear BK277; clear HB; clear HO_8; have BK269 := n0_; have BK277 := n1_; have HB := n2_; have HO281 := n3_; clear n0_ n1_ n2_ n3_; clear ho hb hg hat))
               go_roundg kj9
               case measure => have := HJ4.out; have := HK2.out; have := HJ9.out; omega
               case rel => exact ⟨(x7_2 ++ t272), (y279), (wrap64 (x9_2 + 1)), (t273), (t274), (t275), (t276), (by first | rfl | (simp; done) | (simp [*]; done)), (by first | rfl | (simp; done) | (simp [*]; done)), H', ⟨by have := HJ4.out; have := HK2.out; have := HJ9.out; omega⟩, ⟨by (with_reducible repeat (first | apply Kd.R_alloc | apply Kd.R_drewN | apply Kd.R_drew)); exact HO281.out⟩, ⟨by (with_reducible repeat (first | refine bN_ ?_ _ | refine bD_ ?_ | refine bA_ ?_ _)); exact BK269.out⟩, ⟨by repeat (first | (with_reducible first | exact HB.out | apply below_alloc | apply pw_below_drewN | apply below_drew1 | refine below_set ?_ GE269.out | refine below_set ?_ GE277.out) | exact HB.out)⟩⟩
              ·rw [if_neg c31] at H
               exact absurd H (by simp)
             ·rw [if_neg c30] at H
              exact absurd H (by simp)
           ·rw [if_neg c16] at H
            have c16b0 : (t271 == 0) = false := beq_eq_false_iff_ne.mpr c16
            have c16b1 : (t271 != 0) = true := bne_iff_ne.mpr c16
            have H' := Aside0.mk H
            clear H
            try go_wp2
            have n0_ := Aside0.mk (Kd.R_drew HO_8.out)
            have n1_ := Aside0.mk (blk_drew BK269.out)
            have n2_ := Aside0.mk (below_drew1 HB.out)
            clear HO_8
            clear BK269
            clear HB
            have HO_8 := n0_
            have BK269 := n1_
            have HB := n2_
            clear n0_ n1_ n2_
            have p270 : 0 ≤ (x9_2 : Int) := of_decide_eq_true (by first | (with_reducible assumption) | assumption)
            have q270 : x9_2 < (l1.length : Int) := of_decide_eq_true (by first | (with_reducible assumption) | assumption)
            obtain ⟨ad270, e270, hx270_0⟩ := Kd.at_int HR1.out x9_2 p270 q270
            have hw270_0 := hx270_0
            cases e270
            replace hx270_0 := (HB.out.cell (World.block_lt_of_cell? w _ hx270_0)).trans hx270_0
            replace p270 := eq_true p270
            replace q270 := eq_true q270
            refine start_ (n := 9) (S := fun w' => w'.cell? ⟨gb269, 0, none⟩ = some (.int .i64 x270000_2) ∧ w'.cell? ⟨gb269, 1, none⟩ = some (.int .i64 x270001_2) ∧ w'.cell? ⟨gb269, 2, none⟩ = some (.int .u32 x270002_2) ∧ w'.cell? ⟨gb269, 3, none⟩ = some (.int .i32 x270003_2) ∧ w'.cell? (ad270.add (x9_2).toNat) = some (.int .i32 (rd l1 x9_2))) (ds := []) #[false, false, false, false, false, false, false, false, false] (by kernel_rfl) rfl rfl ⟨(blk_cell BK269.out 0).trans rfl, (blk_cell BK269.out 1).trans rfl, (blk_cell BK269.out 2).trans rfl, (blk_cell BK269.out 3).trans rfl, ((HB.out.cell (World.block_lt_of_cell? w _ hw270_0)).trans hw270_0)⟩ (fun hHeld => ?_); refine with_tabW dragomanlaw21_Iso2022Back.tab12 dragomanlaw21_Iso2022Back.bits12 (fun HT_ HW_ => ?_)
            generalize wc.drew = w46 at HO_8 BK269 HB hx270_0 hHeld ⊢
            refine pure_ (i := 0) (N := some 31) (v := ?_) (a' := ?_) #[true, false, false, false, false, false, false, false, false] rfl rfl (any_of HT_.out (by kernel_rfl)) (fun _ _ _ h => h) (Or.inl ⟨by rfl, ?_⟩) ?_ ?_
            rotate_left
            ·intro w'
             go_simp
             with_reducible rfl
            rotate_left
            ·simp only [Act.put, List.setIfInBounds_toArray, List.set_cons_zero, List.set_cons_succ, i64_w, i32_w]
             rfl
            refine pure_ (i := 2) (N := some 33) (v := ?_) (a' := ?_) #[true, false, true, false, false, false, false, false, false] rfl rfl (any_of HT_.out (by kernel_rfl)) (fun _ _ _ h => h) (Or.inl ⟨by rfl, ?_⟩) ?_ ?_
            rotate_left
            ·intro w'
             go_simp
             with_reducible rfl
            rotate_left
            ·simp only [Act.put, List.setIfInBounds_toArray, List.set_cons_zero, List.set_cons_succ, i64_w, i32_w]
             rfl
            refine pure_ (i := 3) (N := some 34) (v := ?_) (a' := ?_) #[true, false, true, true, false, false, false, false, false] rfl rfl (any_of HT_.out (by kernel_rfl)) (fun _ _ _ h => h) (Or.inl ⟨by rfl, ?_⟩) ?_ ?_
            rotate_left
            ·intro w'
             go_simp
             with_reducible rfl
            rotate_left
            ·simp only [Act.put, List.setIfInBounds_toArray, List.set_cons_zero, List.set_cons_succ, i64_w, i32_w]
             rfl
            refine pure_ (i := 4) (N := some 35) (v := ?_) (a' := ?_) #[true, false, true, true, true, false, false, false, false] rfl rfl (any_of HT_.out (by kernel_rfl)) (fun _ _ _ h => h) (Or.inl ⟨by rfl, ?_⟩) ?_ ?_
            rotate_left
            ·intro w'
             go_simp
             with_reducible rfl
            rotate_left
            ·simp only [Act.put, List.setIfInBounds_toArray, List.set_cons_zero, List.set_cons_succ, i64_w, i32_w]
             rfl
            refine take_ (i := 1) (N := some 32) (v := ?_) (a' := ?_) #[true, true, true, true, true, false, false, false, false] rfl rfl (take_ofW HT_.out HW_.out (by kernel_rfl)) (fun _ _ _ h => h) (Or.inl ⟨by rfl, ?_⟩) hHeld ?_ ?_
            rotate_left
            ·rintro w' ⟨s0, s1, s2, s3, s4⟩
             go_simp
             with_reducible rfl
            rotate_left
            ·simp only [Act.put, List.setIfInBounds_toArray, List.set_cons_zero, List.set_cons_succ, i64_w, i32_w]
             rfl
            refine take_ (i := 5) (N := some 36) (v := ?_) (a' := ?_) #[true, true, true, true, true, true, false, false, false] rfl rfl (take_ofW HT_.out HW_.out (by kernel_rfl)) (fun _ _ _ h => h) (Or.inl ⟨by rfl, ?_⟩) hHeld ?_ ?_
            rotate_left
            ·rintro w' ⟨s0, s1, s2, s3, s4⟩
             go_simp
             with_reducible rfl
            rotate_left
            ·simp only [Act.put, List.setIfInBounds_toArray, List.set_cons_zero, List.set_cons_succ, i64_w, i32_w]
             rfl
            refine join_ (σ := Nat) 1 #[true, true, true, true, true, true, true, true, false] (fun s_ => [(37, .agg #[.int .i64 t271, .string t272, .int .i64 t273, .int .i64 t274, .int .u32 t275, .int .i32 t276]), (10, .pointer (some ⟨s_, 0, none⟩))]) (fun s_ w' => (w'.cell? ⟨gb269, 0, none⟩ = some (.int .i64 x270000_2) ∧ w'.cell? ⟨gb269, 1, none⟩ = some (.int .i64 x270001_2) ∧ w'.cell? ⟨gb269, 2, none⟩ = some (.int .u32 x270002_2) ∧ w'.cell? ⟨gb269, 3, none⟩ = some (.int .i32 x270003_2) ∧ w'.cell? (ad270.add (x9_2).toNat) = some (.int .i32 (rd l1 x9_2))) ∧ (Kd.R (Kd.int .i32) 21 w' w.heap.size (fun _ => True) u8 x8_2) ∧ (w'.heap[gb269]? = some (.cells #[.int .i64 x270000_2, .int .i64 x270001_2, .int .u32 x270002_2, .int .i32 x270003_2] 25 (0, 0))) ∧ (w'.heap[s_]? = some (.cells #[.int .i64 0, .string (⟨#[]⟩ : ByteArray), .int .i64 0, .int .i64 0, .int .u32 0, .int .i32 0] 27 (0, 0))) ∧ (w.heap.size ≤ s_) ∧ (w.heap.size ≤ s_) ∧ (gb269 ≠ s_) ∧ (s_ ≠ gb269) ∧ (Below w.heap.size w w')) ?_ ?_
            rotate_left
            ·intro hCont
             refine two_ (i := 6) (j := 7) (Ni := some 37) (Nj := some 10) #[true, true, true, true, true, true, true, false, false] #[true, true, true, true, true, true, false, true, false] rfl rfl rfl rfl (two_of HT_.out (by kernel_rfl)) (by decide) (by decide) (fun K hK => ?_) (fun K hK => ?_)
             ·skip
              refine goes_ Try.func38 (by kernel_rfl) rfl #[.int .i64 x5_4, .agg #[.int .i64 x270000_2, .int .i64 x270001_2, .int .u32 x270002_2, .int .i32 x270003_2], .int .i32 (rd l1 x9_2)] (by rfl) rfl rfl (by (try simp only [List.map_toArray, List.map_cons, List.map_nil]); first | done | rfl | (simp only [List.length_drop, List.length_take]; rfl)) ?_
              with_reducible refine (iso2022_Set.calls kj9 x5_4 x270000_2 x270001_2 x270002_2 x270003_2 (rd l1 x9_2) t271 t272 t273 t274 t275 t276 _ A15.out).mono ?_
              rintro e w47 ⟨rfl, hb⟩
              refine ⟨_, rfl, ?_⟩
              have n0_ := Aside0.mk (Kd.R_below (by (with_reducible repeat (first | apply Kd.R_alloc | apply Kd.R_drewN | apply Kd.R_drew)); exact HO_8.out) hb)
              have n1_ := Aside0.mk (blk_below (g := gb269) (o := .cells #[.int .i64 x270000_2, .int .i64 x270001_2, .int .u32 x270002_2, .int .i32 x270003_2] 25 (0, 0)) (by (with_reducible repeat (first | refine bN_ ?_ _ | refine bD_ ?_ | refine bA_ ?_ _)); exact BK269.out) hb)
              have n2_ := Aside0.mk (below_step (by repeat (first | (with_reducible first | exact HB.out | apply below_alloc | apply pw_below_drewN | apply below_drew1 | refine below_set ?_ GE269.out) | exact HB.out)) hb)
              clear HO_8
              clear BK269
              clear HB
              have HO_8 := n0_
              have BK269 := n1_
              have HB := n2_
              clear n0_ n1_ n2_
              (try clear hb)
              (try clear hb2)
              (try clear hk)
              (try clear hi)
              refine hK.out _ _ ⟨(blk_cell BK269.out 0).trans rfl, (blk_cell BK269.out 1).trans rfl, (blk_cell BK269.out 2).trans rfl, (blk_cell BK269.out 3).trans rfl, ((HB.out.cell (World.block_lt_of_cell? w _ hw270_0)).trans hw270_0)⟩ (fun hHeld => ?_)
              clear hK K
              refine norm_ (a' := ?_) ?_ ?_
              rotate_left
              ·show Act.put _ (some 37) _ = _
               simp only [Act.put, List.setIfInBounds_toArray, List.set_cons_zero, List.set_cons_succ, i64_w, i32_w]
               rfl
              refine one_ (i := 7) (N := some 10) #[true, true, true, true, true, true, true, true, false] rfl rfl (one_of HT_.out (by kernel_rfl)) (by decide) (fun K hK => ?_)
              refine box_step ?hg (N := 10) ?hd (cs := #[.int .i64 0, .string (⟨#[]⟩ : ByteArray), .int .i64 0, .int .i64 0, .int .u32 0, .int .i32 0]) (t := 27) ?hr ?_; (case hd => rfl); (case hg => rfl); (case hr => first | (go_simp; done) | (go_simp; rfl))
              intro gb277 hg w48 hbox hb
              have n0_ := Aside0.mk (Kd.R_below (by (with_reducible repeat (first | apply Kd.R_alloc | apply Kd.R_drewN | apply Kd.R_drew)); exact HO_8.out) hb)
              have n1_ := Aside0.mk (blk_below (g := gb269) (o := .cells #[.int .i64 x270000_2, .int .i64 x270001_2, .int .u32 x270002_2, .int .i32 x270003_2] 25 (0, 0)) (by (with_reducible repeat (first | refine bN_ ?_ _ | refine bD_ ?_ | refine bA_ ?_ _)); exact BK269.out) hb)
              have n2_ := Aside0.mk (below_step (by repeat (first | (with_reducible first | exact HB.out | apply below_alloc | apply pw_below_drewN | apply below_drew1 | refine below_set ?_ GE269.out) | exact HB.out)) hb)
              have n3_ := Aside0.mk (hbox)
              have n4_ := Aside0.mk ((by rw [hg]; exact (below_size (by repeat (first | (with_reducible first | exact HB.out | apply below_alloc | apply pw_below_drewN | apply below_drew1 | refine below_set ?_ GE269.out) | exact HB.out))) : w.heap.size ≤ gb277))
              have n5_ := Aside0.mk ((by rw [hg]; exact (below_size (by repeat (first | (with_reducible first | exact HB.out | apply below_alloc | apply pw_below_drewN | apply below_drew1 | refine below_set ?_ GE269.out) | exact HB.out))) : w.heap.size ≤ gb277))
              have n6_ := Aside0.mk ((by rw [hg]; exact Nat.ne_of_lt (blk_lt (g := gb269) (o := .cells #[.int .i64 x270000_2, .int .i64 x270001_2, .int .u32 x270002_2, .int .i32 x270003_2] 25 (0, 0)) (by (with_reducible repeat (first | refine bN_ ?_ _ | refine bD_ ?_ | refine bA_ ?_ _)); exact BK269.out)) : gb269 ≠ gb277))
              have n7_ := Aside0.mk ((by rw [hg]; exact Nat.ne_of_gt (blk_lt (g := gb269) (o := .cells #[.int .i64 x270000_2, .int .i64 x270001_2, .int .u32 x270002_2, .int .i32 x270003_2] 25 (0, 0)) (by (with_reducible repeat (first | refine bN_ ?_ _ | refine bD_ ?_ | refine bA_ ?_ _)); exact BK269.out)) : gb277 ≠ gb269))
              clear HO_8
              clear BK269
              clear HB
              have HO_8 := n0_
              have BK269 := n1_
              have HB := n2_
              have BK277 := n3_
              have GW277 := n4_
              have GE277 := n5_
              have NB269_277 := n6_
              have NB277_269 := n7_
              clear n0_ n1_ n2_ n3_ n4_ n5_ n6_ n7_
              clear hb hbox hg
              refine hK.out _ _ ⟨(blk_cell BK269.out 0).trans rfl, (blk_cell BK269.out 1).trans rfl, (blk_cell BK269.out 2).trans rfl, (blk_cell BK269.out 3).trans rfl, ((HB.out.cell (World.block_lt_of_cell? w _ hw270_0)).trans hw270_0)⟩ (fun hHeld => ?_)
              clear hK K
              refine norm_ (a' := ?_) ?_ ?_
              rotate_left
              ·show Act.put _ (some 10) _ = _
               simp only [Act.put, List.setIfInBounds_toArray, List.set_cons_zero, List.set_cons_succ, i64_w, i32_w]
               rfl
              exact norm_ (by simp only [putAll, Act.put, List.setIfInBounds_toArray, List.set_cons_zero, List.set_cons_succ]) (hCont (gb277) _ ⟨hHeld, (by (with_reducible repeat (first | apply Kd.R_alloc | apply Kd.R_drewN | apply Kd.R_drew)); exact HO_8.out), (by (with_reducible repeat (first | refine bN_ ?_ _ | refine bD_ ?_ | refine bA_ ?_ _)); exact BK269.out), (by (with_reducible repeat (first | refine bN_ ?_ _ | refine bD_ ?_ | refine bA_ ?_ _)); exact BK277.out), GW277.out, GE277.out, NB269_277.out, NB277_269.out, (by repeat (first | (with_reducible first | exact HB.out | apply below_alloc | apply pw_below_drewN | apply below_drew1 | refine below_set ?_ GE269.out | refine below_set ?_ GE277.out) | exact HB.out))⟩)
             ·skip
              refine box_step ?hg (N := 10) ?hd (cs := #[.int .i64 0, .string (⟨#[]⟩ : ByteArray), .int .i64 0, .int .i64 0, .int .u32 0, .int .i32 0]) (t := 27) ?hr ?_; (case hd => rfl); (case hg => rfl); (case hr => first | (go_simp; done) | (go_simp; rfl))
              intro gb277 hg w47 hbox hb
              have n0_ := Aside0.mk (Kd.R_below (by (with_reducible repeat (first | apply Kd.R_alloc | apply Kd.R_drewN | apply Kd.R_drew)); exact HO_8.out) hb)
              have n1_ := Aside0.mk (blk_below (g := gb269) (o := .cells #[.int .i64 x270000_2, .int .i64 x270001_2, .int .u32 x270002_2, .int .i32 x270003_2] 25 (0, 0)) (by (with_reducible repeat (first | refine bN_ ?_ _ | refine bD_ ?_ | refine bA_ ?_ _)); exact BK269.out) hb)
              have n2_ := Aside0.mk (below_step (by repeat (first | (with_reducible first | exact HB.out | apply below_alloc | apply pw_below_drewN | apply below_drew1 | refine below_set ?_ GE269.out) | exact HB.out)) hb)
              have n3_ := Aside0.mk (hbox)
              have n4_ := Aside0.mk ((by rw [hg]; exact (below_size (by repeat (first | (with_reducible first | exact HB.out | apply below_alloc | apply pw_below_drewN | apply below_drew1 | refine below_set ?_ GE269.out) | exact HB.out))) : w.heap.size ≤ gb277))
              have n5_ := Aside0.mk ((by rw [hg]; exact (below_size (by repeat (first | (with_reducible first | exact HB.out | apply below_alloc | apply pw_below_drewN | apply below_drew1 | refine below_set ?_ GE269.out) | exact HB.out))) : w.heap.size ≤ gb277))
              have n6_ := Aside0.mk ((by rw [hg]; exact Nat.ne_of_lt (blk_lt (g := gb269) (o := .cells #[.int .i64 x270000_2, .int .i64 x270001_2, .int .u32 x270002_2, .int .i32 x270003_2] 25 (0, 0)) (by (with_reducible repeat (first | refine bN_ ?_ _ | refine bD_ ?_ | refine bA_ ?_ _)); exact BK269.out)) : gb269 ≠ gb277))
              have n7_ := Aside0.mk ((by rw [hg]; exact Nat.ne_of_gt (blk_lt (g := gb269) (o := .cells #[.int .i64 x270000_2, .int .i64 x270001_2, .int .u32 x270002_2, .int .i32 x270003_2] 25 (0, 0)) (by (with_reducible repeat (first | refine bN_ ?_ _ | refine bD_ ?_ | refine bA_ ?_ _)); exact BK269.out)) : gb277 ≠ gb269))
              clear HO_8
              clear BK269
              clear HB
              have HO_8 := n0_
              have BK269 := n1_
              have HB := n2_
              have BK277 := n3_
              have GW277 := n4_
              have GE277 := n5_
              have NB269_277 := n6_
              have NB277_269 := n7_
              clear n0_ n1_ n2_ n3_ n4_ n5_ n6_ n7_
              clear hb hbox hg
              refine hK.out _ _ ⟨(blk_cell BK269.out 0).trans rfl, (blk_cell BK269.out 1).trans rfl, (blk_cell BK269.out 2).trans rfl, (blk_cell BK269.out 3).trans rfl, ((HB.out.cell (World.block_lt_of_cell? w _ hw270_0)).trans hw270_0)⟩ (fun hHeld => ?_)
              clear hK K
              refine norm_ (a' := ?_) ?_ ?_
              rotate_left
              ·show Act.put _ (some 10) _ = _
               simp only [Act.put, List.setIfInBounds_toArray, List.set_cons_zero, List.set_cons_succ, i64_w, i32_w]
               rfl
              refine one_ (i := 6) (N := some 37) #[true, true, true, true, true, true, true, true, false] rfl rfl (one_of HT_.out (by kernel_rfl)) (by decide) (fun K hK => ?_)
              refine goes_ Try.func38 (by kernel_rfl) rfl #[.int .i64 x5_4, .agg #[.int .i64 x270000_2, .int .i64 x270001_2, .int .u32 x270002_2, .int .i32 x270003_2], .int .i32 (rd l1 x9_2)] (by rfl) rfl rfl (by (try simp only [List.map_toArray, List.map_cons, List.map_nil]); first | done | rfl | (simp only [List.length_drop, List.length_take]; rfl)) ?_
              with_reducible refine (iso2022_Set.calls kj9 x5_4 x270000_2 x270001_2 x270002_2 x270003_2 (rd l1 x9_2) t271 t272 t273 t274 t275 t276 _ A15.out).mono ?_
              rintro e w48 ⟨rfl, hb⟩
              refine ⟨_, rfl, ?_⟩
              have n0_ := Aside0.mk (Kd.R_below (by (with_reducible repeat (first | apply Kd.R_alloc | apply Kd.R_drewN | apply Kd.R_drew)); exact HO_8.out) hb)
              have n1_ := Aside0.mk (blk_below (g := gb269) (o := .cells #[.int .i64 x270000_2, .int .i64 x270001_2, .int .u32 x270002_2, .int .i32 x270003_2] 25 (0, 0)) (by (with_reducible repeat (first | refine bN_ ?_ _ | refine bD_ ?_ | refine bA_ ?_ _)); exact BK269.out) hb)
              have n2_ := Aside0.mk (blk_below (g := gb277) (o := .cells #[.int .i64 0, .string (⟨#[]⟩ : ByteArray), .int .i64 0, .int .i64 0, .int .u32 0, .int .i32 0] 27 (0, 0)) (by (with_reducible repeat (first | refine bN_ ?_ _ | refine bD_ ?_ | refine bA_ ?_ _)); exact BK277.out) hb)
              have n3_ := Aside0.mk (below_step (by repeat (first | (with_reducible first | exact HB.out | apply below_alloc | apply pw_below_drewN | apply below_drew1 | refine below_set ?_ GE269.out | refine below_set ?_ GE277.out) | exact HB.out)) hb)
              clear HO_8
              clear BK269
              clear BK277
              clear HB
              have HO_8 := n0_
              have BK269 := n1_
              have BK277 := n2_
              have HB := n3_
              clear n0_ n1_ n2_ n3_
              (try clear hb)
              (try clear hb2)
              (try clear hk)
              (try clear hi)
              refine hK.out _ _ ⟨(blk_cell BK269.out 0).trans rfl, (blk_cell BK269.out 1).trans rfl, (blk_cell BK269.out 2).trans rfl, (blk_cell BK269.out 3).trans rfl, ((HB.out.cell (World.block_lt_of_cell? w _ hw270_0)).trans hw270_0)⟩ (fun hHeld => ?_)
              clear hK K
              refine norm_ (a' := ?_) ?_ ?_
              rotate_left
              ·show Act.put _ (some 37) _ = _
               simp only [Act.put, List.setIfInBounds_toArray, List.set_cons_zero, List.set_cons_succ, i64_w, i32_w]
               rfl
              exact norm_ (by simp only [putAll, Act.put, List.setIfInBounds_toArray, List.set_cons_zero, List.set_cons_succ]) (hCont (gb277) _ ⟨hHeld, (by (with_reducible repeat (first | apply Kd.R_alloc | apply Kd.R_drewN | apply Kd.R_drew)); exact HO_8.out), (by (with_reducible repeat (first | refine bN_ ?_ _ | refine bD_ ?_ | refine bA_ ?_ _)); exact BK269.out), (by (with_reducible repeat (first | refine bN_ ?_ _ | refine bD_ ?_ | refine bA_ ?_ _)); exact BK277.out), GW277.out, GE277.out, NB269_277.out, NB277_269.out, (by repeat (first | (with_reducible first | exact HB.out | apply below_alloc | apply pw_below_drewN | apply below_drew1 | refine below_set ?_ GE269.out | refine below_set ?_ GE277.out) | exact HB.out))⟩)
            rintro gb277 w49 ⟨hS_, h0_, h1_, h2_, h3_, h4_, h5_, h6_, h7_⟩
            have n0_ : Aside0 (Kd.R (Kd.int .i32) 21 w49 w.heap.size (fun _ => True) u8 x8_2) := ⟨h0_⟩
            have n1_ : Aside0 (w49.heap[gb269]? = some (.cells #[.int .i64 x270000_2, .int .i64 x270001_2, .int .u32 x270002_2, .int .i32 x270003_2] 25 (0, 0))) := ⟨h1_⟩
            have n2_ : Aside0 (w49.heap[gb277]? = some (.cells #[.int .i64 0, .string (⟨#[]⟩ : ByteArray), .int .i64 0, .int .i64 0, .int .u32 0, .int .i32 0] 27 (0, 0))) := ⟨h2_⟩
            have n3_ : Aside0 (w.heap.size ≤ gb277) := ⟨h3_⟩
            have n4_ : Aside0 (w.heap.size ≤ gb277) := ⟨h4_⟩
            have n5_ : Aside0 (gb269 ≠ gb277) := ⟨h5_⟩
            have n6_ : Aside0 (gb277 ≠ gb269) := ⟨h6_⟩
            have n7_ : Aside0 (Below w.heap.size w w49) := ⟨h7_⟩
            clear HO_8
            clear BK269
            clear HB
            clear h0_ h1_ h2_ h3_ h4_ h5_ h6_ h7_
            have HO_8 := n0_
            have BK269 := n1_
            have BK277 := n2_
            have GW277 := n3_
            have GE277 := n4_
            have NB269_277 := n5_
            have NB277_269 := n6_
            have HB := n7_
            clear n0_ n1_ n2_ n3_ n4_ n5_ n6_ n7_
            have hHeld : w49.cell? ⟨gb269, 0, none⟩ = some (.int .i64 x270000_2) ∧ w49.cell? ⟨gb269, 1, none⟩ = some (.int .i64 x270001_2) ∧ w49.cell? ⟨gb269, 2, none⟩ = some (.int .u32 x270002_2) ∧ w49.cell? ⟨gb269, 3, none⟩ = some (.int .i32 x270003_2) ∧ w49.cell? (ad270.add (x9_2).toNat) = some (.int .i32 (rd l1 x9_2)) := hS_
            refine norm_ (a' := ?_) ?_ ?_
            rotate_left
            ·simp only [putAll, Act.put, List.setIfInBounds_toArray, List.set_cons_zero, List.set_cons_succ]
             rfl
            refine one_ (i := 8) (N := none) #[true, true, true, true, true, true, true, true, true] rfl rfl (one_of HT_.out (by kernel_rfl)) (by decide) (fun K hK => ?_)
            have hs50 : w49.cell? ⟨gb277, 0, none⟩ = some (.int .i64 0) := (blk_cell BK277.out 0).trans rfl
            have hfs50 := blk_frozen BK277.out 0
            have hns50_0 := NB269_277.out
            have hms50_0 := NB277_269.out
            have hs51 : w49.cell? ⟨gb277, 1, none⟩ = some (.string (⟨#[]⟩ : ByteArray)) := (blk_cell BK277.out 1).trans rfl
            have hfs51 := blk_frozen BK277.out 1
            have hns51_0 := NB269_277.out
            have hms51_0 := NB277_269.out
            have hs52 : w49.cell? ⟨gb277, 2, none⟩ = some (.int .i64 0) := (blk_cell BK277.out 2).trans rfl
            have hfs52 := blk_frozen BK277.out 2
            have hns52_0 := NB269_277.out
            have hms52_0 := NB277_269.out
            have hs53 : w49.cell? ⟨gb277, 3, none⟩ = some (.int .i64 0) := (blk_cell BK277.out 3).trans rfl
            have hfs53 := blk_frozen BK277.out 3
            have hns53_0 := NB269_277.out
            have hms53_0 := NB277_269.out
            have hs54 : w49.cell? ⟨gb277, 4, none⟩ = some (.int .u32 0) := (blk_cell BK277.out 4).trans rfl
            have hfs54 := blk_frozen BK277.out 4
            have hns54_0 := NB269_277.out
            have hms54_0 := NB277_269.out
            have hs55 : w49.cell? ⟨gb277, 5, none⟩ = some (.int .i32 0) := (blk_cell BK277.out 5).trans rfl
            have hfs55 := blk_frozen BK277.out 5
            have hns55_0 := NB269_277.out
            have hms55_0 := NB277_269.out
            refine skip_ (w1 := ?_) (by rfl) rfl ?_ ?_
            rotate_left
            ·go_simp
             rfl
            refine hK.out _ _ ⟨((cell_far (p := ⟨gb277, _, none⟩) NB269_277.out _).trans (((cell_far (p := ⟨gb277, _, none⟩) NB269_277.out _).trans (((cell_far (p := ⟨gb277, _, none⟩) NB269_277.out _).trans (((cell_far (p := ⟨gb277, _, none⟩) NB269_277.out _).trans (((cell_far (p := ⟨gb277, _, none⟩) NB269_277.out _).trans (((cell_far (p := ⟨gb277, _, none⟩) NB269_277.out _).trans (hHeld.1)))))))))))), ((cell_far (p := ⟨gb277, _, none⟩) NB269_277.out _).trans (((cell_far (p := ⟨gb277, _, none⟩) NB269_277.out _).trans (((cell_far (p := ⟨gb277, _, none⟩) NB269_277.out _).trans (((cell_far (p := ⟨gb277, _, none⟩) NB269_277.out _).trans (((cell_far (p := ⟨gb277, _, none⟩) NB269_277.out _).trans (((cell_far (p := ⟨gb277, _, none⟩) NB269_277.out _).trans (hHeld.2.1)))))))))))), ((cell_far (p := ⟨gb277, _, none⟩) NB269_277.out _).trans (((cell_far (p := ⟨gb277, _, none⟩) NB269_277.out _).trans (((cell_far (p := ⟨gb277, _, none⟩) NB269_277.out _).trans (((cell_far (p := ⟨gb277, _, none⟩) NB269_277.out _).trans (((cell_far (p := ⟨gb277, _, none⟩) NB269_277.out _).trans (((cell_far (p := ⟨gb277, _, none⟩) NB269_277.out _).trans (hHeld.2.2.1)))))))))))), ((cell_far (p := ⟨gb277, _, none⟩) NB269_277.out _).trans (((cell_far (p := ⟨gb277, _, none⟩) NB269_277.out _).trans (((cell_far (p := ⟨gb277, _, none⟩) NB269_277.out _).trans (((cell_far (p := ⟨gb277, _, none⟩) NB269_277.out _).trans (((cell_far (p := ⟨gb277, _, none⟩) NB269_277.out _).trans (((cell_far (p := ⟨gb277, _, none⟩) NB269_277.out _).trans (hHeld.2.2.2.1)))))))))))), ((cell_far (p := ⟨gb277, _, none⟩) (by first | exact Nat.ne_of_lt (Nat.lt_of_lt_of_le (by have := World.block_lt_of_cell? _ _ hw270_0; first | rwa [add_block] at this | exact this) GW277.out) | (rw [add_block]; exact Nat.ne_of_lt (Nat.lt_of_lt_of_le (by have := World.block_lt_of_cell? _ _ hw270_0; first | rwa [add_block] at this | exact this) GW277.out)) | (show (Addr.add _ _).block ≠ _; rw [add_block]; exact Nat.ne_of_lt (Nat.lt_of_lt_of_le (by have := World.block_lt_of_cell? _ _ hw270_0; first | rwa [add_block] at this | exact this) GW277.out)) | (dsimp only; exact Nat.ne_of_lt (Nat.lt_of_lt_of_le (by have := World.block_lt_of_cell? _ _ hw270_0; first | rwa [add_block] at this | exact this) GW277.out))) _).trans (((cell_far (p := ⟨gb277, _, none⟩) (by first | exact Nat.ne_of_lt (Nat.lt_of_lt_of_le (by have := World.block_lt_of_cell? _ _ hw270_0; first | rwa [add_block] at this | exact this) GW277.out) | (rw [add_block]; exact Nat.ne_of_lt (Nat.lt_of_lt_of_le (by have := World.block_lt_of_cell? _ _ hw270_0; first | rwa [add_block] at this | exact this) GW277.out)) | (show (Addr.add _ _).block ≠ _; rw [add_block]; exact Nat.ne_of_lt (Nat.lt_of_lt_of_le (by have := World.block_lt_of_cell? _ _ hw270_0; first | rwa [add_block] at this | exact this) GW277.out)) | (dsimp only; exact Nat.ne_of_lt (Nat.lt_of_lt_of_le (by have := World.block_lt_of_cell? _ _ hw270_0; first | rwa [add_block] at this | exact this) GW277.out))) _).trans (((cell_far (p := ⟨gb277, _, none⟩) (by first | exact Nat.ne_of_lt (Nat.lt_of_lt_of_le (by have := World.block_lt_of_cell? _ _ hw270_0; first | rwa [add_block] at this | exact this) GW277.out) | (rw [add_block]; exact Nat.ne_of_lt (Nat.lt_of_lt_of_le (by have := World.block_lt_of_cell? _ _ hw270_0; first | rwa [add_block] at this | exact this) GW277.out)) | (show (Addr.add _ _).block ≠ _; rw [add_block]; exact Nat.ne_of_lt (Nat.lt_of_lt_of_le (by have := World.block_lt_of_cell? _ _ hw270_0; first | rwa [add_block] at this | exact this) GW277.out)) | (dsimp only; exact Nat.ne_of_lt (Nat.lt_of_lt_of_le (by have := World.block_lt_of_cell? _ _ hw270_0; first | rwa [add_block] at this | exact this) GW277.out))) _).trans (((cell_far (p := ⟨gb277, _, none⟩) (by first | exact Nat.ne_of_lt (Nat.lt_of_lt_of_le (by have := World.block_lt_of_cell? _ _ hw270_0; first | rwa [add_block] at this | exact this) GW277.out) | (rw [add_block]; exact Nat.ne_of_lt (Nat.lt_of_lt_of_le (by have := World.block_lt_of_cell? _ _ hw270_0; first | rwa [add_block] at this | exact this) GW277.out)) | (show (Addr.add _ _).block ≠ _; rw [add_block]; exact Nat.ne_of_lt (Nat.lt_of_lt_of_le (by have := World.block_lt_of_cell? _ _ hw270_0; first | rwa [add_block] at this | exact this) GW277.out)) | (dsimp only; exact Nat.ne_of_lt (Nat.lt_of_lt_of_le (by have := World.block_lt_of_cell? _ _ hw270_0; first | rwa [add_block] at this | exact this) GW277.out))) _).trans (((cell_far (p := ⟨gb277, _, none⟩) (by first | exact Nat.ne_of_lt (Nat.lt_of_lt_of_le (by have := World.block_lt_of_cell? _ _ hw270_0; first | rwa [add_block] at this | exact this) GW277.out) | (rw [add_block]; exact Nat.ne_of_lt (Nat.lt_of_lt_of_le (by have := World.block_lt_of_cell? _ _ hw270_0; first | rwa [add_block] at this | exact this) GW277.out)) | (show (Addr.add _ _).block ≠ _; rw [add_block]; exact Nat.ne_of_lt (Nat.lt_of_lt_of_le (by have := World.block_lt_of_cell? _ _ hw270_0; first | rwa [add_block] at this | exact this) GW277.out)) | (dsimp only; exact Nat.ne_of_lt (Nat.lt_of_lt_of_le (by have := World.block_lt_of_cell? _ _ hw270_0; first | rwa [add_block] at this | exact this) GW277.out))) _).trans (((cell_far (p := ⟨gb277, _, none⟩) (by first | exact Nat.ne_of_lt (Nat.lt_of_lt_of_le (by have := World.block_lt_of_cell? _ _ hw270_0; first | rwa [add_block] at this | exact this) GW277.out) | (rw [add_block]; exact Nat.ne_of_lt (Nat.lt_of_lt_of_le (by have := World.block_lt_of_cell? _ _ hw270_0; first | rwa [add_block] at this | exact this) GW277.out)) | (show (Addr.add _ _).block ≠ _; rw [add_block]; exact Nat.ne_of_lt (Nat.lt_of_lt_of_le (by have := World.block_lt_of_cell? _ _ hw270_0; first | rwa [add_block] at this | exact this) GW277.out)) | (dsimp only; exact Nat.ne_of_lt (Nat.lt_of_lt_of_le (by have := World.block_lt_of_cell? _ _ hw270_0; first | rwa [add_block] at this | exact this) GW277.out))) _).trans (hHeld.2.2.2.2))))))))))))⟩ (fun hHeld => ?_)
            clear hK K
            refine done_ (done_of HT_.out (by kernel_rfl)) ?_
            have hnb56 := NB277_269.out
            have hnc56 := NB269_277.out
            have hcz57_0 : w49.cell? ⟨gb277, 0, none⟩ = some (.int .i64 0) := (blk_cell BK277.out 0).trans rfl
            have hcz57_1 : w49.cell? ⟨gb277, 1, none⟩ = some (.string (⟨#[]⟩ : ByteArray)) := (blk_cell BK277.out 1).trans rfl
            have hcz57_2 : w49.cell? ⟨gb277, 2, none⟩ = some (.int .i64 0) := (blk_cell BK277.out 2).trans rfl
            have hcz57_3 : w49.cell? ⟨gb277, 3, none⟩ = some (.int .i64 0) := (blk_cell BK277.out 3).trans rfl
            have hcz57_4 : w49.cell? ⟨gb277, 4, none⟩ = some (.int .u32 0) := (blk_cell BK277.out 4).trans rfl
            have hcz57_5 : w49.cell? ⟨gb277, 5, none⟩ = some (.int .i32 0) := (blk_cell BK277.out 5).trans rfl
            have hfz57_0 := blk_frozen BK277.out 0
            have hfz57_1 := blk_frozen BK277.out 1
            have hfz57_2 := blk_frozen BK277.out 2
            have hfz57_3 := blk_frozen BK277.out 3
            have hfz57_4 := blk_frozen BK277.out 4
            have hfz57_5 := blk_frozen BK277.out 5
            try go_wp2
            go_roundg kj9
            case measure => have := HJ4.out; have := HK2.out; have := HJ9.out; omega
            case rel => exact ⟨(x7_2), (x8_2), (wrap64 (x9_2 + 1)), (x270000_2), (x270001_2), (x270002_2), (x270003_2), (by first | rfl | (simp; done) | (simp [*]; done)), (by first | rfl | (simp; done) | (simp [*]; done)), H', ⟨by have := HJ4.out; have := HK2.out; have := HJ9.out; omega⟩, ⟨by (with_reducible repeat (first | apply Kd.R_alloc | apply Kd.R_drewN | apply Kd.R_drew)); exact Kd.R_mono (Kd.R_far (p := ⟨gb277, 5, none⟩) (Kd.R_far (p := ⟨gb277, 4, none⟩) (Kd.R_far (p := ⟨gb277, 3, none⟩) (Kd.R_far (p := ⟨gb277, 2, none⟩) (Kd.R_far (p := ⟨gb277, 1, none⟩) (Kd.R_far (p := ⟨gb277, 0, none⟩) (Kd.R_types HO_8.out BK277.out (by decide)) (fun _ hk => hk.2) (.int .i64 t271)) (fun _ hk => hk.2) (.string t272)) (fun _ hk => hk.2) (.int .i64 t273)) (fun _ hk => hk.2) (.int .i64 t274)) (fun _ hk => hk.2) (.int .u32 t275)) (fun _ hk => hk.2) (.int .i32 t276)) (fun _ hk => trivial)⟩, ⟨by (with_reducible repeat (first | refine bN_ ?_ _ | refine bD_ ?_ | refine bA_ ?_ _)); refine blk_far ?_ NB269_277.out _; (with_reducible repeat (first | refine bN_ ?_ _ | refine bD_ ?_ | refine bA_ ?_ _)); refine blk_far ?_ NB269_277.out _; (with_reducible repeat (first | refine bN_ ?_ _ | refine bD_ ?_ | refine bA_ ?_ _)); refine blk_far ?_ NB269_277.out _; (with_reducible repeat (first | refine bN_ ?_ _ | refine bD_ ?_ | refine bA_ ?_ _)); refine blk_far ?_ NB269_277.out _; (with_reducible repeat (first | refine bN_ ?_ _ | refine bD_ ?_ | refine bA_ ?_ _)); refine blk_far ?_ NB269_277.out _; (with_reducible repeat (first | refine bN_ ?_ _ | refine bD_ ?_ | refine bA_ ?_ _)); refine blk_far ?_ NB269_277.out _; (with_reducible repeat (first | refine bN_ ?_ _ | refine bD_ ?_ | refine bA_ ?_ _)); exact BK269.out⟩, ⟨by repeat (first | (with_reducible first | exact HB.out | apply below_alloc | apply pw_below_drewN | apply below_drew1 | refine below_set ?_ GE269.out | refine below_set ?_ GE277.out) | exact HB.out)⟩⟩
          ·rw [if_neg c14] at H
           exact absurd H (by simp)
         ·rw [if_neg c13] at H
          exact absurd H (by simp)
        ·replace c12 := Bool.eq_false_iff.mpr c12
         subst c12
         have H1 : ((iso2022_End.f kj9 x5_4 x270000_2 x270001_2 x270002_2 x270003_2).bind fun bt282 => (if bt282.2.2.2.2.2 = 0 then (if x7_2.size + bt282.1.size ≤ 9223372036854775807 then (dragomanlaw21_Iso2022Back.l1 kj9 a0 x5_4 (x7_2 ++ bt282.1) x8_2 0 0 0 0 0) else (none)) else (some false))) = some r := by rw [if_neg (show ¬ (false = true) by decide)] at H; exact H
         clear H
         have H := H1
         clear H1
         replace H := Option.bind_eq_some_iff.mp H
         obtain ⟨⟨t282, t283, t284, t285, t286, t287⟩, A580, H⟩ := H
         replace H : (if t287 = 0 then (if x7_2.size + t282.size ≤ 9223372036854775807 then (dragomanlaw21_Iso2022Back.l1 kj9 a0 x5_4 (x7_2 ++ t282) x8_2 0 0 0 0 0) else (none)) else (some false)) = some r := H
         have A58 := Aside0.mk A580
         clear A580
         by_cases c59 : t287 = 0
         ·rw [if_pos c59] at H
          have c59b0 : (t287 == 0) = true := beq_iff_eq.mpr c59
          have c59b1 : (t287 != 0) = false := bne_eq_false_iff_eq.mpr c59
          clear c59
          by_cases c60 : x7_2.size + t282.size ≤ 9223372036854775807
          ·rw [if_pos c60] at H
           have c60b0 := eq_true c60
           have c60b1 : decide (x7_2.size + t282.size ≤ 9223372036854775807) = true := decide_eq_true c60
           try have c60b2 : (9223372036854775807 < x7_2.size + t282.size) = False := eq_false (Nat.not_lt.2 c60)
           have H' := Aside0.mk H
           clear H
           have hcz61_0 : wc.cell? ⟨gb269, 0, none⟩ = some (.int .i64 x270000_2) := (blk_cell BK269.out 0).trans rfl
           have hcz61_1 : wc.cell? ⟨gb269, 1, none⟩ = some (.int .i64 x270001_2) := (blk_cell BK269.out 1).trans rfl
           have hcz61_2 : wc.cell? ⟨gb269, 2, none⟩ = some (.int .u32 x270002_2) := (blk_cell BK269.out 2).trans rfl
           have hcz61_3 : wc.cell? ⟨gb269, 3, none⟩ = some (.int .i32 x270003_2) := (blk_cell BK269.out 3).trans rfl
           have hfz61_0 := blk_frozen BK269.out 0
           have hfz61_1 := blk_frozen BK269.out 1
           have hfz61_2 := blk_frozen BK269.out 2
           have hfz61_3 := blk_frozen BK269.out 3
           go_wp2_with (first | ((with_reducible refine gate_callee (f := 36) rfl ?_); refine goesL_ (some 61) rfl rfl Try.func36 (by kernel_rfl) rfl #[.int .i64 x5_4, .agg #[.int .i64 x270000_2, .int .i64 x270001_2, .int .u32 x270002_2, .int .i32 x270003_2]] rfl (by (try simp only [List.map_toArray, List.map_cons, List.map_nil]); first | done | rfl | (simp only [List.length_drop, List.length_take]; rfl)) ?_; (with_reducible refine (iso2022_End.calls kj9 x5_4 x270000_2 x270001_2 x270002_2 x270003_2 t282 t283 t284 t285 t286 t287 _ A58.out).mono ?_); rintro e w62 ⟨rfl, hb⟩; refine ⟨_, rfl, ?_⟩; have n0_ := Aside0.mk (Kd.R_below (by (with_reducible repeat (first | apply Kd.R_alloc | apply Kd.R_drewN | apply Kd.R_drew)); exact HO_8.out) hb); have n1_ := Aside0.mk (blk_below (g := gb269) (o := .cells #[.int .i64 x270000_2, .int .i64 x270001_2, .int .u32 x270002_2, .int .i32 x270003_2] 25 (0, 0)) (by (with_reducible repeat (first | refine bN_ ?_ _ | refine bD_ ?_ | refine bA_ ?_ _)); exact BK269.out) hb); have n2_ := Aside0.mk (below_step (by repeat (first | (with_reducible first | exact HB.out | apply below_alloc | apply pw_below_drewN | apply below_drew1 | refine below_set ?_ GE269.out) | exact HB.out)) hb); clear HO_8; clear BK269; clear HB; have HO_8 := n0_; have BK269 := n1_; have HB := n2_; clear n0_ n1_ n2_; (try clear hb); (try clear hb2); (try clear hk); (try clear hi)) | ((with_reducible refine gate_dst (N := 12) rfl ?_); (try (refine gate_guard (by rfl) ?_; dsimp only)); refine box_event ?hg (N := 12) ?hd (cs := #[.int .i64 0, .int .i64 0, .int .u32 0, .int .i32 0]) (t := 25) ?hr ?_; (case hd => rfl); (case hg => rfl); (case hr => first | (go_simp; done) | (go_simp; rfl)); intro gb288 hg w63 hbox hb; have n0_ := Aside0.mk (Kd.R_below (by (with_reducible repeat (first | apply Kd.R_alloc | apply Kd.R_drewN | apply Kd.R_drew)); exact HO_8.out) hb); have n1_ := Aside0.mk (blk_below (g := gb269) (o := .cells #[.int .i64 x270000_2, .int .i64 x270001_2, .int .u32 x270002_2, .int .i32 x270003_2] 25 (0, 0)) (by (with_reducible repeat (first | refine bN_ ?_ _ | refine bD_ ?_ | refine bA_ ?_ _)); exact BK269.out) hb); have n2_ := Aside0.mk (below_step (by repeat (first | (with_reducible first | exact HB.out | apply below_alloc | apply pw_below_drewN | apply below_drew1 | refine below_set ?_ GE269.out) | exact HB.out)) hb); have n3_ := Aside0.mk (hbox); have n4_ := Aside0.mk ((by rw [hg]; exact (below_size (by repeat (first | (with_reducible first | exact HB.out | apply below_alloc | apply pw_below_drewN | apply below_drew1 | refine below_set ?_ GE269.out) | exact HB.out))) : w.heap.size ≤ gb288)); have n5_ := Aside0.mk ((by rw [hg]; exact (below_size (by repeat (first | (with_reducible first | exact HB.out | apply below_alloc | apply pw_below_drewN | apply below_drew1 | refine below_set ?_ GE269.out) | exact HB.out))) : w.heap.size ≤ gb288)); have n6_ := Aside0.mk ((by rw [hg]; exact Nat.ne_of_lt (blk_lt (g := gb269) (o := .cells #[.int .i64 x270000_2, .int .i64 x270001_2, .int .u32 x270002_2, .int .i32 x270003_2] 25 (0, 0)) (by (with_reducible repeat (first | refine bN_ ?_ _ | refine bD_ ?_ | refine bA_ ?_ _)); exact BK269.out)) : gb269 ≠ gb288)); have n7_ := Aside0.mk ((by rw [hg]; exact Nat.ne_of_gt (blk_lt (g := gb269) (o := .cells #[.int .i64 x270000_2, .int .i64 x270001_2, .int .u32 x270002_2, .int .i32 x270003_2] 25 (0, 0)) (by (with_reducible repeat (first | refine bN_ ?_ _ | refine bD_ ?_ | refine bA_ ?_ _)); exact BK269.out)) : gb288 ≠ gb269)); clear HO_8; clear BK269; clear HB; have HO_8 := n0_; have BK269 := n1_; have HB := n2_; have BK288 := n3_; have GW288 := n4_; have GE288 := n5_; have NB269_288 := n6_; have NB288_269 := n7_; clear n0_ n1_ n2_ n3_ n4_ n5_ n6_ n7_; clear hb hbox hg; have hnb64 := NB288_269.out; have hnc64 := NB269_288.out; have hcz65_0 : w63.cell? ⟨gb288, 0, none⟩ = some (.int .i64 0) := (blk_cell BK288.out 0).trans rfl; have hcz65_1 : w63.cell? ⟨gb288, 1, none⟩ = some (.int .i64 0) := (blk_cell BK288.out 1).trans rfl; have hcz65_2 : w63.cell? ⟨gb288, 2, none⟩ = some (.int .u32 0) := (blk_cell BK288.out 2).trans rfl; have hcz65_3 : w63.cell? ⟨gb288, 3, none⟩ = some (.int .i32 0) := (blk_cell BK288.out 3).trans rfl; have hfz65_0 := blk_frozen BK288.out 0; have hfz65_1 := blk_frozen BK288.out 1; have hfz65_2 := blk_frozen BK288.out 2; have hfz65_3 := blk_frozen BK288.out 3; have hcz66_0 : w63.cell? ⟨gb269, 0, none⟩ = some (.int .i64 x270000_2) := (blk_cell BK269.out 0).trans rfl; have hcz66_1 : w63.cell? ⟨gb269, 1, none⟩ = some (.int .i64 x270001_2) := (blk_cell BK269.out 1).trans rfl; have hcz66_2 : w63.cell? ⟨gb269, 2, none⟩ = some (.int .u32 x270002_2) := (blk_cell BK269.out 2).trans rfl; have hcz66_3 : w63.cell? ⟨gb269, 3, none⟩ = some (.int .i32 x270003_2) := (blk_cell BK269.out 3).trans rfl; have hfz66_0 := blk_frozen BK269.out 0; have hfz66_1 := blk_frozen BK269.out 1; have hfz66_2 := blk_frozen BK269.out 2; have hfz66_3 := blk_frozen BK269.out 3))
           go_loopg [7, 14] kj9 (fun kq v7 v14 w' => ∃ (x7_4 : ByteArray) (x14_4 : Int) (x270000_4 : Int) (x270001_4 : Int) (x270002_4 : Int) (x270003_4 : Int), v7 = .string x7_4 ∧ v14 = .int .i64 x14_4 ∧ Aside0 (dragomanlaw21_Iso2022Back.l1 kq a0 x5_4 x7_4 x8_2 x14_4 x270000_4 x270001_4 x270002_4 x270003_4 = some r) ∧ Aside0 (kq ≤ kj9) ∧ Aside0 (Kd.R (Kd.int .i32) 21 w' w.heap.size (fun _ => True) u8 x8_2) ∧ Aside0 (w'.heap[gb269]? = some (.cells #[.int .i64 x270000_4, .int .i64 x270001_4, .int .u32 x270002_4, .int .i32 x270003_4] 25 (0, 0))) ∧ Aside0 (w'.heap[gb288]? = some (.cells #[.int .i64 t283, .int .i64 t284, .int .u32 t285, .int .i32 t286] 25 (0, 0))) ∧ Aside0 (Below w.heap.size w w'))
           case atStart => exact ⟨(x7_2 ++ t282), (0), (0), (0), (0), (0), (by first | rfl | (simp; done) | (simp [*]; done)), (by first | rfl | (simp; done) | (simp [*]; done)), H', ⟨Nat.le_refl _⟩, ⟨by (with_reducible repeat (first | apply Kd.R_alloc | apply Kd.R_drewN | apply Kd.R_drew)); exact Kd.R_mono (Kd.R_far (p := ⟨gb269, 3, none⟩) (Kd.R_far (p := ⟨gb269, 2, none⟩) (Kd.R_far (p := ⟨gb269, 1, none⟩) (Kd.R_far (p := ⟨gb269, 0, none⟩) (Kd.R_far (p := ⟨gb288, 3, none⟩) (Kd.R_far (p := ⟨gb288, 2, none⟩) (Kd.R_far (p := ⟨gb288, 1, none⟩) (Kd.R_far (p := ⟨gb288, 0, none⟩) (Kd.R_types (Kd.R_types HO_8.out BK288.out (by decide)) BK269.out (by decide)) (fun _ hk => hk.1.2) (.int .i64 t283)) (fun _ hk => hk.1.2) (.int .i64 t284)) (fun _ hk => hk.1.2) (.int .u32 t285)) (fun _ hk => hk.1.2) (.int .i32 t286)) (fun _ hk => hk.2) (.int .i64 0)) (fun _ hk => hk.2) (.int .i64 0)) (fun _ hk => hk.2) (.int .u32 0)) (fun _ hk => hk.2) (.int .i32 0)) (fun _ hk => trivial)⟩, ⟨by (with_reducible repeat (first | refine bN_ ?_ _ | refine bD_ ?_ | refine bA_ ?_ _)); refine blk_put (cs := #[.int .i64 0, .int .i64 0, .int .u32 0, .int .i32 x270003_2]) ?_ 3 _ rfl; (with_reducible repeat (first | refine bN_ ?_ _ | refine bD_ ?_ | refine bA_ ?_ _)); refine blk_put (cs := #[.int .i64 0, .int .i64 0, .int .u32 x270002_2, .int .i32 x270003_2]) ?_ 2 _ rfl; (with_reducible repeat (first | refine bN_ ?_ _ | refine bD_ ?_ | refine bA_ ?_ _)); refine blk_put (cs := #[.int .i64 0, .int .i64 x270001_2, .int .u32 x270002_2, .int .i32 x270003_2]) ?_ 1 _ rfl; (with_reducible repeat (first | refine bN_ ?_ _ | refine bD_ ?_ | refine bA_ ?_ _)); refine blk_put (cs := #[.int .i64 x270000_2, .int .i64 x270001_2, .int .u32 x270002_2, .int .i32 x270003_2]) ?_ 0 _ rfl; (with_reducible repeat (first | refine bN_ ?_ _ | refine bD_ ?_ | refine bA_ ?_ _)); refine blk_far ?_ NB269_288.out _; (with_reducible repeat (first | refine bN_ ?_ _ | refine bD_ ?_ | refine bA_ ?_ _)); refine blk_far ?_ NB269_288.out _; (with_reducible repeat (first | refine bN_ ?_ _ | refine bD_ ?_ | refine bA_ ?_ _)); refine blk_far ?_ NB269_288.out _; (with_reducible repeat (first | refine bN_ ?_ _ | refine bD_ ?_ | refine bA_ ?_ _)); refine blk_far ?_ NB269_288.out _; (with_reducible repeat (first | refine bN_ ?_ _ | refine bD_ ?_ | refine bA_ ?_ _)); exact BK269.out⟩, ⟨by (with_reducible repeat (first | refine bN_ ?_ _ | refine bD_ ?_ | refine bA_ ?_ _)); refine blk_far ?_ NB288_269.out _; (with_reducible repeat (first | refine bN_ ?_ _ | refine bD_ ?_ | refine bA_ ?_ _)); refine blk_far ?_ NB288_269.out _; (with_reducible repeat (first | refine bN_ ?_ _ | refine bD_ ?_ | refine bA_ ?_ _)); refine blk_far ?_ NB288_269.out _; (with_reducible repeat (first | refine bN_ ?_ _ | refine bD_ ?_ | refine bA_ ?_ _)); refine blk_far ?_ NB288_269.out _; (with_reducible repeat (first | refine bN_ ?_ _ | refine bD_ ?_ | refine bA_ ?_ _)); refine blk_put (cs := #[.int .i64 t283, .int .i64 t284, .int .u32 t285, .int .i32 0]) ?_ 3 _ rfl; (with_reducible repeat (first | refine bN_ ?_ _ | refine bD_ ?_ | refine bA_ ?_ _)); refine blk_put (cs := #[.int .i64 t283, .int .i64 t284, .int .u32 0, .int .i32 0]) ?_ 2 _ rfl; (with_reducible repeat (first | refine bN_ ?_ _ | refine bD_ ?_ | refine bA_ ?_ _)); refine blk_put (cs := #[.int .i64 t283, .int .i64 0, .int .u32 0, .int .i32 0]) ?_ 1 _ rfl; (with_reducible repeat (first | refine bN_ ?_ _ | refine bD_ ?_ | refine bA_ ?_ _)); refine blk_put (cs := #[.int .i64 0, .int .i64 0, .int .u32 0, .int .i32 0]) ?_ 0 _ rfl; (with_reducible repeat (first | refine bN_ ?_ _ | refine bD_ ?_ | refine bA_ ?_ _)); exact BK288.out⟩, ⟨by repeat (first | (with_reducible first | exact HB.out | apply below_alloc | apply pw_below_drewN | apply below_drew1 | refine below_set ?_ GE269.out | refine below_set ?_ GE288.out) | exact HB.out)⟩⟩
           case round =>
            clear H'
            (try clear c1); (try clear p2); (try clear q2); (try clear hx2); (try clear c3); (try clear c4); (try clear c5); (try clear c6); (try clear p6); (try clear c12); (try clear c13); (try clear c14); (try clear c16); (try clear c16b0); (try clear c16b1); (try clear p27); (try clear q27); (try clear hx27); (try clear c30); (try clear c31); (try clear c36); (try clear c38); (try clear c42); (try clear c56)
            (try clear c59); (try clear c59b0); (try clear c59b1); (try clear c60); (try clear c60b0); (try clear c60b1); (try clear c60b2); (try clear c64); (try clear p64); (try clear hcz43_0); (try clear hcz43_1); (try clear hcz43_2); (try clear hcz43_3); (try clear hcz43_4); (try clear hcz43_5); (try clear hcz44_0); (try clear hcz44_1); (try clear hcz44_2); (try clear hcz44_3); (try clear hcz57_0)
            (try clear hcz57_1); (try clear hcz57_2); (try clear hcz57_3); (try clear hcz57_4); (try clear hcz57_5); (try clear hcz61_0); (try clear hcz61_1); (try clear hcz61_2); (try clear hcz61_3); (try clear hcz65_0); (try clear hcz65_1); (try clear hcz65_2); (try clear hcz65_3); (try clear hcz66_0); (try clear hcz66_1); (try clear hcz66_2); (try clear hcz66_3); (try clear hfz43_0); (try clear hfz43_1)
            (try clear hfz43_2); (try clear hfz43_3); (try clear hfz43_4); (try clear hfz43_5); (try clear hfz44_0); (try clear hfz44_1); (try clear hfz44_2); (try clear hfz44_3); (try clear hfz57_0); (try clear hfz57_1); (try clear hfz57_2); (try clear hfz57_3); (try clear hfz57_4); (try clear hfz57_5); (try clear hfz61_0); (try clear hfz61_1); (try clear hfz61_2); (try clear hfz61_3); (try clear hfz65_0)
            (try clear hfz65_1); (try clear hfz65_2); (try clear hfz65_3); (try clear hfz66_0); (try clear hfz66_1); (try clear hfz66_2); (try clear hfz66_3); (try clear hx270_0); (try clear hx278_0); (try clear p270); (try clear p278); (try clear q270); (try clear q278)
            obtain ⟨x7_4, x14_4, x270000_4, x270001_4, x270002_4, x270003_4, rfl, rfl, HA, HK4, HO_8, BK269, BK288, HB⟩ := hrel
            cases gk with
            | zero => exact absurd HA.out (by simp [dragomanlaw21_Iso2022Back.l1])
            | succ k4 =>
             have H := HA.out
             clear HA
             simp only [dragomanlaw21_Iso2022Back.l1] at H
             by_cases c67 : (x7_4.size : Int) > 0
             ·rw [if_pos c67] at H
              have c67b0 : decide (0 < (x7_4.size : Int)) = true := decide_eq_true c67
              have c67b1 : decide (0 < x7_4.size) = true := decide_eq_true (by omega)
              clear c67
              replace H := Option.bind_eq_some_iff.mp H
              obtain ⟨t289, A680, H⟩ := H
              replace H : ((iso2022_Get.f k4 x5_4 x270000_4 x270001_4 x270002_4 x270003_4 t289).bind fun bt292 => (if bt292.1 = 0 then (if bt292.2.1 < 1 then (dragomanlaw21_Iso2022Back.j4 k4 a0 x5_4 x7_4 x8_2 x14_4 true bt292.1 bt292.2.1 bt292.2.2.1 bt292.2.2.2.1 bt292.2.2.2.2.1 bt292.2.2.2.2.2.1 bt292.2.2.2.2.2.2.1 bt292.2.2.2.2.2.2.2.1 bt292.2.2.2.2.2.2.2.2) else (if bt292.2.1 > (x7_4.size : Int) then (dragomanlaw21_Iso2022Back.j4 k4 a0 x5_4 x7_4 x8_2 x14_4 true bt292.1 bt292.2.1 bt292.2.2.1 bt292.2.2.2.1 bt292.2.2.2.2.1 bt292.2.2.2.2.2.1 bt292.2.2.2.2.2.2.1 bt292.2.2.2.2.2.2.2.1 bt292.2.2.2.2.2.2.2.2) else (dragomanlaw21_Iso2022Back.j4 k4 a0 x5_4 x7_4 x8_2 x14_4 (decide (bt292.2.2.1 > 1)) bt292.1 bt292.2.1 bt292.2.2.1 bt292.2.2.2.1 bt292.2.2.2.2.1 bt292.2.2.2.2.2.1 bt292.2.2.2.2.2.2.1 bt292.2.2.2.2.2.2.2.1 bt292.2.2.2.2.2.2.2.2))) else (dragomanlaw21_Iso2022Back.j4 k4 a0 x5_4 x7_4 x8_2 x14_4 true bt292.1 bt292.2.1 bt292.2.2.1 bt292.2.2.2.1 bt292.2.2.2.2.1 bt292.2.2.2.2.2.1 bt292.2.2.2.2.2.2.1 bt292.2.2.2.2.2.2.2.1 bt292.2.2.2.2.2.2.2.2))) = some r := H
              have A68 := Aside0.mk A680
              clear A680
              replace H := Option.bind_eq_some_iff.mp H
              obtain ⟨⟨t292, t293, t294, t295, t296, t297, t298, t299, t300⟩, A690, H⟩ := H
              replace H : (if t292 = 0 then (if t293 < 1 then (dragomanlaw21_Iso2022Back.j4 k4 a0 x5_4 x7_4 x8_2 x14_4 true t292 t293 t294 t295 t296 t297 t298 t299 t300) else (if t293 > (x7_4.size : Int) then (dragomanlaw21_Iso2022Back.j4 k4 a0 x5_4 x7_4 x8_2 x14_4 true t292 t293 t294 t295 t296 t297 t298 t299 t300) else (dragomanlaw21_Iso2022Back.j4 k4 a0 x5_4 x7_4 x8_2 x14_4 (decide (t294 > 1)) t292 t293 t294 t295 t296 t297 t298 t299 t300))) else (dragomanlaw21_Iso2022Back.j4 k4 a0 x5_4 x7_4 x8_2 x14_4 true t292 t293 t294 t295 t296 t297 t298 t299 t300)) = some r := H
              have A69 := Aside0.mk A690
              clear A690
              have HC70 := Aside0.mk H
              clear H
              have hnb71 := NB269_288.out
              have hnc71 := NB288_269.out
              have hcz72_0 : wr.cell? ⟨gb269, 0, none⟩ = some (.int .i64 x270000_4) := (blk_cell BK269.out 0).trans rfl
              have hcz72_1 : wr.cell? ⟨gb269, 1, none⟩ = some (.int .i64 x270001_4) := (blk_cell BK269.out 1).trans rfl
              have hcz72_2 : wr.cell? ⟨gb269, 2, none⟩ = some (.int .u32 x270002_4) := (blk_cell BK269.out 2).trans rfl
              have hcz72_3 : wr.cell? ⟨gb269, 3, none⟩ = some (.int .i32 x270003_4) := (blk_cell BK269.out 3).trans rfl
              have hfz72_0 := blk_frozen BK269.out 0
              have hfz72_1 := blk_frozen BK269.out 1
              have hfz72_2 := blk_frozen BK269.out 2
              have hfz72_3 := blk_frozen BK269.out 3
              go_upto_region 27 with (first | ((with_reducible refine gate_conv rfl ?_); refine convL_ (some 77) rfl rfl x7_4 rfl (by first | rfl | (simp; done)) ?_; (with_reducible refine (strbytes.calls x7_4 t289 _ A68.out).mono ?_); rintro e w73 ⟨v290, rfl, ho0, hb⟩; refine ⟨_, rfl, ?_⟩; have n0_ := Aside0.mk (Kd.R_below (by (with_reducible repeat (first | apply Kd.R_alloc | apply Kd.R_drewN | apply Kd.R_drew)); exact HO_8.out) hb); have n1_ := Aside0.mk (Kd.V_lower (Kd.V_mono (ok' := fun k_ => some k_ ≠ (u8 : Value).ownBlock ∧ k_ ≠ gb269 ∧ k_ ≠ gb288) ho0 (fun k_ hk_ => ⟨(Kd.fresh' (Kd.R_lt (by (with_reducible repeat (first | apply Kd.R_alloc | apply Kd.R_drewN | apply Kd.R_drew)); exact HO_8.out)) k_ hk_), (Kd.freshB (g := gb269) (o := .cells #[.int .i64 x270000_4, .int .i64 x270001_4, .int .u32 x270002_4, .int .i32 x270003_4] 25 (0, 0)) (by (with_reducible repeat (first | refine bN_ ?_ _ | refine bD_ ?_ | refine bA_ ?_ _)); exact BK269.out) k_ hk_), (Kd.freshB (g := gb288) (o := .cells #[.int .i64 t283, .int .i64 t284, .int .u32 t285, .int .i32 t286] 25 (0, 0)) (by (with_reducible repeat (first | refine bN_ ?_ _ | refine bD_ ?_ | refine bA_ ?_ _)); exact BK288.out) k_ hk_)⟩)) (below_size (by repeat (first | (with_reducible first | exact HB.out | apply below_alloc | apply pw_below_drewN | apply below_drew1 | refine below_set ?_ GE269.out | refine below_set ?_ GE288.out) | exact HB.out)))); have n2_ := Aside0.mk (blk_below (g := gb269) (o := .cells #[.int .i64 x270000_4, .int .i64 x270001_4, .int .u32 x270002_4, .int .i32 x270003_4] 25 (0, 0)) (by (with_reducible repeat (first | refine bN_ ?_ _ | refine bD_ ?_ | refine bA_ ?_ _)); exact BK269.out) hb); have n3_ := Aside0.mk (blk_below (g := gb288) (o := .cells #[.int .i64 t283, .int .i64 t284, .int .u32 t285, .int .i32 t286] 25 (0, 0)) (by (with_reducible repeat (first | refine bN_ ?_ _ | refine bD_ ?_ | refine bA_ ?_ _)); exact BK288.out) hb); have n4_ := Aside0.mk (below_step (by repeat (first | (with_reducible first | exact HB.out | apply below_alloc | apply pw_below_drewN | apply below_drew1 | refine below_set ?_ GE269.out | refine below_set ?_ GE288.out) | exact HB.out)) hb); clear HO_8; clear BK269; clear BK288; clear HB; have HO_8 := n0_; have HO291 := n1_; have BK269 := n2_; have BK288 := n3_; have HB := n4_; clear n0_ n1_ n2_ n3_ n4_; (try clear hb); (try clear hb2); (try clear hk); (try clear hi); (try clear ho0); obtain ⟨Ao74, co74, eo74⟩ := Kd.V_slice HO291.out; subst eo74) | ((with_reducible refine gate_callee (f := 32) rfl ?_); refine goesL_ (some 78) rfl rfl Try.func32 (by kernel_rfl) rfl #[.int .i64 x5_4, .agg #[.int .i64 x270000_4, .int .i64 x270001_4, .int .u32 x270002_4, .int .i32 x270003_4], .slice Ao74 t289.length co74] rfl (by (try simp only [List.map_toArray, List.map_cons, List.map_nil]); first | done | rfl | (simp only [List.length_drop, List.length_take]; rfl)) ?_; (with_reducible refine (iso2022_Get.calls k4 x5_4 x270000_4 x270001_4 x270002_4 x270003_4 _ _ t289 t292 t293 t294 t295 t296 t297 t298 t299 t300 _ ?side1 ?side2 A69.out).mono ?_); (case side1 => repeat (first | exact (Kd.V_reads' HO291.out).2.2 | (with_reducible refine Kd.C_alloc ?_ _) | (with_reducible refine Kd.C_drewN ?_ _) | (with_reducible refine Kd.C_drew ?_))); (case side2 => exact (Kd.V_reads' HO291.out).2.1); rintro e w75 ⟨rfl, hb⟩; refine ⟨_, rfl, ?_⟩; have n0_ := Aside0.mk (Kd.R_below (by (with_reducible repeat (first | apply Kd.R_alloc | apply Kd.R_drewN | apply Kd.R_drew)); exact HO_8.out) hb); have n1_ := Aside0.mk (Kd.V_below (by (with_reducible repeat (first | apply Kd.V_alloc | apply Kd.V_drewN | apply Kd.V_drew)); exact HO291.out) hb); have n2_ := Aside0.mk (blk_below (g := gb269) (o := .cells #[.int .i64 x270000_4, .int .i64 x270001_4, .int .u32 x270002_4, .int .i32 x270003_4] 25 (0, 0)) (by (with_reducible repeat (first | refine bN_ ?_ _ | refine bD_ ?_ | refine bA_ ?_ _)); exact BK269.out) hb); have n3_ := Aside0.mk (blk_below (g := gb288) (o := .cells #[.int .i64 t283, .int .i64 t284, .int .u32 t285, .int .i32 t286] 25 (0, 0)) (by (with_reducible repeat (first | refine bN_ ?_ _ | refine bD_ ?_ | refine bA_ ?_ _)); exact BK288.out) hb); have n4_ := Aside0.mk (below_step (by repeat (first | (with_reducible first | exact HB.out | apply below_alloc | apply pw_below_drewN | apply below_drew1 | refine below_set ?_ GE269.out | refine below_set ?_ GE288.out) | exact HB.out)) hb); clear HO_8; clear HO291; clear BK269; clear BK288; clear HB; have HO_8 := n0_; have HO291 := n1_; have BK269 := n2_; have BK288 := n3_; have HB := n4_; clear n0_ n1_ n2_ n3_ n4_; (try clear hb); (try clear hb2); (try clear hk); (try clear hi)) | ((with_reducible refine gate_dst (N := 15) rfl ?_); (try (refine gate_guard (by rfl) ?_; dsimp only)); refine box_event ?hg (N := 15) ?hd (cs := #[.int .i64 0, .int .i64 0, .int .i64 0, .int .i32 0, .int .i32 0, .int .i64 0, .int .i64 0, .int .u32 0, .int .i32 0]) (t := 36) ?hr ?_; (case hd => rfl); (case hg => rfl); (case hr => first | (go_simp; done) | (go_simp; rfl)); intro gb301 hg w76 hbox hb; have n0_ := Aside0.mk (Kd.R_below (by (with_reducible repeat (first | apply Kd.R_alloc | apply Kd.R_drewN | apply Kd.R_drew)); exact HO_8.out) hb); have n1_ := Aside0.mk (Kd.V_below (Kd.V_elderB (by (with_reducible repeat (first | apply Kd.V_alloc | apply Kd.V_drewN | apply Kd.V_drew)); exact HO291.out) gb301 (Nat.le_of_eq hg.symm)) hb); have n2_ := Aside0.mk (blk_below (g := gb269) (o := .cells #[.int .i64 x270000_4, .int .i64 x270001_4, .int .u32 x270002_4, .int .i32 x270003_4] 25 (0, 0)) (by (with_reducible repeat (first | refine bN_ ?_ _ | refine bD_ ?_ | refine bA_ ?_ _)); exact BK269.out) hb); have n3_ := Aside0.mk (blk_below (g := gb288) (o := .cells #[.int .i64 t283, .int .i64 t284, .int .u32 t285, .int .i32 t286] 25 (0, 0)) (by (with_reducible repeat (first | refine bN_ ?_ _ | refine bD_ ?_ | refine bA_ ?_ _)); exact BK288.out) hb); have n4_ := Aside0.mk (below_step (by repeat (first | (with_reducible first | exact HB.out | apply below_alloc | apply pw_below_drewN | apply below_drew1 | refine below_set ?_ GE269.out | refine below_set ?_ GE288.out) | exact HB.out)) hb); have n5_ := Aside0.mk (hbox); have n6_ := Aside0.mk ((by rw [hg]; exact (below_size (by repeat (first | (with_reducible first | exact HB.out | apply below_alloc | apply pw_below_drewN | apply below_drew1 | refine below_set ?_ GE269.out | refine below_set ?_ GE288.out) | exact HB.out))) : w.heap.size ≤ gb301)); have n7_ := Aside0.mk ((by rw [hg]; exact (below_size (by repeat (first | (with_reducible first | exact HB.out | apply below_alloc | apply pw_below_drewN | apply below_drew1 | refine below_set ?_ GE269.out | refine below_set ?_ GE288.out) | exact HB.out))) : w.heap.size ≤ gb301)); have n8_ := Aside0.mk ((by rw [hg]; exact Nat.ne_of_lt (blk_lt (g := gb269) (o := .cells #[.int .i64 x270000_4, .int .i64 x270001_4, .int .u32 x270002_4, .int .i32 x270003_4] 25 (0, 0)) (by (with_reducible repeat (first | refine bN_ ?_ _ | refine bD_ ?_ | refine bA_ ?_ _)); exact BK269.out)) : gb269 ≠ gb301)); have n9_ := Aside0.mk ((by rw [hg]; exact Nat.ne_of_gt (blk_lt (g := gb269) (o := .cells #[.int .i64 x270000_4, .int .i64 x270001_4, .int .u32 x270002_4, .int .i32 x270003_4] 25 (0, 0)) (by (with_reducible repeat (first | refine bN_ ?_ _ | refine bD_ ?_ | refine bA_ ?_ _)); exact BK269.out)) : gb301 ≠ gb269)); have n10_ := Aside0.mk ((by rw [hg]; exact Nat.ne_of_lt (blk_lt (g := gb288) (o := .cells #[.int .i64 t283, .int .i64 t284, .int .u32 t285, .int .i32 t286] 25 (0, 0)) (by (with_reducible repeat (first | refine bN_ ?_ _ | refine bD_ ?_ | refine bA_ ?_ _)); exact BK288.out)) : gb288 ≠ gb301)); have n11_ := Aside0.mk ((by rw [hg]; exact Nat.ne_of_gt (blk_lt (g := gb288) (o := .cells #[.int .i64 t283, .int .i64 t284, .int .u32 t285, .int .i32 t286] 25 (0, 0)) (by (with_reducible repeat (first | refine bN_ ?_ _ | refine bD_ ?_ | refine bA_ ?_ _)); exact BK288.out)) : gb301 ≠ gb288)); clear HO_8; clear HO291; clear BK269; clear BK288; clear HB; have HO_8 := n0_; have HO291 := n1_; have BK269 := n2_; have BK288 := n3_; have HB := n4_; have BK301 := n5_; have GW301 := n6_; have GE301 := n7_; have NB269_301 := n8_; have NB301_269 := n9_; have NB288_301 := n10_; have NB301_288 := n11_; clear n0_ n1_ n2_ n3_ n4_ n5_ n6_ n7_ n8_ n9_ n10_ n11_; clear hb hbox hg; have hnb77 := NB301_269.out; have hnc77 := NB269_301.out; have hnb78 := NB301_288.out; have hnc78 := NB288_301.out; have hcz79_0 : w76.cell? ⟨gb301, 0, none⟩ = some (.int .i64 0) := (blk_cell BK301.out 0).trans rfl; have hcz79_1 : w76.cell? ⟨gb301, 1, none⟩ = some (.int .i64 0) := (blk_cell BK301.out 1).trans rfl; have hcz79_2 : w76.cell? ⟨gb301, 2, none⟩ = some (.int .i64 0) := (blk_cell BK301.out 2).trans rfl; have hcz79_3 : w76.cell? ⟨gb301, 3, none⟩ = some (.int .i32 0) := (blk_cell BK301.out 3).trans rfl; have hcz79_4 : w76.cell? ⟨gb301, 4, none⟩ = some (.int .i32 0) := (blk_cell BK301.out 4).trans rfl; have hcz79_5 : w76.cell? ⟨gb301, 5, none⟩ = some (.int .i64 0) := (blk_cell BK301.out 5).trans rfl; have hcz79_6 : w76.cell? ⟨gb301, 6, none⟩ = some (.int .i64 0) := (blk_cell BK301.out 6).trans rfl; have hcz79_7 : w76.cell? ⟨gb301, 7, none⟩ = some (.int .u32 0) := (blk_cell BK301.out 7).trans rfl; have hcz79_8 : w76.cell? ⟨gb301, 8, none⟩ = some (.int .i32 0) := (blk_cell BK301.out 8).trans rfl; have hfz79_0 := blk_frozen BK301.out 0; have hfz79_1 := blk_frozen BK301.out 1; have hfz79_2 := blk_frozen BK301.out 2; have hfz79_3 := blk_frozen BK301.out 3; have hfz79_4 := blk_frozen BK301.out 4; have hfz79_5 := blk_frozen BK301.out 5; have hfz79_6 := blk_frozen BK301.out 6; have hfz79_7 := blk_frozen BK301.out 7; have hfz79_8 := blk_frozen BK301.out 8))
              (try simp only [Act.put, List.setIfInBounds_toArray, List.set_cons_zero, List.set_cons_succ])
              go_cut [98] (fun v98 wc => ∃ (kq : Nat) (x98_69 : Bool), v98 = .bool x98_69 ∧ Aside0 (dragomanlaw21_Iso2022Back.j4 kq a0 x5_4 x7_4 x8_2 x14_4 x98_69 t292 t293 t294 t295 t296 t297 t298 t299 t300 = some r) ∧ Aside0 (kq ≤ k4) ∧ Aside0 (Kd.R (Kd.int .i32) 21 wc w.heap.size (fun _ => True) u8 x8_2) ∧ Aside0 (wc.heap[gb269]? = some (.cells #[.int .i64 x270000_4, .int .i64 x270001_4, .int .u32 x270002_4, .int .i32 x270003_4] 25 (0, 0))) ∧ Aside0 (wc.heap[gb288]? = some (.cells #[.int .i64 t283, .int .i64 t284, .int .u32 t285, .int .i32 t286] 25 (0, 0))) ∧ Aside0 (wc.heap[gb301]? = some (.cells #[.int .i64 t292, .int .i64 t293, .int .i64 t294, .int .i32 t295, .int .i32 t296, .int .i64 t297, .int .i64 t298, .int .u32 t299, .int .i32 t300] 36 (0, 0))) ∧ Aside0 (Below w.heap.size w wc))
              case first =>
               have H := HC70.out
               clear HC70
               by_cases c80 : t292 = 0
               ·rw [if_pos c80] at H
                have c80b0 : (t292 == 0) = true := beq_iff_eq.mpr c80
                have c80b1 : (t292 != 0) = false := bne_eq_false_iff_eq.mpr c80
                clear c80
                (first | rw [c80b0] | (simp only [i64_w, i32_w]; rw [c80b0]) | skip)
                by_cases c81 : t293 < 1
                ·rw [if_pos c81] at H
                 have c81b0 : decide (t293 < 1) = true := decide_eq_true c81
                 clear c81
                 have H' := Aside0.mk H
                 clear H
                 have hnb82 := NB301_269.out
                 have hnc82 := NB269_301.out
                 have hnb83 := NB301_288.out
                 have hnc83 := NB288_301.out
                 have hcz84_0 : w76.cell? ⟨gb301, 0, none⟩ = some (.int .i64 0) := (blk_cell BK301.out 0).trans rfl
                 have hcz84_1 : w76.cell? ⟨gb301, 1, none⟩ = some (.int .i64 0) := (blk_cell BK301.out 1).trans rfl
                 have hcz84_2 : w76.cell? ⟨gb301, 2, none⟩ = some (.int .i64 0) := (blk_cell BK301.out 2).trans rfl
                 have hcz84_3 : w76.cell? ⟨gb301, 3, none⟩ = some (.int .i32 0) := (blk_cell BK301.out 3).trans rfl
                 have hcz84_4 : w76.cell? ⟨gb301, 4, none⟩ = some (.int .i32 0) := (blk_cell BK301.out 4).trans rfl
                 have hcz84_5 : w76.cell? ⟨gb301, 5, none⟩ = some (.int .i64 0) := (blk_cell BK301.out 5).trans rfl
                 have hcz84_6 : w76.cell? ⟨gb301, 6, none⟩ = some (.int .i64 0) := (blk_cell BK301.out 6).trans rfl
                 have hcz84_7 : w76.cell? ⟨gb301, 7, none⟩ = some (.int .u32 0) := (blk_cell BK301.out 7).trans rfl
                 have hcz84_8 : w76.cell? ⟨gb301, 8, none⟩ = some (.int .i32 0) := (blk_cell BK301.out 8).trans rfl
                 have hfz84_0 := blk_frozen BK301.out 0
                 have hfz84_1 := blk_frozen BK301.out 1
                 have hfz84_2 := blk_frozen BK301.out 2
                 have hfz84_3 := blk_frozen BK301.out 3
                 have hfz84_4 := blk_frozen BK301.out 4
                 have hfz84_5 := blk_frozen BK301.out 5
                 have hfz84_6 := blk_frozen BK301.out 6
                 have hfz84_7 := blk_frozen BK301.out 7
                 have hfz84_8 := blk_frozen BK301.out 8
                 go_wp2
                 go_meet
                 case rel => exact ⟨_, (true), (by first | rfl | (simp; done) | (simp [*]; done)), H', ⟨by have := HJ4.out; have := HK2.out; have := HJ9.out; have := HK4.out; first | omega | exact Nat.le_refl _⟩, ⟨by (with_reducible repeat (first | apply Kd.R_alloc | apply Kd.R_drewN | apply Kd.R_drew)); exact Kd.R_mono (Kd.R_far (p := ⟨gb301, 8, none⟩) (Kd.R_far (p := ⟨gb301, 7, none⟩) (Kd.R_far (p := ⟨gb301, 6, none⟩) (Kd.R_far (p := ⟨gb301, 5, none⟩) (Kd.R_far (p := ⟨gb301, 4, none⟩) (Kd.R_far (p := ⟨gb301, 3, none⟩) (Kd.R_far (p := ⟨gb301, 2, none⟩) (Kd.R_far (p := ⟨gb301, 1, none⟩) (Kd.R_far (p := ⟨gb301, 0, none⟩) (Kd.R_types HO_8.out BK301.out (by decide)) (fun _ hk => hk.2) (.int .i64 t292)) (fun _ hk => hk.2) (.int .i64 t293)) (fun _ hk => hk.2) (.int .i64 t294)) (fun _ hk => hk.2) (.int .i32 t295)) (fun _ hk => hk.2) (.int .i32 t296)) (fun _ hk => hk.2) (.int .i64 t297)) (fun _ hk => hk.2) (.int .i64 t298)) (fun _ hk => hk.2) (.int .u32 t299)) (fun _ hk => hk.2) (.int .i32 t300)) (fun _ hk => trivial)⟩, ⟨by (with_reducible repeat (first | refine bN_ ?_ _ | refine bD_ ?_ | refine bA_ ?_ _)); refine blk_far ?_ NB269_301.out _; (with_reducible repeat (first | refine bN_ ?_ _ | refine bD_ ?_ | refine bA_ ?_ _)); refine blk_far ?_ NB269_301.out _; (with_reducible repeat (first | refine bN_ ?_ _ | refine bD_ ?_ | refine bA_ ?_ _)); refine blk_far ?_ NB269_301.out _; (with_reducible repeat (first | refine bN_ ?_ _ | refine bD_ ?_ | refine bA_ ?_ _)); refine blk_far ?_ NB269_301.out _; (with_reducible repeat (first | refine bN_ ?_ _ | refine bD_ ?_ | refine bA_ ?_ _)); refine blk_far ?_ NB269_301.out _; (with_reducible repeat (first | refine bN_ ?_ _ | refine bD_ ?_ | refine bA_ ?_ _)); refine blk_far ?_ NB269_301.out _; (with_reducible repeat (first | refine bN_ ?_ _ | refine bD_ ?_ | refine bA_ ?_ _)); refine blk_far ?_ NB269_301.out _; (with_reducible repeat (first | refine bN_ ?_ _ | refine bD_ ?_ | refine bA_ ?_ _)); refine blk_far ?_ NB269_301.out _; (with_reducible repeat (first | refine bN_ ?_ _ | refine bD_ ?_ | refine bA_ ?_ _)); refine blk_far ?_ NB269_301.out _; (with_reducible repeat (first | refine bN_ ?_ _ | refine bD_ ?_ | refine bA_ ?_ _)); exact BK269.out⟩, ⟨by (with_reducible repeat (first | refine bN_ ?_ _ | refine bD_ ?_ | refine bA_ ?_ _)); refine blk_far ?_ NB288_301.out _; (with_reducible repeat (first | refine bN_ ?_ _ | refine bD_ ?_ | refine bA_ ?_ _)); refine blk_far ?_ NB288_301.out _; (with_reducible repeat (first | refine bN_ ?_ _ | refine bD_ ?_ | refine bA_ ?_ _)); refine blk_far ?_ NB288_301.out _; (with_reducible repeat (first | refine bN_ ?_ _ | refine bD_ ?_ | refine bA_ ?_ _)); refine blk_far ?_ NB288_301.out _; (with_reducible repeat (first | refine bN_ ?_ _ | refine bD_ ?_ | refine bA_ ?_ _)); refine blk_far ?_ NB288_301.out _; (with_reducible repeat (first | refine bN_ ?_ _ | refine bD_ ?_ | refine bA_ ?_ _)); refine blk_far ?_ NB288_301.out _; (with_reducible repeat (first | refine bN_ ?_ _ | refine bD_ ?_ | refine bA_ ?_ _)); refine blk_far ?_ NB288_301.out _; (with_reducible repeat (first | refine bN_ ?_ _ | refine bD_ ?_ | refine bA_ ?_ _)); refine blk_far ?_ NB288_301.out _; (with_reducible repeat (first | refine bN_ ?_ _ | refine bD_ ?_ | refine bA_ ?_ _)); refine blk_far ?_ NB288_301.out _; (with_reducible repeat (first | refine bN_ ?_ _ | refine bD_ ?_ | refine bA_ ?_ _)); exact BK288.out⟩, ⟨by (with_reducible repeat (first | refine bN_ ?_ _ | refine bD_ ?_ | refine bA_ ?_ _)); refine blk_put (cs := #[.int .i64 t292, .int .i64 t293, .int .i64 t294, .int .i32 t295, .int .i32 t296, .int .i64 t297, .int .i64 t298, .int .u32 t299, .int .i32 0]) ?_ 8 _ rfl; (with_reducible repeat (first | refine bN_ ?_ _ | refine bD_ ?_ | refine bA_ ?_ _)); refine blk_put (cs := #[.int .i64 t292, .int .i64 t293, .int .i64 t294, .int .i32 t295, .int .i32 t296, .int .i64 t297, .int .i64 t298, .int .u32 0, .int .i32 0]) ?_ 7 _ rfl; (with_reducible repeat (first | refine bN_ ?_ _ | refine bD_ ?_ | refine bA_ ?_ _)); refine blk_put (cs := #[.int .i64 t292, .int .i64 t293, .int .i64 t294, .int .i32 t295, .int .i32 t296, .int .i64 t297, .int .i64 0, .int .u32 0, .int .i32 0]) ?_ 6 _ rfl; (with_reducible repeat (first | refine bN_ ?_ _ | refine bD_ ?_ | refine bA_ ?_ _)); refine blk_put (cs := #[.int .i64 t292, .int .i64 t293, .int .i64 t294, .int .i32 t295, .int .i32 t296, .int .i64 0, .int .i64 0, .int .u32 0, .int .i32 0]) ?_ 5 _ rfl; (with_reducible repeat (first | refine bN_ ?_ _ | refine bD_ ?_ | refine bA_ ?_ _)); refine blk_put (cs := #[.int .i64 t292, .int .i64 t293, .int .i64 t294, .int .i32 t295, .int .i32 0, .int .i64 0, .int .i64 0, .int .u32 0, .int .i32 0]) ?_ 4 _ rfl; (with_reducible repeat (first | refine bN_ ?_ _ | refine bD_ ?_ | refine bA_ ?_ _)); refine blk_put (cs := #[.int .i64 t292, .int .i64 t293, .int .i64 t294, .int .i32 0, .int .i32 0, .int .i64 0, .int .i64 0, .int .u32 0, .int .i32 0]) ?_ 3 _ rfl; (with_reducible repeat (first | refine bN_ ?_ _ | refine bD_ ?_ | refine bA_ ?_ _)); refine blk_put (cs := #[.int .i64 t292, .int .i64 t293, .int .i64 0, .int .i32 0, .int .i32 0, .int .i64 0, .int .i64 0, .int .u32 0, .int .i32 0]) ?_ 2 _ rfl; (with_reducible repeat (first | refine bN_ ?_ _ | refine bD_ ?_ | refine bA_ ?_ _)); refine blk_put (cs := #[.int .i64 t292, .int .i64 0, .int .i64 0, .int .i32 0, .int .i32 0, .int .i64 0, .int .i64 0, .int .u32 0, .int .i32 0]) ?_ 1 _ rfl; (with_reducible repeat (first | refine bN_ ?_ _ | refine bD_ ?_ | refine bA_ ?_ _)); refine blk_put (cs := #[.int .i64 0, .int .i64 0, .int .i64 0, .int .i32 0, .int .i32 0, .int .i64 0, .int .i64 0, .int .u32 0, .int .i32 0]) ?_ 0 _ rfl; (with_reducible repeat (first | refine bN_ ?_ _ | refine bD_ ?_ | refine bA_ ?_ _)); exact BK301.out⟩, ⟨by repeat (first | (with_reducible first | exact HB.out | apply below_alloc | apply pw_below_drewN | apply below_drew1 | refine below_set ?_ GE269.out | refine below_set ?_ GE288.out | refine below_set ?_ GE301.out) | exact HB.out)⟩⟩
                ·rw [if_neg c81] at H
                 have c81b0 : decide (t293 < 1) = false := decide_eq_false c81
                 clear c81
                 by_cases c85 : t293 > (x7_4.size : Int)
                 ·rw [if_pos c85] at H
                  have c85b0 : decide ((x7_4.size : Int) < t293) = true := decide_eq_true c85
                  clear c85
                  have H' := Aside0.mk H
                  clear H
                  have hnb86 := NB301_269.out
                  have hnc86 := NB269_301.out
                  have hnb87 := NB301_288.out
                  have hnc87 := NB288_301.out
                  have hcz88_0 : w76.cell? ⟨gb301, 0, none⟩ = some (.int .i64 0) := (blk_cell BK301.out 0).trans rfl
                  have hcz88_1 : w76.cell? ⟨gb301, 1, none⟩ = some (.int .i64 0) := (blk_cell BK301.out 1).trans rfl
                  have hcz88_2 : w76.cell? ⟨gb301, 2, none⟩ = some (.int .i64 0) := (blk_cell BK301.out 2).trans rfl
                  have hcz88_3 : w76.cell? ⟨gb301, 3, none⟩ = some (.int .i32 0) := (blk_cell BK301.out 3).trans rfl
                  have hcz88_4 : w76.cell? ⟨gb301, 4, none⟩ = some (.int .i32 0) := (blk_cell BK301.out 4).trans rfl
                  have hcz88_5 : w76.cell? ⟨gb301, 5, none⟩ = some (.int .i64 0) := (blk_cell BK301.out 5).trans rfl
                  have hcz88_6 : w76.cell? ⟨gb301, 6, none⟩ = some (.int .i64 0) := (blk_cell BK301.out 6).trans rfl
                  have hcz88_7 : w76.cell? ⟨gb301, 7, none⟩ = some (.int .u32 0) := (blk_cell BK301.out 7).trans rfl
                  have hcz88_8 : w76.cell? ⟨gb301, 8, none⟩ = some (.int .i32 0) := (blk_cell BK301.out 8).trans rfl
                  have hfz88_0 := blk_frozen BK301.out 0
                  have hfz88_1 := blk_frozen BK301.out 1
                  have hfz88_2 := blk_frozen BK301.out 2
                  have hfz88_3 := blk_frozen BK301.out 3
                  have hfz88_4 := blk_frozen BK301.out 4
                  have hfz88_5 := blk_frozen BK301.out 5
                  have hfz88_6 := blk_frozen BK301.out 6
                  have hfz88_7 := blk_frozen BK301.out 7
                  have hfz88_8 := blk_frozen BK301.out 8
                  go_wp2
                  go_meet
                  case rel => exact ⟨_, (true), (by first | rfl | (simp; done) | (simp [*]; done)), H', ⟨by have := HJ4.out; have := HK2.out; have := HJ9.out; have := HK4.out; first | omega | exact Nat.le_refl _⟩, ⟨by (with_reducible repeat (first | apply Kd.R_alloc | apply Kd.R_drewN | apply Kd.R_drew)); exact Kd.R_mono (Kd.R_far (p := ⟨gb301, 8, none⟩) (Kd.R_far (p := ⟨gb301, 7, none⟩) (Kd.R_far (p := ⟨gb301, 6, none⟩) (Kd.R_far (p := ⟨gb301, 5, none⟩) (Kd.R_far (p := ⟨gb301, 4, none⟩) (Kd.R_far (p := ⟨gb301, 3, none⟩) (Kd.R_far (p := ⟨gb301, 2, none⟩) (Kd.R_far (p := ⟨gb301, 1, none⟩) (Kd.R_far (p := ⟨gb301, 0, none⟩) (Kd.R_types HO_8.out BK301.out (by decide)) (fun _ hk => hk.2) (.int .i64 t292)) (fun _ hk => hk.2) (.int .i64 t293)) (fun _ hk => hk.2) (.int .i64 t294)) (fun _ hk => hk.2) (.int .i32 t295)) (fun _ hk => hk.2) (.int .i32 t296)) (fun _ hk => hk.2) (.int .i64 t297)) (fun _ hk => hk.2) (.int .i64 t298)) (fun _ hk => hk.2) (.int .u32 t299)) (fun _ hk => hk.2) (.int .i32 t300)) (fun _ hk => trivial)⟩, ⟨by (with_reducible repeat (first | refine bN_ ?_ _ | refine bD_ ?_ | refine bA_ ?_ _)); refine blk_far ?_ NB269_301.out _; (with_reducible repeat (first | refine bN_ ?_ _ | refine bD_ ?_ | refine bA_ ?_ _)); refine blk_far ?_ NB269_301.out _; (with_reducible repeat (first | refine bN_ ?_ _ | refine bD_ ?_ | refine bA_ ?_ _)); refine blk_far ?_ NB269_301.out _; (with_reducible repeat (first | refine bN_ ?_ _ | refine bD_ ?_ | refine bA_ ?_ _)); refine blk_far ?_ NB269_301.out _; (with_reducible repeat (first | refine bN_ ?_ _ | refine bD_ ?_ | refine bA_ ?_ _)); refine blk_far ?_ NB269_301.out _; (with_reducible repeat (first | refine bN_ ?_ _ | refine bD_ ?_ | refine bA_ ?_ _)); refine blk_far ?_ NB269_301.out _; (with_reducible repeat (first | refine bN_ ?_ _ | refine bD_ ?_ | refine bA_ ?_ _)); refine blk_far ?_ NB269_301.out _; (with_reducible repeat (first | refine bN_ ?_ _ | refine bD_ ?_ | refine bA_ ?_ _)); refine blk_far ?_ NB269_301.out _; (with_reducible repeat (first | refine bN_ ?_ _ | refine bD_ ?_ | refine bA_ ?_ _)); refine blk_far ?_ NB269_301.out _; (with_reducible repeat (first | refine bN_ ?_ _ | refine bD_ ?_ | refine bA_ ?_ _)); exact BK269.out⟩, ⟨by (with_reducible repeat (first | refine bN_ ?_ _ | refine bD_ ?_ | refine bA_ ?_ _)); refine blk_far ?_ NB288_301.out _; (with_reducible repeat (first | refine bN_ ?_ _ | refine bD_ ?_ | refine bA_ ?_ _)); refine blk_far ?_ NB288_301.out _; (with_reducible repeat (first | refine bN_ ?_ _ | refine bD_ ?_ | refine bA_ ?_ _)); refine blk_far ?_ NB288_301.out _; (with_reducible repeat (first | refine bN_ ?_ _ | refine bD_ ?_ | refine bA_ ?_ _)); refine blk_far ?_ NB288_301.out _; (with_reducible repeat (first | refine bN_ ?_ _ | refine bD_ ?_ | refine bA_ ?_ _)); refine blk_far ?_ NB288_301.out _; (with_reducible repeat (first | refine bN_ ?_ _ | refine bD_ ?_ | refine bA_ ?_ _)); refine blk_far ?_ NB288_301.out _; (with_reducible repeat (first | refine bN_ ?_ _ | refine bD_ ?_ | refine bA_ ?_ _)); refine blk_far ?_ NB288_301.out _; (with_reducible repeat (first | refine bN_ ?_ _ | refine bD_ ?_ | refine bA_ ?_ _)); refine blk_far ?_ NB288_301.out _; (with_reducible repeat (first | refine bN_ ?_ _ | refine bD_ ?_ | refine bA_ ?_ _)); refine blk_far ?_ NB288_301.out _; (with_reducible repeat (first | refine bN_ ?_ _ | refine bD_ ?_ | refine bA_ ?_ _)); exact BK288.out⟩, ⟨by (with_reducible repeat (first | refine bN_ ?_ _ | refine bD_ ?_ | refine bA_ ?_ _)); refine blk_put (cs := #[.int .i64 t292, .int .i64 t293, .int .i64 t294, .int .i32 t295, .int .i32 t296, .int .i64 t297, .int .i64 t298, .int .u32 t299, .int .i32 0]) ?_ 8 _ rfl; (with_reducible repeat (first | refine bN_ ?_ _ | refine bD_ ?_ | refine bA_ ?_ _)); refine blk_put (cs := #[.int .i64 t292, .int .i64 t293, .int .i64 t294, .int .i32 t295, .int .i32 t296, .int .i64 t297, .int .i64 t298, .int .u32 0, .int .i32 0]) ?_ 7 _ rfl; (with_reducible repeat (first | refine bN_ ?_ _ | refine bD_ ?_ | refine bA_ ?_ _)); refine blk_put (cs := #[.int .i64 t292, .int .i64 t293, .int .i64 t294, .int .i32 t295, .int .i32 t296, .int .i64 t297, .int .i64 0, .int .u32 0, .int .i32 0]) ?_ 6 _ rfl; (with_reducible repeat (first | refine bN_ ?_ _ | refine bD_ ?_ | refine bA_ ?_ _)); refine blk_put (cs := #[.int .i64 t292, .int .i64 t293, .int .i64 t294, .int .i32 t295, .int .i32 t296, .int .i64 0, .int .i64 0, .int .u32 0, .int .i32 0]) ?_ 5 _ rfl; (with_reducible repeat (first | refine bN_ ?_ _ | refine bD_ ?_ | refine bA_ ?_ _)); refine blk_put (cs := #[.int .i64 t292, .int .i64 t293, .int .i64 t294, .int .i32 t295, .int .i32 0, .int .i64 0, .int .i64 0, .int .u32 0, .int .i32 0]) ?_ 4 _ rfl; (with_reducible repeat (first | refine bN_ ?_ _ | refine bD_ ?_ | refine bA_ ?_ _)); refine blk_put (cs := #[.int .i64 t292, .int .i64 t293, .int .i64 t294, .int .i32 0, .int .i32 0, .int .i64 0, .int .i64 0, .int .u32 0, .int .i32 0]) ?_ 3 _ rfl; (with_reducible repeat (first | refine bN_ ?_ _ | refine bD_ ?_ | refine bA_ ?_ _)); refine blk_put (cs := #[.int .i64 t292, .int .i64 t293, .int .i64 0, .int .i32 0, .int .i32 0, .int .i64 0, .int .i64 0, .int .u32 0, .int .i32 0]) ?_ 2 _ rfl; (with_reducible repeat (first | refine bN_ ?_ _ | refine bD_ ?_ | refine bA_ ?_ _)); refine blk_put (cs := #[.int .i64 t292, .int .i64 0, .int .i64 0, .int .i32 0, .int .i32 0, .int .i64 0, .int .i64 0, .int .u32 0, .int .i32 0]) ?_ 1 _ rfl; (with_reducible repeat (first | refine bN_ ?_ _ | refine bD_ ?_ | refine bA_ ?_ _)); refine blk_put (cs := #[.int .i64 0, .int .i64 0, .int .i64 0, .int .i32 0, .int .i32 0, .int .i64 0, .int .i64 0, .int .u32 0, .int .i32 0]) ?_ 0 _ rfl; (with_reducible repeat (first | refine bN_ ?_ _ | refine bD_ ?_ | refine bA_ ?_ _)); exact BK301.out⟩, ⟨by repeat (first | (with_reducible first | exact HB.out | apply below_alloc | apply pw_below_drewN | apply below_drew1 | refine below_set ?_ GE269.out | refine below_set ?_ GE288.out | refine below_set ?_ GE301.out) | exact HB.out)⟩⟩
                 ·rw [if_neg c85] at H
                  have c85b0 : decide ((x7_4.size : Int) < t293) = false := decide_eq_false c85
                  clear c85
                  have H' := Aside0.mk H
                  clear H
                  have hnb89 := NB301_269.out
                  have hnc89 := NB269_301.out
                  have hnb90 := NB301_288.out
                  have hnc90 := NB288_301.out
                  have hcz91_0 : w76.cell? ⟨gb301, 0, none⟩ = some (.int .i64 0) := (blk_cell BK301.out 0).trans rfl
                  have hcz91_1 : w76.cell? ⟨gb301, 1, none⟩ = some (.int .i64 0) := (blk_cell BK301.out 1).trans rfl
                  have hcz91_2 : w76.cell? ⟨gb301, 2, none⟩ = some (.int .i64 0) := (blk_cell BK301.out 2).trans rfl
                  have hcz91_3 : w76.cell? ⟨gb301, 3, none⟩ = some (.int .i32 0) := (blk_cell BK301.out 3).trans rfl
                  have hcz91_4 : w76.cell? ⟨gb301, 4, none⟩ = some (.int .i32 0) := (blk_cell BK301.out 4).trans rfl
                  have hcz91_5 : w76.cell? ⟨gb301, 5, none⟩ = some (.int .i64 0) := (blk_cell BK301.out 5).trans rfl
                  have hcz91_6 : w76.cell? ⟨gb301, 6, none⟩ = some (.int .i64 0) := (blk_cell BK301.out 6).trans rfl
                  have hcz91_7 : w76.cell? ⟨gb301, 7, none⟩ = some (.int .u32 0) := (blk_cell BK301.out 7).trans rfl
                  have hcz91_8 : w76.cell? ⟨gb301, 8, none⟩ = some (.int .i32 0) := (blk_cell BK301.out 8).trans rfl
                  have hfz91_0 := blk_frozen BK301.out 0
                  have hfz91_1 := blk_frozen BK301.out 1
                  have hfz91_2 := blk_frozen BK301.out 2
                  have hfz91_3 := blk_frozen BK301.out 3
                  have hfz91_4 := blk_frozen BK301.out 4
                  have hfz91_5 := blk_frozen BK301.out 5
                  have hfz91_6 := blk_frozen BK301.out 6
                  have hfz91_7 := blk_frozen BK301.out 7
                  have hfz91_8 := blk_frozen BK301.out 8
                  go_wp2
                  go_meet
                  case rel => exact ⟨_, (decide (t294 > 1)), (by first | rfl | (simp; done) | (simp [*]; done)), H', ⟨by have := HJ4.out; have := HK2.out; have := HJ9.out; have := HK4.out; first | omega | exact Nat.le_refl _⟩, ⟨by (with_reducible repeat (first | apply Kd.R_alloc | apply Kd.R_drewN | apply Kd.R_drew)); exact Kd.R_mono (Kd.R_far (p := ⟨gb301, 8, none⟩) (Kd.R_far (p := ⟨gb301, 7, none⟩) (Kd.R_far (p := ⟨gb301, 6, none⟩) (Kd.R_far (p := ⟨gb301, 5, none⟩) (Kd.R_far (p := ⟨gb301, 4, none⟩) (Kd.R_far (p := ⟨gb301, 3, none⟩) (Kd.R_far (p := ⟨gb301, 2, none⟩) (Kd.R_far (p := ⟨gb301, 1, none⟩) (Kd.R_far (p := ⟨gb301, 0, none⟩) (Kd.R_types HO_8.out BK301.out (by decide)) (fun _ hk => hk.2) (.int .i64 t292)) (fun _ hk => hk.2) (.int .i64 t293)) (fun _ hk => hk.2) (.int .i64 t294)) (fun _ hk => hk.2) (.int .i32 t295)) (fun _ hk => hk.2) (.int .i32 t296)) (fun _ hk => hk.2) (.int .i64 t297)) (fun _ hk => hk.2) (.int .i64 t298)) (fun _ hk => hk.2) (.int .u32 t299)) (fun _ hk => hk.2) (.int .i32 t300)) (fun _ hk => trivial)⟩, ⟨by (with_reducible repeat (first | refine bN_ ?_ _ | refine bD_ ?_ | refine bA_ ?_ _)); refine blk_far ?_ NB269_301.out _; (with_reducible repeat (first | refine bN_ ?_ _ | refine bD_ ?_ | refine bA_ ?_ _)); refine blk_far ?_ NB269_301.out _; (with_reducible repeat (first | refine bN_ ?_ _ | refine bD_ ?_ | refine bA_ ?_ _)); refine blk_far ?_ NB269_301.out _; (with_reducible repeat (first | refine bN_ ?_ _ | refine bD_ ?_ | refine bA_ ?_ _)); refine blk_far ?_ NB269_301.out _; (with_reducible repeat (first | refine bN_ ?_ _ | refine bD_ ?_ | refine bA_ ?_ _)); refine blk_far ?_ NB269_301.out _; (with_reducible repeat (first | refine bN_ ?_ _ | refine bD_ ?_ | refine bA_ ?_ _)); refine blk_far ?_ NB269_301.out _; (with_reducible repeat (first | refine bN_ ?_ _ | refine bD_ ?_ | refine bA_ ?_ _)); refine blk_far ?_ NB269_301.out _; (with_reducible repeat (first | refine bN_ ?_ _ | refine bD_ ?_ | refine bA_ ?_ _)); refine blk_far ?_ NB269_301.out _; (with_reducible repeat (first | refine bN_ ?_ _ | refine bD_ ?_ | refine bA_ ?_ _)); refine blk_far ?_ NB269_301.out _; (with_reducible repeat (first | refine bN_ ?_ _ | refine bD_ ?_ | refine bA_ ?_ _)); exact BK269.out⟩, ⟨by (with_reducible repeat (first | refine bN_ ?_ _ | refine bD_ ?_ | refine bA_ ?_ _)); refine blk_far ?_ NB288_301.out _; (with_reducible repeat (first | refine bN_ ?_ _ | refine bD_ ?_ | refine bA_ ?_ _)); refine blk_far ?_ NB288_301.out _; (with_reducible repeat (first | refine bN_ ?_ _ | refine bD_ ?_ | refine bA_ ?_ _)); refine blk_far ?_ NB288_301.out _; (with_reducible repeat (first | refine bN_ ?_ _ | refine bD_ ?_ | refine bA_ ?_ _)); refine blk_far ?_ NB288_301.out _; (with_reducible repeat (first | refine bN_ ?_ _ | refine bD_ ?_ | refine bA_ ?_ _)); refine blk_far ?_ NB288_301.out _; (with_reducible repeat (first | refine bN_ ?_ _ | refine bD_ ?_ | refine bA_ ?_ _)); refine blk_far ?_ NB288_301.out _; (with_reducible repeat (first | refine bN_ ?_ _ | refine bD_ ?_ | refine bA_ ?_ _)); refine blk_far ?_ NB288_301.out _; (with_reducible repeat (first | refine bN_ ?_ _ | refine bD_ ?_ | refine bA_ ?_ _)); refine blk_far ?_ NB288_301.out _; (with_reducible repeat (first | refine bN_ ?_ _ | refine bD_ ?_ | refine bA_ ?_ _)); refine blk_far ?_ NB288_301.out _; (with_reducible repeat (first | refine bN_ ?_ _ | refine bD_ ?_ | refine bA_ ?_ _)); exact BK288.out⟩, ⟨by (with_reducible repeat (first | refine bN_ ?_ _ | refine bD_ ?_ | refine bA_ ?_ _)); refine blk_put (cs := #[.int .i64 t292, .int .i64 t293, .int .i64 t294, .int .i32 t295, .int .i32 t296, .int .i64 t297, .int .i64 t298, .int .u32 t299, .int .i32 0]) ?_ 8 _ rfl; (with_reducible repeat (first | refine bN_ ?_ _ | refine bD_ ?_ | refine bA_ ?_ _)); refine blk_put (cs := #[.int .i64 t292, .int .i64 t293, .int .i64 t294, .int .i32 t295, .int .i32 t296, .int .i64 t297, .int .i64 t298, .int .u32 0, .int .i32 0]) ?_ 7 _ rfl; (with_reducible repeat (first | refine bN_ ?_ _ | refine bD_ ?_ | refine bA_ ?_ _)); refine blk_put (cs := #[.int .i64 t292, .int .i64 t293, .int .i64 t294, .int .i32 t295, .int .i32 t296, .int .i64 t297, .int .i64 0, .int .u32 0, .int .i32 0]) ?_ 6 _ rfl; (with_reducible repeat (first | refine bN_ ?_ _ | refine bD_ ?_ | refine bA_ ?_ _)); refine blk_put (cs := #[.int .i64 t292, .int .i64 t293, .int .i64 t294, .int .i32 t295, .int .i32 t296, .int .i64 0, .int .i64 0, .int .u32 0, .int .i32 0]) ?_ 5 _ rfl; (with_reducible repeat (first | refine bN_ ?_ _ | refine bD_ ?_ | refine bA_ ?_ _)); refine blk_put (cs := #[.int .i64 t292, .int .i64 t293, .int .i64 t294, .int .i32 t295, .int .i32 0, .int .i64 0, .int .i64 0, .int .u32 0, .int .i32 0]) ?_ 4 _ rfl; (with_reducible repeat (first | refine bN_ ?_ _ | refine bD_ ?_ | refine bA_ ?_ _)); refine blk_put (cs := #[.int .i64 t292, .int .i64 t293, .int .i64 t294, .int .i32 0, .int .i32 0, .int .i64 0, .int .i64 0, .int .u32 0, .int .i32 0]) ?_ 3 _ rfl; (with_reducible repeat (first | refine bN_ ?_ _ | refine bD_ ?_ | refine bA_ ?_ _)); refine blk_put (cs := #[.int .i64 t292, .int .i64 t293, .int .i64 0, .int .i32 0, .int .i32 0, .int .i64 0, .int .i64 0, .int .u32 0, .int .i32 0]) ?_ 2 _ rfl; (with_reducible repeat (first | refine bN_ ?_ _ | refine bD_ ?_ | refine bA_ ?_ _)); refine blk_put (cs := #[.int .i64 t292, .int .i64 0, .int .i64 0, .int .i32 0, .int .i32 0, .int .i64 0, .int .i64 0, .int .u32 0, .int .i32 0]) ?_ 1 _ rfl; (with_reducible repeat (first | refine bN_ ?_ _ | refine bD_ ?_ | refine bA_ ?_ _)); refine blk_put (cs := #[.int .i64 0, .int .i64 0, .int .i64 0, .int .i32 0, .int .i32 0, .int .i64 0, .int .i64 0, .int .u32 0, .int .i32 0]) ?_ 0 _ rfl; (with_reducible repeat (first | refine bN_ ?_ _ | refine bD_ ?_ | refine bA_ ?_ _)); exact BK301.out⟩, ⟨by repeat (first | (with_reducible first | exact HB.out | apply below_alloc | apply pw_below_drewN | apply below_drew1 | refine below_set ?_ GE269.out | refine below_set ?_ GE288.out | refine below_set ?_ GE301.out) | exact HB.out)⟩⟩
               ·rw [if_neg c80] at H
                have c80b0 : (t292 == 0) = false := beq_eq_false_iff_ne.mpr c80
                have c80b1 : (t292 != 0) = true := bne_iff_ne.mpr c80
                (first | rw [c80b0] | (simp only [i64_w, i32_w]; rw [c80b0]) | skip)
                have H' := Aside0.mk H
                clear H
                have hnb92 := NB301_269.out
                have hnc92 := NB269_301.out
                have hnb93 := NB301_288.out
                have hnc93 := NB288_301.out
                have hcz94_0 : w76.cell? ⟨gb301, 0, none⟩ = some (.int .i64 0) := (blk_cell BK301.out 0).trans rfl
                have hcz94_1 : w76.cell? ⟨gb301, 1, none⟩ = some (.int .i64 0) := (blk_cell BK301.out 1).trans rfl
                have hcz94_2 : w76.cell? ⟨gb301, 2, none⟩ = some (.int .i64 0) := (blk_cell BK301.out 2).trans rfl
                have hcz94_3 : w76.cell? ⟨gb301, 3, none⟩ = some (.int .i32 0) := (blk_cell BK301.out 3).trans rfl
                have hcz94_4 : w76.cell? ⟨gb301, 4, none⟩ = some (.int .i32 0) := (blk_cell BK301.out 4).trans rfl
                have hcz94_5 : w76.cell? ⟨gb301, 5, none⟩ = some (.int .i64 0) := (blk_cell BK301.out 5).trans rfl
                have hcz94_6 : w76.cell? ⟨gb301, 6, none⟩ = some (.int .i64 0) := (blk_cell BK301.out 6).trans rfl
                have hcz94_7 : w76.cell? ⟨gb301, 7, none⟩ = some (.int .u32 0) := (blk_cell BK301.out 7).trans rfl
                have hcz94_8 : w76.cell? ⟨gb301, 8, none⟩ = some (.int .i32 0) := (blk_cell BK301.out 8).trans rfl
                have hfz94_0 := blk_frozen BK301.out 0
                have hfz94_1 := blk_frozen BK301.out 1
                have hfz94_2 := blk_frozen BK301.out 2
                have hfz94_3 := blk_frozen BK301.out 3
                have hfz94_4 := blk_frozen BK301.out 4
                have hfz94_5 := blk_frozen BK301.out 5
                have hfz94_6 := blk_frozen BK301.out 6
                have hfz94_7 := blk_frozen BK301.out 7
                have hfz94_8 := blk_frozen BK301.out 8
                go_wp2
                go_meet
                case rel => exact ⟨_, (true), (by first | rfl | (simp; done) | (simp [*]; done)), H', ⟨by have := HJ4.out; have := HK2.out; have := HJ9.out; have := HK4.out; first | omega | exact Nat.le_refl _⟩, ⟨by (with_reducible repeat (first | apply Kd.R_alloc | apply Kd.R_drewN | apply Kd.R_drew)); exact Kd.R_mono (Kd.R_far (p := ⟨gb301, 8, none⟩) (Kd.R_far (p := ⟨gb301, 7, none⟩) (Kd.R_far (p := ⟨gb301, 6, none⟩) (Kd.R_far (p := ⟨gb301, 5, none⟩) (Kd.R_far (p := ⟨gb301, 4, none⟩) (Kd.R_far (p := ⟨gb301, 3, none⟩) (Kd.R_far (p := ⟨gb301, 2, none⟩) (Kd.R_far (p := ⟨gb301, 1, none⟩) (Kd.R_far (p := ⟨gb301, 0, none⟩) (Kd.R_types HO_8.out BK301.out (by decide)) (fun _ hk => hk.2) (.int .i64 t292)) (fun _ hk => hk.2) (.int .i64 t293)) (fun _ hk => hk.2) (.int .i64 t294)) (fun _ hk => hk.2) (.int .i32 t295)) (fun _ hk => hk.2) (.int .i32 t296)) (fun _ hk => hk.2) (.int .i64 t297)) (fun _ hk => hk.2) (.int .i64 t298)) (fun _ hk => hk.2) (.int .u32 t299)) (fun _ hk => hk.2) (.int .i32 t300)) (fun _ hk => trivial)⟩, ⟨by (with_reducible repeat (first | refine bN_ ?_ _ | refine bD_ ?_ | refine bA_ ?_ _)); refine blk_far ?_ NB269_301.out _; (with_reducible repeat (first | refine bN_ ?_ _ | refine bD_ ?_ | refine bA_ ?_ _)); refine blk_far ?_ NB269_301.out _; (with_reducible repeat (first | refine bN_ ?_ _ | refine bD_ ?_ | refine bA_ ?_ _)); refine blk_far ?_ NB269_301.out _; (with_reducible repeat (first | refine bN_ ?_ _ | refine bD_ ?_ | refine bA_ ?_ _)); refine blk_far ?_ NB269_301.out _; (with_reducible repeat (first | refine bN_ ?_ _ | refine bD_ ?_ | refine bA_ ?_ _)); refine blk_far ?_ NB269_301.out _; (with_reducible repeat (first | refine bN_ ?_ _ | refine bD_ ?_ | refine bA_ ?_ _)); refine blk_far ?_ NB269_301.out _; (with_reducible repeat (first | refine bN_ ?_ _ | refine bD_ ?_ | refine bA_ ?_ _)); refine blk_far ?_ NB269_301.out _; (with_reducible repeat (first | refine bN_ ?_ _ | refine bD_ ?_ | refine bA_ ?_ _)); refine blk_far ?_ NB269_301.out _; (with_reducible repeat (first | refine bN_ ?_ _ | refine bD_ ?_ | refine bA_ ?_ _)); refine blk_far ?_ NB269_301.out _; (with_reducible repeat (first | refine bN_ ?_ _ | refine bD_ ?_ | refine bA_ ?_ _)); exact BK269.out⟩, ⟨by (with_reducible repeat (first | refine bN_ ?_ _ | refine bD_ ?_ | refine bA_ ?_ _)); refine blk_far ?_ NB288_301.out _; (with_reducible repeat (first | refine bN_ ?_ _ | refine bD_ ?_ | refine bA_ ?_ _)); refine blk_far ?_ NB288_301.out _; (with_reducible repeat (first | refine bN_ ?_ _ | refine bD_ ?_ | refine bA_ ?_ _)); refine blk_far ?_ NB288_301.out _; (with_reducible repeat (first | refine bN_ ?_ _ | refine bD_ ?_ | refine bA_ ?_ _)); refine blk_far ?_ NB288_301.out _; (with_reducible repeat (first | refine bN_ ?_ _ | refine bD_ ?_ | refine bA_ ?_ _)); refine blk_far ?_ NB288_301.out _; (with_reducible repeat (first | refine bN_ ?_ _ | refine bD_ ?_ | refine bA_ ?_ _)); refine blk_far ?_ NB288_301.out _; (with_reducible repeat (first | refine bN_ ?_ _ | refine bD_ ?_ | refine bA_ ?_ _)); refine blk_far ?_ NB288_301.out _; (with_reducible repeat (first | refine bN_ ?_ _ | refine bD_ ?_ | refine bA_ ?_ _)); refine blk_far ?_ NB288_301.out _; (with_reducible repeat (first | refine bN_ ?_ _ | refine bD_ ?_ | refine bA_ ?_ _)); refine blk_far ?_ NB288_301.out _; (with_reducible repeat (first | refine bN_ ?_ _ | refine bD_ ?_ | refine bA_ ?_ _)); exact BK288.out⟩, ⟨by (with_reducible repeat (first | refine bN_ ?_ _ | refine bD_ ?_ | refine bA_ ?_ _)); refine blk_put (cs := #[.int .i64 t292, .int .i64 t293, .int .i64 t294, .int .i32 t295, .int .i32 t296, .int .i64 t297, .int .i64 t298, .int .u32 t299, .int .i32 0]) ?_ 8 _ rfl; (with_reducible repeat (first | refine bN_ ?_ _ | refine bD_ ?_ | refine bA_ ?_ _)); refine blk_put (cs := #[.int .i64 t292, .int .i64 t293, .int .i64 t294, .int .i32 t295, .int .i32 t296, .int .i64 t297, .int .i64 t298, .int .u32 0, .int .i32 0]) ?_ 7 _ rfl; (with_reducible repeat (first | refine bN_ ?_ _ | refine bD_ ?_ | refine bA_ ?_ _)); refine blk_put (cs := #[.int .i64 t292, .int .i64 t293, .int .i64 t294, .int .i32 t295, .int .i32 t296, .int .i64 t297, .int .i64 0, .int .u32 0, .int .i32 0]) ?_ 6 _ rfl; (with_reducible repeat (first | refine bN_ ?_ _ | refine bD_ ?_ | refine bA_ ?_ _)); refine blk_put (cs := #[.int .i64 t292, .int .i64 t293, .int .i64 t294, .int .i32 t295, .int .i32 t296, .int .i64 0, .int .i64 0, .int .u32 0, .int .i32 0]) ?_ 5 _ rfl; (with_reducible repeat (first | refine bN_ ?_ _ | refine bD_ ?_ | refine bA_ ?_ _)); refine blk_put (cs := #[.int .i64 t292, .int .i64 t293, .int .i64 t294, .int .i32 t295, .int .i32 0, .int .i64 0, .int .i64 0, .int .u32 0, .int .i32 0]) ?_ 4 _ rfl; (with_reducible repeat (first | refine bN_ ?_ _ | refine bD_ ?_ | refine bA_ ?_ _)); refine blk_put (cs := #[.int .i64 t292, .int .i64 t293, .int .i64 t294, .int .i32 0, .int .i32 0, .int .i64 0, .int .i64 0, .int .u32 0, .int .i32 0]) ?_ 3 _ rfl; (with_reducible repeat (first | refine bN_ ?_ _ | refine bD_ ?_ | refine bA_ ?_ _)); refine blk_put (cs := #[.int .i64 t292, .int .i64 t293, .int .i64 0, .int .i32 0, .int .i32 0, .int .i64 0, .int .i64 0, .int .u32 0, .int .i32 0]) ?_ 2 _ rfl; (with_reducible repeat (first | refine bN_ ?_ _ | refine bD_ ?_ | refine bA_ ?_ _)); refine blk_put (cs := #[.int .i64 t292, .int .i64 0, .int .i64 0, .int .i32 0, .int .i32 0, .int .i64 0, .int .i64 0, .int .u32 0, .int .i32 0]) ?_ 1 _ rfl; (with_reducible repeat (first | refine bN_ ?_ _ | refine bD_ ?_ | refine bA_ ?_ _)); refine blk_put (cs := #[.int .i64 0, .int .i64 0, .int .i64 0, .int .i32 0, .int .i32 0, .int .i64 0, .int .i64 0, .int .u32 0, .int .i32 0]) ?_ 0 _ rfl; (with_reducible repeat (first | refine bN_ ?_ _ | refine bD_ ?_ | refine bA_ ?_ _)); exact BK301.out⟩, ⟨by repeat (first | (with_reducible first | exact HB.out | apply below_alloc | apply pw_below_drewN | apply below_drew1 | refine below_set ?_ GE269.out | refine below_set ?_ GE288.out | refine below_set ?_ GE301.out) | exact HB.out)⟩⟩
              case rest =>
               clear HC70
               (try clear c1); (try clear p2); (try clear q2); (try clear hx2); (try clear c3); (try clear c4); (try clear c5); (try clear c6); (try clear p6); (try clear c7); (try clear c8); (try clear c9); (try clear c10); (try clear c12); (try clear c13); (try clear c14); (try clear c16); (try clear c16b0); (try clear c16b1); (try clear p27); (try clear q27); (try clear hx27); (try clear c30); (try clear c31)
               (try clear c32); (try clear c36); (try clear c38); (try clear c42); (try clear c56); (try clear c59); (try clear c59b0); (try clear c59b1); (try clear c60); (try clear c60b0); (try clear c60b1); (try clear c60b2); (try clear c64); (try clear p64); (try clear c67); (try clear c67b0); (try clear c67b1); (try clear c71); (try clear c77); (try clear c78); (try clear c80); (try clear c80b0)
               (try clear c80b1); (try clear c81); (try clear c81b0); (try clear c82); (try clear c83); (try clear c85); (try clear c85b0); (try clear c86); (try clear c87); (try clear c89); (try clear c90); (try clear c92); (try clear c93); (try clear hcz43_0); (try clear hcz43_1); (try clear hcz43_2); (try clear hcz43_3); (try clear hcz43_4); (try clear hcz43_5); (try clear hcz44_0); (try clear hcz44_1)
               (try clear hcz44_2); (try clear hcz44_3); (try clear hcz57_0); (try clear hcz57_1); (try clear hcz57_2); (try clear hcz57_3); (try clear hcz57_4); (try clear hcz57_5); (try clear hcz61_0); (try clear hcz61_1); (try clear hcz61_2); (try clear hcz61_3); (try clear hcz65_0); (try clear hcz65_1); (try clear hcz65_2); (try clear hcz65_3); (try clear hcz66_0); (try clear hcz66_1); (try clear hcz66_2)
               (try clear hcz66_3); (try clear hcz72_0); (try clear hcz72_1); (try clear hcz72_2); (try clear hcz72_3); (try clear hcz79_0); (try clear hcz79_1); (try clear hcz79_2); (try clear hcz79_3); (try clear hcz79_4); (try clear hcz79_5); (try clear hcz79_6); (try clear hcz79_7); (try clear hcz79_8); (try clear hcz84_0); (try clear hcz84_1); (try clear hcz84_2); (try clear hcz84_3); (try clear hcz84_4)
               (try clear hcz84_5); (try clear hcz84_6); (try clear hcz84_7); (try clear hcz84_8); (try clear hcz88_0); (try clear hcz88_1); (try clear hcz88_2); (try clear hcz88_3); (try clear hcz88_4); (try clear hcz88_5); (try clear hcz88_6); (try clear hcz88_7); (try clear hcz88_8); (try clear hcz91_0); (try clear hcz91_1); (try clear hcz91_2); (try clear hcz91_3); (try clear hcz91_4); (try clear hcz91_5)
               (try clear hcz91_6); (try clear hcz91_7); (try clear hcz91_8); (try clear hcz94_0); (try clear hcz94_1); (try clear hcz94_2); (try clear hcz94_3); (try clear hcz94_4); (try clear hcz94_5); (try clear hcz94_6); (try clear hcz94_7); (try clear hcz94_8); (try clear hfz43_0); (try clear hfz43_1); (try clear hfz43_2); (try clear hfz43_3); (try clear hfz43_4); (try clear hfz43_5); (try clear hfz44_0)
               (try clear hfz44_1); (try clear hfz44_2); (try clear hfz44_3); (try clear hfz57_0); (try clear hfz57_1); (try clear hfz57_2); (try clear hfz57_3); (try clear hfz57_4); (try clear hfz57_5); (try clear hfz61_0); (try clear hfz61_1); (try clear hfz61_2); (try clear hfz61_3); (try clear hfz65_0); (try clear hfz65_1); (try clear hfz65_2); (try clear hfz65_3); (try clear hfz66_0); (try clear hfz66_1)
               (try clear hfz66_2); (try clear hfz66_3); (try clear hfz72_0); (try clear hfz72_1); (try clear hfz72_2); (try clear hfz72_3); (try clear hfz79_0); (try clear hfz79_1); (try clear hfz79_2); (try clear hfz79_3); (try clear hfz79_4); (try clear hfz79_5); (try clear hfz79_6); (try clear hfz79_7); (try clear hfz79_8); (try clear hfz84_0); (try clear hfz84_1); (try clear hfz84_2); (try clear hfz84_3)
               (try clear hfz84_4); (try clear hfz84_5); (try clear hfz84_6); (try clear hfz84_7); (try clear hfz84_8); (try clear hfz88_0); (try clear hfz88_1); (try clear hfz88_2); (try clear hfz88_3); (try clear hfz88_4); (try clear hfz88_5); (try clear hfz88_6); (try clear hfz88_7); (try clear hfz88_8); (try clear hfz91_0); (try clear hfz91_1); (try clear hfz91_2); (try clear hfz91_3); (try clear hfz91_4)
               (try clear hfz91_5); (try clear hfz91_6); (try clear hfz91_7); (try clear hfz91_8); (try clear hfz94_0); (try clear hfz94_1); (try clear hfz94_2); (try clear hfz94_3); (try clear hfz94_4); (try clear hfz94_5); (try clear hfz94_6); (try clear hfz94_7); (try clear hfz94_8); (try clear hx270_0); (try clear hx278_0); (try clear p2); (try clear p27); (try clear p270); (try clear p278); (try clear p6)
               (try clear p64); (try clear q2); (try clear q27); (try clear q270); (try clear q278)
               obtain ⟨kq, x98_69, rfl, HA, HJ69, HO_8, BK269, BK288, BK301, HB⟩ := hcut
               cases kq with
               | zero => exact absurd HA.out (by simp [dragomanlaw21_Iso2022Back.j4])
               | succ kj69 =>
                have H := HA.out
                clear HA
                simp only [dragomanlaw21_Iso2022Back.j4] at H
                by_cases c95 : x98_69 = true
                ·subst c95
                 have H1 : (some false) = some r := by rw [if_pos rfl] at H; exact H
                 clear H
                 have H := H1
                 clear H1
                 obtain rfl := Option.some.inj H
                 go_wp2
                 go_ret
                 exact ⟨by first | rfl | (simp [errW_none, errW_some] <;> rfl) | (simp [*, errW_none, errW_some] <;> rfl), by repeat (first | (with_reducible first | exact HB.out | apply below_alloc | apply pw_below_drewN | apply below_drew1 | refine below_set ?_ GE269.out | refine below_set ?_ GE288.out | refine below_set ?_ GE301.out) | exact HB.out)⟩
                ·replace c95 := Bool.eq_false_iff.mpr c95
                 subst c95
                 have H1 : (dragomanlaw21_Iso2022Back.l2 kj69 a0 x5_4 x7_4 x8_2 x14_4 0 t292 t293 t294 t295 t296 t297 t298 t299 t300) = some r := by rw [if_neg (show ¬ (false = true) by decide)] at H; exact H
                 clear H
                 have H := H1
                 clear H1
                 have H' := Aside0.mk H
                 clear H
                 go_wp2
                 go_loopg [16] kj69 (fun kq v16 w' => ∃ (x16_6 : Int), v16 = .int .i64 x16_6 ∧ Aside0 (dragomanlaw21_Iso2022Back.l2 kq a0 x5_4 x7_4 x8_2 x14_4 x16_6 t292 t293 t294 t295 t296 t297 t298 t299 t300 = some r) ∧ Aside0 (kq ≤ kj69) ∧ Aside0 (Kd.R (Kd.int .i32) 21 w' w.heap.size (fun _ => True) u8 x8_2) ∧ Aside0 (w'.heap[gb269]? = some (.cells #[.int .i64 x270000_4, .int .i64 x270001_4, .int .u32 x270002_4, .int .i32 x270003_4] 25 (0, 0))) ∧ Aside0 (w'.heap[gb288]? = some (.cells #[.int .i64 t283, .int .i64 t284, .int .u32 t285, .int .i32 t286] 25 (0, 0))) ∧ Aside0 (w'.heap[gb301]? = some (.cells #[.int .i64 t292, .int .i64 t293, .int .i64 t294, .int .i32 t295, .int .i32 t296, .int .i64 t297, .int .i64 t298, .int .u32 t299, .int .i32 t300] 36 (0, 0))) ∧ Aside0 (Below w.heap.size w w'))
                 case atStart => exact ⟨(0), (by first | rfl | (simp; done) | (simp [*]; done)), H', ⟨Nat.le_refl _⟩, ⟨by (with_reducible repeat (first | apply Kd.R_alloc | apply Kd.R_drewN | apply Kd.R_drew)); exact HO_8.out⟩, ⟨by (with_reducible repeat (first | refine bN_ ?_ _ | refine bD_ ?_ | refine bA_ ?_ _)); exact BK269.out⟩, ⟨by (with_reducible repeat (first | refine bN_ ?_ _ | refine bD_ ?_ | refine bA_ ?_ _)); exact BK288.out⟩, ⟨by (with_reducible repeat (first | refine bN_ ?_ _ | refine bD_ ?_ | refine bA_ ?_ _)); exact BK301.out⟩, ⟨by repeat (first | (with_reducible first | exact HB.out | apply below_alloc | apply pw_below_drewN | apply below_drew1 | refine below_set ?_ GE269.out | refine below_set ?_ GE288.out | refine below_set ?_ GE301.out) | exact HB.out)⟩⟩
                 case round =>
                  clear H'
                  (try clear c1); (try clear p2); (try clear q2); (try clear hx2); (try clear c3); (try clear c4); (try clear c5); (try clear c6); (try clear p6); (try clear c7); (try clear c8); (try clear c9); (try clear c10); (try clear c12); (try clear c13); (try clear c14); (try clear c16); (try clear c16b0); (try clear c16b1); (try clear p27); (try clear q27); (try clear hx27); (try clear c30)
                  (try clear c31); (try clear c32); (try clear c36); (try clear c38); (try clear c42); (try clear c56); (try clear c59); (try clear c59b0); (try clear c59b1); (try clear c60); (try clear c60b0); (try clear c60b1); (try clear c60b2); (try clear c64); (try clear p64); (try clear c67); (try clear c67b0); (try clear c67b1); (try clear c71); (try clear c77); (try clear c78); (try clear c80)
                  (try clear c80b0); (try clear c80b1); (try clear c81); (try clear c81b0); (try clear c82); (try clear c83); (try clear c85); (try clear c85b0); (try clear c86); (try clear c87); (try clear c89); (try clear c90); (try clear c92); (try clear c93); (try clear c95); (try clear hcz43_0); (try clear hcz43_1); (try clear hcz43_2); (try clear hcz43_3); (try clear hcz43_4); (try clear hcz43_5)
                  (try clear hcz44_0); (try clear hcz44_1); (try clear hcz44_2); (try clear hcz44_3); (try clear hcz57_0); (try clear hcz57_1); (try clear hcz57_2); (try clear hcz57_3); (try clear hcz57_4); (try clear hcz57_5); (try clear hcz61_0); (try clear hcz61_1); (try clear hcz61_2); (try clear hcz61_3); (try clear hcz65_0); (try clear hcz65_1); (try clear hcz65_2); (try clear hcz65_3); (try clear hcz66_0)
                  (try clear hcz66_1); (try clear hcz66_2); (try clear hcz66_3); (try clear hcz72_0); (try clear hcz72_1); (try clear hcz72_2); (try clear hcz72_3); (try clear hcz79_0); (try clear hcz79_1); (try clear hcz79_2); (try clear hcz79_3); (try clear hcz79_4); (try clear hcz79_5); (try clear hcz79_6); (try clear hcz79_7); (try clear hcz79_8); (try clear hcz84_0); (try clear hcz84_1); (try clear hcz84_2)
                  (try clear hcz84_3); (try clear hcz84_4); (try clear hcz84_5); (try clear hcz84_6); (try clear hcz84_7); (try clear hcz84_8); (try clear hcz88_0); (try clear hcz88_1); (try clear hcz88_2); (try clear hcz88_3); (try clear hcz88_4); (try clear hcz88_5); (try clear hcz88_6); (try clear hcz88_7); (try clear hcz88_8); (try clear hcz91_0); (try clear hcz91_1); (try clear hcz91_2); (try clear hcz91_3)
                  (try clear hcz91_4); (try clear hcz91_5); (try clear hcz91_6); (try clear hcz91_7); (try clear hcz91_8); (try clear hcz94_0); (try clear hcz94_1); (try clear hcz94_2); (try clear hcz94_3); (try clear hcz94_4); (try clear hcz94_5); (try clear hcz94_6); (try clear hcz94_7); (try clear hcz94_8); (try clear hfz43_0); (try clear hfz43_1); (try clear hfz43_2); (try clear hfz43_3); (try clear hfz43_4)
                  (try clear hfz43_5); (try clear hfz44_0); (try clear hfz44_1); (try clear hfz44_2); (try clear hfz44_3); (try clear hfz57_0); (try clear hfz57_1); (try clear hfz57_2); (try clear hfz57_3); (try clear hfz57_4); (try clear hfz57_5); (try clear hfz61_0); (try clear hfz61_1); (try clear hfz61_2); (try clear hfz61_3); (try clear hfz65_0); (try clear hfz65_1); (try clear hfz65_2); (try clear hfz65_3)
                  (try clear hfz66_0); (try clear hfz66_1); (try clear hfz66_2); (try clear hfz66_3); (try clear hfz72_0); (try clear hfz72_1); (try clear hfz72_2); (try clear hfz72_3); (try clear hfz79_0); (try clear hfz79_1); (try clear hfz79_2); (try clear hfz79_3); (try clear hfz79_4); (try clear hfz79_5); (try clear hfz79_6); (try clear hfz79_7); (try clear hfz79_8); (try clear hfz84_0); (try clear hfz84_1)
                  (try clear hfz84_2); (try clear hfz84_3); (try clear hfz84_4); (try clear hfz84_5); (try clear hfz84_6); (try clear hfz84_7); (try clear hfz84_8); (try clear hfz88_0); (try clear hfz88_1); (try clear hfz88_2); (try clear hfz88_3); (try clear hfz88_4); (try clear hfz88_5); (try clear hfz88_6); (try clear hfz88_7); (try clear hfz88_8); (try clear hfz91_0); (try clear hfz91_1); (try clear hfz91_2)
                  (try clear hfz91_3); (try clear hfz91_4); (try clear hfz91_5); (try clear hfz91_6); (try clear hfz91_7); (try clear hfz91_8); (try clear hfz94_0); (try clear hfz94_1); (try clear hfz94_2); (try clear hfz94_3); (try clear hfz94_4); (try clear hfz94_5); (try clear hfz94_6); (try clear hfz94_7); (try clear hfz94_8); (try clear hx270_0); (try clear hx278_0); (try clear p2); (try clear p27)
                  (try clear p270); (try clear p278); (try clear p6); (try clear p64); (try clear q2); (try clear q27); (try clear q270); (try clear q278)
                  obtain ⟨x16_6, rfl, HA, HK6, HO_8, BK269, BK288, BK301, HB⟩ := hrel
                  cases gk with
                  | zero => exact absurd HA.out (by simp [dragomanlaw21_Iso2022Back.l2])
                  | succ k6 =>
                   have H := HA.out
                   clear HA
                   simp only [dragomanlaw21_Iso2022Back.l2] at H
                   by_cases c96 : x16_6 < t293
                   ·rw [if_pos c96] at H
                    have c96b0 : decide (x16_6 < t293) = true := decide_eq_true c96
                    clear c96
                    by_cases c97 : 0 ≤ x16_6
                    ·rw [if_pos c97] at H
                     have c97b0 : decide (0 ≤ x16_6) = true := decide_eq_true c97
                     clear c97
                     by_cases c98 : x16_6 < (x7_4.size : Int)
                     ·rw [if_pos c98] at H
                      have c98b0 : decide (x16_6 < (x7_4.size : Int)) = true := decide_eq_true c98
                      clear c98
                      by_cases c100 : (bt x7_4 x16_6) ≥ 128
                      ·rw [if_pos c100] at H
                       have c100b0 : decide (128 ≤ (bt x7_4 x16_6)) = true := decide_eq_true c100
                       clear c100
                       obtain rfl := Option.some.inj H
                       have hnb101 := NB301_269.out
                       have hnc101 := NB269_301.out
                       have hnb102 := NB301_288.out
                       have hnc102 := NB288_301.out
                       have hcz103_0 : wr.cell? ⟨gb301, 0, none⟩ = some (.int .i64 t292) := (blk_cell BK301.out 0).trans rfl
                       have hcz103_1 : wr.cell? ⟨gb301, 1, none⟩ = some (.int .i64 t293) := (blk_cell BK301.out 1).trans rfl
                       have hcz103_2 : wr.cell? ⟨gb301, 2, none⟩ = some (.int .i64 t294) := (blk_cell BK301.out 2).trans rfl
                       have hcz103_3 : wr.cell? ⟨gb301, 3, none⟩ = some (.int .i32 t295) := (blk_cell BK301.out 3).trans rfl
                       have hcz103_4 : wr.cell? ⟨gb301, 4, none⟩ = some (.int .i32 t296) := (blk_cell BK301.out 4).trans rfl
                       have hcz103_5 : wr.cell? ⟨gb301, 5, none⟩ = some (.int .i64 t297) := (blk_cell BK301.out 5).trans rfl
                       have hcz103_6 : wr.cell? ⟨gb301, 6, none⟩ = some (.int .i64 t298) := (blk_cell BK301.out 6).trans rfl
                       have hcz103_7 : wr.cell? ⟨gb301, 7, none⟩ = some (.int .u32 t299) := (blk_cell BK301.out 7).trans rfl
                       have hcz103_8 : wr.cell? ⟨gb301, 8, none⟩ = some (.int .i32 t300) := (blk_cell BK301.out 8).trans rfl
                       have hfz103_0 := blk_frozen BK301.out 0
                       have hfz103_1 := blk_frozen BK301.out 1
                       have hfz103_2 := blk_frozen BK301.out 2
                       have hfz103_3 := blk_frozen BK301.out 3
                       have hfz103_4 := blk_frozen BK301.out 4
                       have hfz103_5 := blk_frozen BK301.out 5
                       have hfz103_6 := blk_frozen BK301.out 6
                       have hfz103_7 := blk_frozen BK301.out 7
                       have hfz103_8 := blk_frozen BK301.out 8
                       have p99 : 0 ≤ (x16_6 : Int) := of_decide_eq_true (by first | (with_reducible assumption) | assumption)
                       have q99 : x16_6 < (x7_4.size : Int) := of_decide_eq_true (by first | (with_reducible assumption) | assumption)
                       have hx99 := bt_at x7_4 x16_6
                       replace p99 := eq_true p99
                       replace q99 := eq_true q99
                       go_wp2
                       go_ret
                       exact ⟨by first | rfl | (simp [errW_none, errW_some] <;> rfl) | (simp [*, errW_none, errW_some] <;> rfl), by repeat (first | (with_reducible first | exact HB.out | apply below_alloc | apply pw_below_drewN | apply below_drew1 | refine below_set ?_ GE269.out | refine below_set ?_ GE288.out | refine below_set ?_ GE301.out) | exact HB.out)⟩
                      ·rw [if_neg c100] at H
                       have c100b0 : decide (128 ≤ (bt x7_4 x16_6)) = false := decide_eq_false c100
                       clear c100
                       have H' := Aside0.mk H
                       clear H
                       have hnb104 := NB301_269.out
                       have hnc104 := NB269_301.out
                       have hnb105 := NB301_288.out
                       have hnc105 := NB288_301.out
                       have hcz106_0 : wr.cell? ⟨gb301, 0, none⟩ = some (.int .i64 t292) := (blk_cell BK301.out 0).trans rfl
                       have hcz106_1 : wr.cell? ⟨gb301, 1, none⟩ = some (.int .i64 t293) := (blk_cell BK301.out 1).trans rfl
                       have hcz106_2 : wr.cell? ⟨gb301, 2, none⟩ = some (.int .i64 t294) := (blk_cell BK301.out 2).trans rfl
                       have hcz106_3 : wr.cell? ⟨gb301, 3, none⟩ = some (.int .i32 t295) := (blk_cell BK301.out 3).trans rfl
                       have hcz106_4 : wr.cell? ⟨gb301, 4, none⟩ = some (.int .i32 t296) := (blk_cell BK301.out 4).trans rfl
                       have hcz106_5 : wr.cell? ⟨gb301, 5, none⟩ = some (.int .i64 t297) := (blk_cell BK301.out 5).trans rfl
                       have hcz106_6 : wr.cell? ⟨gb301, 6, none⟩ = some (.int .i64 t298) := (blk_cell BK301.out 6).trans rfl
                       have hcz106_7 : wr.cell? ⟨gb301, 7, none⟩ = some (.int .u32 t299) := (blk_cell BK301.out 7).trans rfl
                       have hcz106_8 : wr.cell? ⟨gb301, 8, none⟩ = some (.int .i32 t300) := (blk_cell BK301.out 8).trans rfl
                       have hfz106_0 := blk_frozen BK301.out 0
                       have hfz106_1 := blk_frozen BK301.out 1
                       have hfz106_2 := blk_frozen BK301.out 2
                       have hfz106_3 := blk_frozen BK301.out 3
                       have hfz106_4 := blk_frozen BK301.out 4
                       have hfz106_5 := blk_frozen BK301.out 5
                       have hfz106_6 := blk_frozen BK301.out 6
                       have hfz106_7 := blk_frozen BK301.out 7
                       have hfz106_8 := blk_frozen BK301.out 8
                       have p99 : 0 ≤ (x16_6 : Int) := of_decide_eq_true (by first | (with_reducible assumption) | assumption)
                       have q99 : x16_6 < (x7_4.size : Int) := of_decide_eq_true (by first | (with_reducible assumption) | assumption)
                       have hx99 := bt_at x7_4 x16_6
                       replace p99 := eq_true p99
                       replace q99 := eq_true q99
                       go_wp2
                       go_roundg k6
                       case measure => have := HJ4.out; have := HK2.out; have := HJ9.out; have := HK4.out; have := HJ69.out; have := HK6.out; omega
                       case rel => exact ⟨(wrap64 (x16_6 + 1)), (by first | rfl | (simp; done) | (simp [*]; done)), H', ⟨by have := HJ4.out; have := HK2.out; have := HJ9.out; have := HK4.out; have := HJ69.out; have := HK6.out; omega⟩, ⟨by (with_reducible repeat (first | apply Kd.R_alloc | apply Kd.R_drewN | apply Kd.R_drew)); exact HO_8.out⟩, ⟨by (with_reducible repeat (first | refine bN_ ?_ _ | refine bD_ ?_ | refine bA_ ?_ _)); exact BK269.out⟩, ⟨by (with_reducible repeat (first | refine bN_ ?_ _ | refine bD_ ?_ | refine bA_ ?_ _)); exact BK288.out⟩, ⟨by (with_reducible repeat (first | refine bN_ ?_ _ | refine bD_ ?_ | refine bA_ ?_ _)); exact BK301.out⟩, ⟨by repeat (first | (with_reducible first | exact HB.out | apply below_alloc | apply pw_below_drewN | apply below_drew1 | refine below_set ?_ GE269.out | refine below_set ?_ GE288.out | refine below_set ?_ GE301.out) | exact HB.out)⟩⟩
                     ·rw [if_neg c98] at H
                      exact absurd H (by simp)
                    ·rw [if_neg c97] at H
                     exact absurd H (by simp)
                   ·rw [if_neg c96] at H
                    have c96b0 : decide (x16_6 < t293) = false := decide_eq_false c96
                    clear c96
                    by_cases c107 : t294 = 1
                    ·rw [if_pos c107] at H
                     have c107b0 : (t294 == 1) = true := beq_iff_eq.mpr c107
                     have c107b1 : (t294 != 1) = false := bne_eq_false_iff_eq.mpr c107
                     clear c107
                     by_cases c108 : x14_4 ≥ (x8_2.length : Int)
                     ·rw [if_pos c108] at H
                      have c108b0 : decide ((x8_2.length : Int) ≤ x14_4) = true := decide_eq_true c108
                      clear c108
                      obtain rfl := Option.some.inj H
                      have hnb109 := NB301_269.out
                      have hnc109 := NB269_301.out
                      have hnb110 := NB301_288.out
                      have hnc110 := NB288_301.out
                      have hcz111_0 : wr.cell? ⟨gb301, 0, none⟩ = some (.int .i64 t292) := (blk_cell BK301.out 0).trans rfl
                      have hcz111_1 : wr.cell? ⟨gb301, 1, none⟩ = some (.int .i64 t293) := (blk_cell BK301.out 1).trans rfl
                      have hcz111_2 : wr.cell? ⟨gb301, 2, none⟩ = some (.int .i64 t294) := (blk_cell BK301.out 2).trans rfl
                      have hcz111_3 : wr.cell? ⟨gb301, 3, none⟩ = some (.int .i32 t295) := (blk_cell BK301.out 3).trans rfl
                      have hcz111_4 : wr.cell? ⟨gb301, 4, none⟩ = some (.int .i32 t296) := (blk_cell BK301.out 4).trans rfl
                      have hcz111_5 : wr.cell? ⟨gb301, 5, none⟩ = some (.int .i64 t297) := (blk_cell BK301.out 5).trans rfl
                      have hcz111_6 : wr.cell? ⟨gb301, 6, none⟩ = some (.int .i64 t298) := (blk_cell BK301.out 6).trans rfl
                      have hcz111_7 : wr.cell? ⟨gb301, 7, none⟩ = some (.int .u32 t299) := (blk_cell BK301.out 7).trans rfl
                      have hcz111_8 : wr.cell? ⟨gb301, 8, none⟩ = some (.int .i32 t300) := (blk_cell BK301.out 8).trans rfl
                      have hfz111_0 := blk_frozen BK301.out 0
                      have hfz111_1 := blk_frozen BK301.out 1
                      have hfz111_2 := blk_frozen BK301.out 2
                      have hfz111_3 := blk_frozen BK301.out 3
                      have hfz111_4 := blk_frozen BK301.out 4
                      have hfz111_5 := blk_frozen BK301.out 5
                      have hfz111_6 := blk_frozen BK301.out 6
                      have hfz111_7 := blk_frozen BK301.out 7
                      have hfz111_8 := blk_frozen BK301.out 8
                      try go_wp2
                      have n0_ := Aside0.mk (Kd.R_drew HO_8.out)
                      have n1_ := Aside0.mk (blk_drew BK269.out)
                      have n2_ := Aside0.mk (blk_drew BK288.out)
                      have n3_ := Aside0.mk (blk_drew BK301.out)
                      have n4_ := Aside0.mk (below_drew1 HB.out)
                      clear HO_8
                      clear BK269
                      clear BK288
                      clear BK301
                      clear HB
                      have HO_8 := n0_
                      have BK269 := n1_
                      have BK288 := n2_
                      have BK301 := n3_
                      have HB := n4_
                      clear n0_ n1_ n2_ n3_ n4_
                      obtain ⟨Ao113, co113, eo113⟩ := Kd.R_slice HO_8.out
                      (first | subst eo113 | (injection eo113 with f1_ f2_ f3_; have f4_ := f1_.symm; have f5_ := f3_.symm; clear f1_ f2_ f3_; subst f4_; subst f5_))
                      refine start_ (n := 13) (S := fun w' => True) (ds := []) #[false, false, false, false, false, false, false, false, false, false, false, false, false] (by kernel_rfl) rfl rfl trivial (fun hHeld => ?_); refine with_tabW dragomanlaw21_Iso2022Back.tab35 dragomanlaw21_Iso2022Back.bits35 (fun HT_ HW_ => ?_)
                      generalize wr.drew = w112 at HO_8 BK269 BK288 BK301 HB hHeld ⊢
                      refine pure_ (i := 0) (N := some 112) (v := ?_) (a' := ?_) #[true, false, false, false, false, false, false, false, false, false, false, false, false] rfl rfl (any_of HT_.out (by kernel_rfl)) (fun _ _ _ h => h) (Or.inl ⟨by rfl, ?_⟩) ?_ ?_
                      rotate_left
                      ·intro w'
                       go_simp
                       with_reducible rfl
                      rotate_left
                      ·simp only [Act.put, List.setIfInBounds_toArray, List.set_cons_zero, List.set_cons_succ, i64_w, i32_w]
                       rfl
                      refine pure_ (i := 1) (N := some 113) (v := ?_) (a' := ?_) #[true, true, false, false, false, false, false, false, false, false, false, false, false] rfl rfl (any_of HT_.out (by kernel_rfl)) (fun _ _ _ h => h) (Or.inl ⟨by rfl, ?_⟩) ?_ ?_
                      rotate_left
                      ·intro w'
                       go_simp
                       with_reducible rfl
                      rotate_left
                      ·simp only [Act.put, List.setIfInBounds_toArray, List.set_cons_zero, List.set_cons_succ, i64_w, i32_w]
                       rfl
                      refine pure_ (i := 2) (N := some 114) (v := ?_) (a' := ?_) #[true, true, true, false, false, false, false, false, false, false, false, false, false] rfl rfl (any_of HT_.out (by kernel_rfl)) (fun _ _ _ h => h) (Or.inl ⟨by rfl, ?_⟩) ?_ ?_
                      rotate_left
                      ·intro w'
                       go_simp
                       with_reducible rfl
                      rotate_left
                      ·simp only [Act.put, List.setIfInBounds_toArray, List.set_cons_zero, List.set_cons_succ, i64_w, i32_w]
                       rfl
                      refine pure_ (i := 3) (N := some 115) (v := ?_) (a' := ?_) #[true, true, true, true, false, false, false, false, false, false, false, false, false] rfl rfl (any_of HT_.out (by kernel_rfl)) (fun _ _ _ h => h) (Or.inl ⟨by rfl, ?_⟩) ?_ ?_
                      rotate_left
                      ·intro w'
                       go_simp
                       with_reducible rfl
                      rotate_left
                      ·simp only [Act.put, List.setIfInBounds_toArray, List.set_cons_zero, List.set_cons_succ, i64_w, i32_w]
                       rfl
                      refine pure_ (i := 4) (N := some 116) (v := ?_) (a' := ?_) #[true, true, true, true, true, false, false, false, false, false, false, false, false] rfl rfl (any_of HT_.out (by kernel_rfl)) (fun _ _ _ h => h) (Or.inl ⟨by rfl, ?_⟩) ?_ ?_
                      rotate_left
                      ·intro w'
                       go_simp
                       with_reducible rfl
                      rotate_left
                      ·simp only [Act.put, List.setIfInBounds_toArray, List.set_cons_zero, List.set_cons_succ, i64_w, i32_w]
                       rfl
                      refine pure_ (i := 5) (N := some 117) (v := undef) (a' := ?_) #[true, true, true, true, true, true, false, false, false, false, false, false, false] rfl rfl (any_of HT_.out (by kernel_rfl)) (fun _ _ _ h => h) (Or.inr ⟨by rfl, rfl⟩) ?_ ?_
                      rotate_left
                      ·simp only [Act.put, List.setIfInBounds_toArray, List.set_cons_zero, List.set_cons_succ, i64_w, i32_w]
                       rfl
                      refine pure_ (i := 6) (N := some 118) (v := undef) (a' := ?_) #[true, true, true, true, true, true, true, false, false, false, false, false, false] rfl rfl (any_of HT_.out (by kernel_rfl)) (fun _ _ _ h => h) (Or.inr ⟨by rfl, rfl⟩) ?_ ?_
                      rotate_left
                      ·simp only [Act.put, List.setIfInBounds_toArray, List.set_cons_zero, List.set_cons_succ, i64_w, i32_w]
                       rfl
                      refine pure_ (i := 7) (N := some 119) (v := undef) (a' := ?_) #[true, true, true, true, true, true, true, true, false, false, false, false, false] rfl rfl (any_of HT_.out (by kernel_rfl)) (fun _ _ _ h => h) (Or.inr ⟨by rfl, rfl⟩) ?_ ?_
                      rotate_left
                      ·simp only [Act.put, List.setIfInBounds_toArray, List.set_cons_zero, List.set_cons_succ, i64_w, i32_w]
                       rfl
                      refine pure_ (i := 8) (N := some 120) (v := undef) (a' := ?_) #[true, true, true, true, true, true, true, true, true, false, false, false, false] rfl rfl (any_of HT_.out (by kernel_rfl)) (fun _ _ _ h => h) (Or.inr ⟨by rfl, rfl⟩) ?_ ?_
                      rotate_left
                      ·simp only [Act.put, List.setIfInBounds_toArray, List.set_cons_zero, List.set_cons_succ, i64_w, i32_w]
                       rfl
                      refine pure_ (i := 9) (N := some 121) (v := undef) (a' := ?_) #[true, true, true, true, true, true, true, true, true, true, false, false, false] rfl rfl (any_of HT_.out (by kernel_rfl)) (fun _ _ _ h => h) (Or.inr ⟨by rfl, rfl⟩) ?_ ?_
                      rotate_left
                      ·simp only [Act.put, List.setIfInBounds_toArray, List.set_cons_zero, List.set_cons_succ, i64_w, i32_w]
                       rfl
                      refine pure_ (i := 10) (N := some 122) (v := undef) (a' := ?_) #[true, true, true, true, true, true, true, true, true, true, true, false, false] rfl rfl (any_of HT_.out (by kernel_rfl)) (fun _ _ _ h => h) (Or.inr ⟨by rfl, rfl⟩) ?_ ?_
                      rotate_left
                      ·simp only [Act.put, List.setIfInBounds_toArray, List.set_cons_zero, List.set_cons_succ, i64_w, i32_w]
                       rfl
                      refine pure_ (i := 11) (N := some 123) (v := undef) (a' := ?_) #[true, true, true, true, true, true, true, true, true, true, true, true, false] rfl rfl (any_of HT_.out (by kernel_rfl)) (fun _ _ _ h => h) (Or.inr ⟨by rfl, rfl⟩) ?_ ?_
                      rotate_left
                      ·simp only [Act.put, List.setIfInBounds_toArray, List.set_cons_zero, List.set_cons_succ, i64_w, i32_w]
                       rfl
                      refine pure_ (i := 12) (N := some 124) (v := ?_) (a' := ?_) #[true, true, true, true, true, true, true, true, true, true, true, true, true] rfl rfl (any_of HT_.out (by kernel_rfl)) (fun _ _ _ h => h) (Or.inl ⟨by rfl, ?_⟩) ?_ ?_
                      rotate_left
                      ·intro w'
                       go_simp
                       with_reducible rfl
                      rotate_left
                      ·simp only [Act.put, List.setIfInBounds_toArray, List.set_cons_zero, List.set_cons_succ, i64_w, i32_w]
                       rfl
                      refine done_ (done_of HT_.out (by kernel_rfl)) ?_
                      try go_wp2
                      go_ret
                      exact ⟨by first | rfl | (simp [errW_none, errW_some] <;> rfl) | (simp [*, errW_none, errW_some] <;> rfl), by repeat (first | (with_reducible first | exact HB.out | apply below_alloc | apply pw_below_drewN | apply below_drew1 | refine below_set ?_ GE269.out | refine below_set ?_ GE288.out | refine below_set ?_ GE301.out) | exact HB.out)⟩
                     ·rw [if_neg c108] at H
                      have c108b0 : decide ((x8_2.length : Int) ≤ x14_4) = false := decide_eq_false c108
                      clear c108
                      by_cases c114 : 0 ≤ x14_4
                      ·rw [if_pos c114] at H
                       have c114b0 : decide (0 ≤ x14_4) = true := decide_eq_true c114
                       clear c114
                       by_cases c115 : x14_4 < (x8_2.length : Int)
                       ·rw [if_pos c115] at H
                        have c115b0 : decide (x14_4 < (x8_2.length : Int)) = true := decide_eq_true c115
                        clear c115
                        by_cases c116 : (rd x8_2 x14_4) = t295
                        ·rw [if_pos c116] at H
                         have c116b0 : ((rd x8_2 x14_4) == t295) = true := beq_iff_eq.mpr c116
                         have c116b1 : ((rd x8_2 x14_4) != t295) = false := bne_eq_false_iff_eq.mpr c116
                         clear c116
                         by_cases c117 : 0 ≤ t293
                         ·rw [if_pos c117] at H
                          have c117b0 := eq_true c117
                          have c117b1 : decide (0 ≤ t293) = true := decide_eq_true c117
                          clear c117
                          by_cases c118 : t293 ≤ (x7_4.size : Int)
                          ·rw [if_pos c118] at H
                           have c118b0 := eq_true c118
                           have c118b1 : decide (t293 ≤ (x7_4.size : Int)) = true := decide_eq_true c118
                           clear c118
                           have H' := Aside0.mk H
                           clear H
                           have hnb119 := NB301_269.out
                           have hnc119 := NB269_301.out
                           have hnb120 := NB301_288.out
                           have hnc120 := NB288_301.out
                           have hcz121_0 : wr.cell? ⟨gb301, 0, none⟩ = some (.int .i64 t292) := (blk_cell BK301.out 0).trans rfl
                           have hcz121_1 : wr.cell? ⟨gb301, 1, none⟩ = some (.int .i64 t293) := (blk_cell BK301.out 1).trans rfl
                           have hcz121_2 : wr.cell? ⟨gb301, 2, none⟩ = some (.int .i64 t294) := (blk_cell BK301.out 2).trans rfl
                           have hcz121_3 : wr.cell? ⟨gb301, 3, none⟩ = some (.int .i32 t295) := (blk_cell BK301.out 3).trans rfl
                           have hcz121_4 : wr.cell? ⟨gb301, 4, none⟩ = some (.int .i32 t296) := (blk_cell BK301.out 4).trans rfl
                           have hcz121_5 : wr.cell? ⟨gb301, 5, none⟩ = some (.int .i64 t297) := (blk_cell BK301.out 5).trans rfl
                           have hcz121_6 : wr.cell? ⟨gb301, 6, none⟩ = some (.int .i64 t298) := (blk_cell BK301.out 6).trans rfl
                           have hcz121_7 : wr.cell? ⟨gb301, 7, none⟩ = some (.int .u32 t299) := (blk_cell BK301.out 7).trans rfl
                           have hcz121_8 : wr.cell? ⟨gb301, 8, none⟩ = some (.int .i32 t300) := (blk_cell BK301.out 8).trans rfl
                           have hfz121_0 := blk_frozen BK301.out 0
                           have hfz121_1 := blk_frozen BK301.out 1
                           have hfz121_2 := blk_frozen BK301.out 2
                           have hfz121_3 := blk_frozen BK301.out 3
                           have hfz121_4 := blk_frozen BK301.out 4
                           have hfz121_5 := blk_frozen BK301.out 5
                           have hfz121_6 := blk_frozen BK301.out 6
                           have hfz121_7 := blk_frozen BK301.out 7
                           have hfz121_8 := blk_frozen BK301.out 8
                           try go_wp2
                           have n0_ := Aside0.mk (Kd.R_drew HO_8.out)
                           have n1_ := Aside0.mk (blk_drew BK269.out)
                           have n2_ := Aside0.mk (blk_drew BK288.out)
                           have n3_ := Aside0.mk (blk_drew BK301.out)
                           have n4_ := Aside0.mk (below_drew1 HB.out)
                           clear HO_8
                           clear BK269
                           clear BK288
                           clear BK301
                           clear HB
                           have HO_8 := n0_
                           have BK269 := n1_
                           have BK288 := n2_
                           have BK301 := n3_
                           have HB := n4_
                           clear n0_ n1_ n2_ n3_ n4_
                           obtain ⟨Ao123, co123, eo123⟩ := Kd.R_slice HO_8.out
                           (first | subst eo123 | (injection eo123 with f1_ f2_ f3_; have f4_ := f1_.symm; have f5_ := f3_.symm; clear f1_ f2_ f3_; subst f4_; subst f5_))
                           have p302 : 0 ≤ (x14_4 : Int) := of_decide_eq_true (by first | (with_reducible assumption) | assumption)
                           have q302 : x14_4 < (x8_2.length : Int) := of_decide_eq_true (by first | (with_reducible assumption) | assumption)
                           obtain ⟨ad302, e302, hx302_0⟩ := Kd.at_int (Kd.R_reads' HO_8.out).2.2 x14_4 p302 q302
                           cases e302
                           replace p302 := eq_true p302
                           replace q302 := eq_true q302
                           refine start_ (n := 13) (S := fun w' => w'.cell? ⟨gb301, 0, none⟩ = some (.int .i64 t292) ∧ w'.cell? ⟨gb301, 1, none⟩ = some (.int .i64 t293) ∧ w'.cell? ⟨gb301, 2, none⟩ = some (.int .i64 t294) ∧ w'.cell? ⟨gb301, 3, none⟩ = some (.int .i32 t295) ∧ w'.cell? ⟨gb301, 4, none⟩ = some (.int .i32 t296) ∧ w'.cell? ⟨gb301, 5, none⟩ = some (.int .i64 t297) ∧ w'.cell? ⟨gb301, 6, none⟩ = some (.int .i64 t298) ∧ w'.cell? ⟨gb301, 7, none⟩ = some (.int .u32 t299) ∧ w'.cell? ⟨gb301, 8, none⟩ = some (.int .i32 t300) ∧ w'.cell? (ad302.add (x14_4).toNat) = some (.int .i32 (rd x8_2 x14_4))) (ds := []) #[false, false, false, false, false, false, false, false, false, false, false, false, false] (by kernel_rfl) rfl rfl ⟨(blk_cell BK301.out 0).trans rfl, (blk_cell BK301.out 1).trans rfl, (blk_cell BK301.out 2).trans rfl, (blk_cell BK301.out 3).trans rfl, (blk_cell BK301.out 4).trans rfl, (blk_cell BK301.out 5).trans rfl, (blk_cell BK301.out 6).trans rfl, (blk_cell BK301.out 7).trans rfl, (blk_cell BK301.out 8).trans rfl, hx302_0⟩ (fun hHeld => ?_); refine with_tabW dragomanlaw21_Iso2022Back.tab35 dragomanlaw21_Iso2022Back.bits35 (fun HT_ HW_ => ?_)
                           generalize wr.drew = w122 at HO_8 BK269 BK288 BK301 HB hx302_0 hHeld ⊢
                           refine pure_ (i := 0) (N := some 112) (v := ?_) (a' := ?_) #[true, false, false, false, false, false, false, false, false, false, false, false, false] rfl rfl (any_of HT_.out (by kernel_rfl)) (fun _ _ _ h => h) (Or.inl ⟨by rfl, ?_⟩) ?_ ?_
                           rotate_left
                           ·intro w'
                            go_simp
                            with_reducible rfl
                           rotate_left
                           ·simp only [Act.put, List.setIfInBounds_toArray, List.set_cons_zero, List.set_cons_succ, i64_w, i32_w]
                            rfl
                           refine pure_ (i := 1) (N := some 113) (v := ?_) (a' := ?_) #[true, true, false, false, false, false, false, false, false, false, false, false, false] rfl rfl (any_of HT_.out (by kernel_rfl)) (fun _ _ _ h => h) (Or.inl ⟨by rfl, ?_⟩) ?_ ?_
                           rotate_left
                           ·intro w'
                            go_simp
                            with_reducible rfl
                           rotate_left
                           ·simp only [Act.put, List.setIfInBounds_toArray, List.set_cons_zero, List.set_cons_succ, i64_w, i32_w]
                            rfl
                           refine pure_ (i := 2) (N := some 114) (v := ?_) (a' := ?_) #[true, true, true, false, false, false, false, false, false, false, false, false, false] rfl rfl (any_of HT_.out (by kernel_rfl)) (fun _ _ _ h => h) (Or.inl ⟨by rfl, ?_⟩) ?_ ?_
                           rotate_left
                           ·intro w'
                            go_simp
                            with_reducible rfl
                           rotate_left
                           ·simp only [Act.put, List.setIfInBounds_toArray, List.set_cons_zero, List.set_cons_succ, i64_w, i32_w]
                            rfl
                           refine pure_ (i := 3) (N := some 115) (v := ?_) (a' := ?_) #[true, true, true, true, false, false, false, false, false, false, false, false, false] rfl rfl (any_of HT_.out (by kernel_rfl)) (fun _ _ _ h => h) (Or.inl ⟨by rfl, ?_⟩) ?_ ?_
                           rotate_left
                           ·intro w'
                            go_simp
                            with_reducible rfl
                           rotate_left
                           ·simp only [Act.put, List.setIfInBounds_toArray, List.set_cons_zero, List.set_cons_succ, i64_w, i32_w]
                            rfl
                           refine pure_ (i := 4) (N := some 116) (v := ?_) (a' := ?_) #[true, true, true, true, true, false, false, false, false, false, false, false, false] rfl rfl (any_of HT_.out (by kernel_rfl)) (fun _ _ _ h => h) (Or.inl ⟨by rfl, ?_⟩) ?_ ?_
                           rotate_left
                           ·intro w'
                            go_simp
                            with_reducible rfl
                           rotate_left
                           ·simp only [Act.put, List.setIfInBounds_toArray, List.set_cons_zero, List.set_cons_succ, i64_w, i32_w]
                            rfl
                           refine pure_ (i := 5) (N := some 117) (v := ?_) (a' := ?_) #[true, true, true, true, true, true, false, false, false, false, false, false, false] rfl rfl (any_of HT_.out (by kernel_rfl)) (fun _ _ _ h => h) (Or.inl ⟨by rfl, ?_⟩) ?_ ?_
                           rotate_left
                           ·intro w'
                            go_simp
                            with_reducible rfl
                           rotate_left
                           ·simp only [Act.put, List.setIfInBounds_toArray, List.set_cons_zero, List.set_cons_succ, i64_w, i32_w]
                            rfl
                           refine pure_ (i := 6) (N := some 118) (v := ?_) (a' := ?_) #[true, true, true, true, true, true, true, false, false, false, false, false, false] rfl rfl (any_of HT_.out (by kernel_rfl)) (fun _ _ _ h => h) (Or.inl ⟨by rfl, ?_⟩) ?_ ?_
                           rotate_left
                           ·intro w'
                            go_simp
                            with_reducible rfl
                           rotate_left
                           ·simp only [Act.put, List.setIfInBounds_toArray, List.set_cons_zero, List.set_cons_succ, i64_w, i32_w]
                            rfl
                           refine pure_ (i := 7) (N := some 119) (v := ?_) (a' := ?_) #[true, true, true, true, true, true, true, true, false, false, false, false, false] rfl rfl (any_of HT_.out (by kernel_rfl)) (fun _ _ _ h => h) (Or.inl ⟨by rfl, ?_⟩) ?_ ?_
                           rotate_left
                           ·intro w'
                            go_simp
                            with_reducible rfl
                           rotate_left
                           ·simp only [Act.put, List.setIfInBounds_toArray, List.set_cons_zero, List.set_cons_succ, i64_w, i32_w]
                            rfl
                           refine pure_ (i := 9) (N := some 121) (v := ?_) (a' := ?_) #[true, true, true, true, true, true, true, true, false, true, false, false, false] rfl rfl (any_of HT_.out (by kernel_rfl)) (fun _ _ _ h => h) (Or.inl ⟨by rfl, ?_⟩) ?_ ?_
                           rotate_left
                           ·intro w'
                            go_simp
                            with_reducible rfl
                           rotate_left
                           ·simp only [Act.put, List.setIfInBounds_toArray, List.set_cons_zero, List.set_cons_succ, i64_w, i32_w]
                            rfl
                           refine take_ (i := 8) (N := some 120) (v := ?_) (a' := ?_) #[true, true, true, true, true, true, true, true, true, true, false, false, false] rfl rfl (take_ofW HT_.out HW_.out (by kernel_rfl)) (fun _ _ _ h => h) (Or.inl ⟨by rfl, ?_⟩) hHeld ?_ ?_
                           rotate_left
                           ·rintro w' ⟨s0, s1, s2, s3, s4, s5, s6, s7, s8, s9⟩
                            go_simp
                            with_reducible rfl
                           rotate_left
                           ·simp only [Act.put, List.setIfInBounds_toArray, List.set_cons_zero, List.set_cons_succ, i64_w, i32_w]
                            rfl
                           refine take_ (i := 10) (N := some 122) (v := ?_) (a' := ?_) #[true, true, true, true, true, true, true, true, true, true, true, false, false] rfl rfl (take_ofW HT_.out HW_.out (by kernel_rfl)) (fun _ _ _ h => h) (Or.inl ⟨by rfl, ?_⟩) hHeld ?_ ?_
                           rotate_left
                           ·rintro w' ⟨s0, s1, s2, s3, s4, s5, s6, s7, s8, s9⟩
                            go_simp
                            with_reducible rfl
                           rotate_left
                           ·simp only [Act.put, List.setIfInBounds_toArray, List.set_cons_zero, List.set_cons_succ, i64_w, i32_w]
                            rfl
                           refine pure_ (i := 11) (N := some 123) (v := ?_) (a' := ?_) #[true, true, true, true, true, true, true, true, true, true, true, true, false] rfl rfl (any_of HT_.out (by kernel_rfl)) (fun _ _ _ h => h) (Or.inl ⟨by rfl, ?_⟩) ?_ ?_
                           rotate_left
                           ·intro w'
                            go_simp
                            with_reducible rfl
                           rotate_left
                           ·simp only [Act.put, List.setIfInBounds_toArray, List.set_cons_zero, List.set_cons_succ, i64_w, i32_w]
                            rfl
                           refine pure_ (i := 12) (N := some 124) (v := ?_) (a' := ?_) #[true, true, true, true, true, true, true, true, true, true, true, true, true] rfl rfl (any_of HT_.out (by kernel_rfl)) (fun _ _ _ h => h) (Or.inl ⟨by rfl, ?_⟩) ?_ ?_
                           rotate_left
                           ·intro w'
                            go_simp
                            with_reducible rfl
                           rotate_left
                           ·simp only [Act.put, List.setIfInBounds_toArray, List.set_cons_zero, List.set_cons_succ, i64_w, i32_w]
                            rfl
                           refine done_ (done_of HT_.out (by kernel_rfl)) ?_
                           try go_wp2
                           have n0_ := Aside0.mk (Kd.R_drew HO_8.out)
                           have n1_ := Aside0.mk (blk_drew BK269.out)
                           have n2_ := Aside0.mk (blk_drew BK288.out)
                           have n3_ := Aside0.mk (blk_drew BK301.out)
                           have n4_ := Aside0.mk (below_drew1 HB.out)
                           clear HO_8
                           clear BK269
                           clear BK288
                           clear BK301
                           clear HB
                           have HO_8 := n0_
                           have BK269 := n1_
                           have BK288 := n2_
                           have BK301 := n3_
                           have HB := n4_
                           clear n0_ n1_ n2_ n3_ n4_
                           refine start_ (n := 8) (S := fun w' => w'.cell? ⟨gb301, 0, none⟩ = some (.int .i64 t292) ∧ w'.cell? ⟨gb301, 1, none⟩ = some (.int .i64 t293) ∧ w'.cell? ⟨gb301, 2, none⟩ = some (.int .i64 t294) ∧ w'.cell? ⟨gb301, 3, none⟩ = some (.int .i32 t295) ∧ w'.cell? ⟨gb301, 4, none⟩ = some (.int .i32 t296) ∧ w'.cell? ⟨gb301, 5, none⟩ = some (.int .i64 t297) ∧ w'.cell? ⟨gb301, 6, none⟩ = some (.int .i64 t298) ∧ w'.cell? ⟨gb301, 7, none⟩ = some (.int .u32 t299) ∧ w'.cell? ⟨gb301, 8, none⟩ = some (.int .i32 t300)) (ds := []) #[false, false, false, false, false, false, false, false] (by kernel_rfl) rfl rfl ⟨(blk_cell BK301.out 0).trans rfl, (blk_cell BK301.out 1).trans rfl, (blk_cell BK301.out 2).trans rfl, (blk_cell BK301.out 3).trans rfl, (blk_cell BK301.out 4).trans rfl, (blk_cell BK301.out 5).trans rfl, (blk_cell BK301.out 6).trans rfl, (blk_cell BK301.out 7).trans rfl, (blk_cell BK301.out 8).trans rfl⟩ (fun hHeld => ?_); refine with_tabW dragomanlaw21_Iso2022Back.tab38 dragomanlaw21_Iso2022Back.bits38 (fun HT_ HW_ => ?_)
                           generalize w122.drew = w124 at HO_8 BK269 BK288 BK301 HB hHeld ⊢
                           refine pure_ (i := 0) (N := some 127) (v := ?_) (a' := ?_) #[true, false, false, false, false, false, false, false] rfl rfl (any_of HT_.out (by kernel_rfl)) (fun _ _ _ h => h) (Or.inl ⟨by rfl, ?_⟩) ?_ ?_
                           rotate_left
                           ·intro w'
                            go_simp
                            with_reducible rfl
                           rotate_left
                           ·simp only [Act.put, List.setIfInBounds_toArray, List.set_cons_zero, List.set_cons_succ, i64_w, i32_w]
                            rfl
                           refine pure_ (i := 1) (N := some 128) (v := ?_) (a' := ?_) #[true, true, false, false, false, false, false, false] rfl rfl (any_of HT_.out (by kernel_rfl)) (fun _ _ _ h => h) (Or.inl ⟨by rfl, ?_⟩) ?_ ?_
                           rotate_left
                           ·intro w'
                            go_simp
                            with_reducible rfl
                           rotate_left
                           ·simp only [Act.put, List.setIfInBounds_toArray, List.set_cons_zero, List.set_cons_succ, i64_w, i32_w]
                            rfl
                           refine pure_ (i := 4) (N := some 131) (v := ?_) (a' := ?_) #[true, true, false, false, true, false, false, false] rfl rfl (any_of HT_.out (by kernel_rfl)) (fun _ _ _ h => h) (Or.inl ⟨by rfl, ?_⟩) ?_ ?_
                           rotate_left
                           ·intro w'
                            go_simp
                            with_reducible rfl
                           rotate_left
                           ·simp only [Act.put, List.setIfInBounds_toArray, List.set_cons_zero, List.set_cons_succ, i64_w, i32_w]
                            rfl
                           refine take_ (i := 2) (N := some 129) (v := ?_) (a' := ?_) #[true, true, true, false, true, false, false, false] rfl rfl (take_ofW HT_.out HW_.out (by kernel_rfl)) (fun _ _ _ h => h) (Or.inl ⟨by rfl, ?_⟩) hHeld ?_ ?_
                           rotate_left
                           ·rintro w' ⟨s0, s1, s2, s3, s4, s5, s6, s7, s8⟩
                            go_simp
                            with_reducible rfl
                           rotate_left
                           ·simp only [Act.put, List.setIfInBounds_toArray, List.set_cons_zero, List.set_cons_succ, i64_w, i32_w]
                            rfl
                           refine pure_ (i := 3) (N := some 130) (v := ?_) (a' := ?_) #[true, true, true, true, true, false, false, false] rfl rfl (any_of HT_.out (by kernel_rfl)) (fun _ _ _ h => h) (Or.inl ⟨by rfl, ?_⟩) ?_ ?_
                           rotate_left
                           ·intro w'
                            go_simp
                            with_reducible rfl
                           rotate_left
                           ·simp only [Act.put, List.setIfInBounds_toArray, List.set_cons_zero, List.set_cons_succ, i64_w, i32_w]
                            rfl
                           refine pure_ (i := 6) (N := some 7) (v := ?_) (a' := ?_) #[true, true, true, true, true, false, true, false] rfl rfl (any_of HT_.out (by kernel_rfl)) (fun _ _ _ h => h) (Or.inl ⟨by rfl, ?_⟩) ?_ ?_
                           rotate_left
                           ·intro w'
                            go_simp
                            with_reducible rfl
                           rotate_left
                           ·simp only [Act.put, List.setIfInBounds_toArray, List.set_cons_zero, List.set_cons_succ, i64_w, i32_w]
                            rfl
                           refine take_ (i := 5) (N := some 132) (v := ?_) (a' := ?_) #[true, true, true, true, true, true, true, false] rfl rfl (take_ofW HT_.out HW_.out (by kernel_rfl)) (fun _ _ _ h => h) (Or.inl ⟨by rfl, ?_⟩) hHeld ?_ ?_
                           rotate_left
                           ·rintro w' ⟨s0, s1, s2, s3, s4, s5, s6, s7, s8⟩
                            go_simp
                            with_reducible rfl
                           rotate_left
                           ·simp only [Act.put, List.setIfInBounds_toArray, List.set_cons_zero, List.set_cons_succ, i64_w, i32_w]
                            rfl
                           refine one_ (i := 7) (N := none) #[true, true, true, true, true, true, true, true] rfl rfl (one_of HT_.out (by kernel_rfl)) (by decide) (fun K hK => ?_)
                           have hs125 : w124.cell? ⟨gb269, 0, none⟩ = some (.int .i64 x270000_4) := (blk_cell BK269.out 0).trans rfl
                           have hfs125 := blk_frozen BK269.out 0
                           have hns125_1 := NB288_269.out
                           have hns125_2 := NB301_269.out
                           have hms125_1 := NB269_288.out
                           have hms125_2 := NB269_301.out
                           have hs126 : w124.cell? ⟨gb269, 1, none⟩ = some (.int .i64 x270001_4) := (blk_cell BK269.out 1).trans rfl
                           have hfs126 := blk_frozen BK269.out 1
                           have hns126_1 := NB288_269.out
                           have hns126_2 := NB301_269.out
                           have hms126_1 := NB269_288.out
                           have hms126_2 := NB269_301.out
                           have hs127 : w124.cell? ⟨gb269, 2, none⟩ = some (.int .u32 x270002_4) := (blk_cell BK269.out 2).trans rfl
                           have hfs127 := blk_frozen BK269.out 2
                           have hns127_1 := NB288_269.out
                           have hns127_2 := NB301_269.out
                           have hms127_1 := NB269_288.out
                           have hms127_2 := NB269_301.out
                           have hs128 : w124.cell? ⟨gb269, 3, none⟩ = some (.int .i32 x270003_4) := (blk_cell BK269.out 3).trans rfl
                           have hfs128 := blk_frozen BK269.out 3
                           have hns128_1 := NB288_269.out
                           have hns128_2 := NB301_269.out
                           have hms128_1 := NB269_288.out
                           have hms128_2 := NB269_301.out
                           refine skip_ (w1 := ?_) (by rfl) rfl ?_ ?_
                           rotate_left
                           ·go_simp
                            rfl
                           refine hK.out _ _ ⟨((cell_far (p := ⟨gb269, _, none⟩) NB301_269.out _).trans (((cell_far (p := ⟨gb269, _, none⟩) NB301_269.out _).trans (((cell_far (p := ⟨gb269, _, none⟩) NB301_269.out _).trans (((cell_far (p := ⟨gb269, _, none⟩) NB301_269.out _).trans (hHeld.1)))))))), ((cell_far (p := ⟨gb269, _, none⟩) NB301_269.out _).trans (((cell_far (p := ⟨gb269, _, none⟩) NB301_269.out _).trans (((cell_far (p := ⟨gb269, _, none⟩) NB301_269.out _).trans (((cell_far (p := ⟨gb269, _, none⟩) NB301_269.out _).trans (hHeld.2.1)))))))), ((cell_far (p := ⟨gb269, _, none⟩) NB301_269.out _).trans (((cell_far (p := ⟨gb269, _, none⟩) NB301_269.out _).trans (((cell_far (p := ⟨gb269, _, none⟩) NB301_269.out _).trans (((cell_far (p := ⟨gb269, _, none⟩) NB301_269.out _).trans (hHeld.2.2.1)))))))), ((cell_far (p := ⟨gb269, _, none⟩) NB301_269.out _).trans (((cell_far (p := ⟨gb269, _, none⟩) NB301_269.out _).trans (((cell_far (p := ⟨gb269, _, none⟩) NB301_269.out _).trans (((cell_far (p := ⟨gb269, _, none⟩) NB301_269.out _).trans (hHeld.2.2.2.1)))))))), ((cell_far (p := ⟨gb269, _, none⟩) NB301_269.out _).trans (((cell_far (p := ⟨gb269, _, none⟩) NB301_269.out _).trans (((cell_far (p := ⟨gb269, _, none⟩) NB301_269.out _).trans (((cell_far (p := ⟨gb269, _, none⟩) NB301_269.out _).trans (hHeld.2.2.2.2.1)))))))), ((cell_far (p := ⟨gb269, _, none⟩) NB301_269.out _).trans (((cell_far (p := ⟨gb269, _, none⟩) NB301_269.out _).trans (((cell_far (p := ⟨gb269, _, none⟩) NB301_269.out _).trans (((cell_far (p := ⟨gb269, _, none⟩) NB301_269.out _).trans (hHeld.2.2.2.2.2.1)))))))), ((cell_far (p := ⟨gb269, _, none⟩) NB301_269.out _).trans (((cell_far (p := ⟨gb269, _, none⟩) NB301_269.out _).trans (((cell_far (p := ⟨gb269, _, none⟩) NB301_269.out _).trans (((cell_far (p := ⟨gb269, _, none⟩) NB301_269.out _).trans (hHeld.2.2.2.2.2.2.1)))))))), ((cell_far (p := ⟨gb269, _, none⟩) NB301_269.out _).trans (((cell_far (p := ⟨gb269, _, none⟩) NB301_269.out _).trans (((cell_far (p := ⟨gb269, _, none⟩) NB301_269.out _).trans (((cell_far (p := ⟨gb269, _, none⟩) NB301_269.out _).trans (hHeld.2.2.2.2.2.2.2.1)))))))), ((cell_far (p := ⟨gb269, _, none⟩) NB301_269.out _).trans (((cell_far (p := ⟨gb269, _, none⟩) NB301_269.out _).trans (((cell_far (p := ⟨gb269, _, none⟩) NB301_269.out _).trans (((cell_far (p := ⟨gb269, _, none⟩) NB301_269.out _).trans (hHeld.2.2.2.2.2.2.2.2))))))))⟩ (fun hHeld => ?_)
                           clear hK K
                           refine done_ (done_of HT_.out (by kernel_rfl)) ?_
                           try go_wp2
                           go_roundg k6
                           case measure => have := HJ4.out; have := HK2.out; have := HJ9.out; have := HK4.out; have := HJ69.out; have := HK6.out; omega
                           case rel => exact ⟨(x7_4.extract (t293 : Int).toNat x7_4.size), (wrap64 (x14_4 + 1)), (t297), (t298), (t299), (t300), (by first | rfl | (simp; done) | (simp [*]; done)), (by first | rfl | (simp; done) | (simp [*]; done)), H', ⟨by have := HJ4.out; have := HK2.out; have := HJ9.out; have := HK4.out; have := HJ69.out; have := HK6.out; omega⟩, ⟨by (with_reducible repeat (first | apply Kd.R_alloc | apply Kd.R_drewN | apply Kd.R_drew)); exact Kd.R_mono (Kd.R_far (p := ⟨gb269, 3, none⟩) (Kd.R_far (p := ⟨gb269, 2, none⟩) (Kd.R_far (p := ⟨gb269, 1, none⟩) (Kd.R_far (p := ⟨gb269, 0, none⟩) (Kd.R_types HO_8.out BK269.out (by decide)) (fun _ hk => hk.2) (.int .i64 t297)) (fun _ hk => hk.2) (.int .i64 t298)) (fun _ hk => hk.2) (.int .u32 t299)) (fun _ hk => hk.2) (.int .i32 t300)) (fun _ hk => trivial)⟩, ⟨by (with_reducible repeat (first | refine bN_ ?_ _ | refine bD_ ?_ | refine bA_ ?_ _)); refine blk_put (cs := #[.int .i64 t297, .int .i64 t298, .int .u32 t299, .int .i32 x270003_4]) ?_ 3 _ rfl; (with_reducible repeat (first | refine bN_ ?_ _ | refine bD_ ?_ | refine bA_ ?_ _)); refine blk_put (cs := #[.int .i64 t297, .int .i64 t298, .int .u32 x270002_4, .int .i32 x270003_4]) ?_ 2 _ rfl; (with_reducible repeat (first | refine bN_ ?_ _ | refine bD_ ?_ | refine bA_ ?_ _)); refine blk_put (cs := #[.int .i64 t297, .int .i64 x270001_4, .int .u32 x270002_4, .int .i32 x270003_4]) ?_ 1 _ rfl; (with_reducible repeat (first | refine bN_ ?_ _ | refine bD_ ?_ | refine bA_ ?_ _)); refine blk_put (cs := #[.int .i64 x270000_4, .int .i64 x270001_4, .int .u32 x270002_4, .int .i32 x270003_4]) ?_ 0 _ rfl; (with_reducible repeat (first | refine bN_ ?_ _ | refine bD_ ?_ | refine bA_ ?_ _)); exact BK269.out⟩, ⟨by (with_reducible repeat (first | refine bN_ ?_ _ | refine bD_ ?_ | refine bA_ ?_ _)); refine blk_far ?_ NB288_269.out _; (with_reducible repeat (first | refine bN_ ?_ _ | refine bD_ ?_ | refine bA_ ?_ _)); refine blk_far ?_ NB288_269.out _; (with_reducible repeat (first | refine bN_ ?_ _ | refine bD_ ?_ | refine bA_ ?_ _)); refine blk_far ?_ NB288_269.out _; (with_reducible repeat (first | refine bN_ ?_ _ | refine bD_ ?_ | refine bA_ ?_ _)); refine blk_far ?_ NB288_269.out _; (with_reducible repeat (first | refine bN_ ?_ _ | refine bD_ ?_ | refine bA_ ?_ _)); exact BK288.out⟩, ⟨by repeat (first | (with_reducible first | exact HB.out | apply below_alloc | apply pw_below_drewN | apply below_drew1 | refine below_set ?_ GE269.out | refine below_set ?_ GE288.out | refine below_set ?_ GE301.out) | exact HB.out)⟩⟩
                          ·rw [if_neg c118] at H
                           exact absurd H (by simp)
                         ·rw [if_neg c117] at H
                          exact absurd H (by simp)
                        ·rw [if_neg c116] at H
                         have c116b0 : ((rd x8_2 x14_4) == t295) = false := beq_eq_false_iff_ne.mpr c116
                         have c116b1 : ((rd x8_2 x14_4) != t295) = true := bne_iff_ne.mpr c116
                         obtain rfl := Option.some.inj H
                         have hnb129 := NB301_269.out
                         have hnc129 := NB269_301.out
                         have hnb130 := NB301_288.out
                         have hnc130 := NB288_301.out
                         have hcz131_0 : wr.cell? ⟨gb301, 0, none⟩ = some (.int .i64 t292) := (blk_cell BK301.out 0).trans rfl
                         have hcz131_1 : wr.cell? ⟨gb301, 1, none⟩ = some (.int .i64 t293) := (blk_cell BK301.out 1).trans rfl
                         have hcz131_2 : wr.cell? ⟨gb301, 2, none⟩ = some (.int .i64 t294) := (blk_cell BK301.out 2).trans rfl
                         have hcz131_3 : wr.cell? ⟨gb301, 3, none⟩ = some (.int .i32 t295) := (blk_cell BK301.out 3).trans rfl
                         have hcz131_4 : wr.cell? ⟨gb301, 4, none⟩ = some (.int .i32 t296) := (blk_cell BK301.out 4).trans rfl
                         have hcz131_5 : wr.cell? ⟨gb301, 5, none⟩ = some (.int .i64 t297) := (blk_cell BK301.out 5).trans rfl
                         have hcz131_6 : wr.cell? ⟨gb301, 6, none⟩ = some (.int .i64 t298) := (blk_cell BK301.out 6).trans rfl
                         have hcz131_7 : wr.cell? ⟨gb301, 7, none⟩ = some (.int .u32 t299) := (blk_cell BK301.out 7).trans rfl
                         have hcz131_8 : wr.cell? ⟨gb301, 8, none⟩ = some (.int .i32 t300) := (blk_cell BK301.out 8).trans rfl
                         have hfz131_0 := blk_frozen BK301.out 0
                         have hfz131_1 := blk_frozen BK301.out 1
                         have hfz131_2 := blk_frozen BK301.out 2
                         have hfz131_3 := blk_frozen BK301.out 3
                         have hfz131_4 := blk_frozen BK301.out 4
                         have hfz131_5 := blk_frozen BK301.out 5
                         have hfz131_6 := blk_frozen BK301.out 6
                         have hfz131_7 := blk_frozen BK301.out 7
                         have hfz131_8 := blk_frozen BK301.out 8
                         try go_wp2
                         have n0_ := Aside0.mk (Kd.R_drew HO_8.out)
                         have n1_ := Aside0.mk (blk_drew BK269.out)
                         have n2_ := Aside0.mk (blk_drew BK288.out)
                         have n3_ := Aside0.mk (blk_drew BK301.out)
                         have n4_ := Aside0.mk (below_drew1 HB.out)
                         clear HO_8
                         clear BK269
                         clear BK288
                         clear BK301
                         clear HB
                         have HO_8 := n0_
                         have BK269 := n1_
                         have BK288 := n2_
                         have BK301 := n3_
                         have HB := n4_
                         clear n0_ n1_ n2_ n3_ n4_
                         obtain ⟨Ao133, co133, eo133⟩ := Kd.R_slice HO_8.out
                         (first | subst eo133 | (injection eo133 with f1_ f2_ f3_; have f4_ := f1_.symm; have f5_ := f3_.symm; clear f1_ f2_ f3_; subst f4_; subst f5_))
                         have p302 : 0 ≤ (x14_4 : Int) := of_decide_eq_true (by first | (with_reducible assumption) | assumption)
                         have q302 : x14_4 < (x8_2.length : Int) := of_decide_eq_true (by first | (with_reducible assumption) | assumption)
                         obtain ⟨ad302, e302, hx302_0⟩ := Kd.at_int (Kd.R_reads' HO_8.out).2.2 x14_4 p302 q302
                         cases e302
                         replace p302 := eq_true p302
                         replace q302 := eq_true q302
                         refine start_ (n := 13) (S := fun w' => w'.cell? ⟨gb301, 0, none⟩ = some (.int .i64 t292) ∧ w'.cell? ⟨gb301, 1, none⟩ = some (.int .i64 t293) ∧ w'.cell? ⟨gb301, 2, none⟩ = some (.int .i64 t294) ∧ w'.cell? ⟨gb301, 3, none⟩ = some (.int .i32 t295) ∧ w'.cell? ⟨gb301, 4, none⟩ = some (.int .i32 t296) ∧ w'.cell? ⟨gb301, 5, none⟩ = some (.int .i64 t297) ∧ w'.cell? ⟨gb301, 6, none⟩ = some (.int .i64 t298) ∧ w'.cell? ⟨gb301, 7, none⟩ = some (.int .u32 t299) ∧ w'.cell? ⟨gb301, 8, none⟩ = some (.int .i32 t300) ∧ w'.cell? (ad302.add (x14_4).toNat) = some (.int .i32 (rd x8_2 x14_4))) (ds := []) #[false, false, false, false, false, false, false, false, false, false, false, false, false] (by kernel_rfl) rfl rfl ⟨(blk_cell BK301.out 0).trans rfl, (blk_cell BK301.out 1).trans rfl, (blk_cell BK301.out 2).trans rfl, (blk_cell BK301.out 3).trans rfl, (blk_cell BK301.out 4).trans rfl, (blk_cell BK301.out 5).trans rfl, (blk_cell BK301.out 6).trans rfl, (blk_cell BK301.out 7).trans rfl, (blk_cell BK301.out 8).trans rfl, hx302_0⟩ (fun hHeld => ?_); refine with_tabW dragomanlaw21_Iso2022Back.tab35 dragomanlaw21_Iso2022Back.bits35 (fun HT_ HW_ => ?_)
                         generalize wr.drew = w132 at HO_8 BK269 BK288 BK301 HB hx302_0 hHeld ⊢
                         refine pure_ (i := 0) (N := some 112) (v := ?_) (a' := ?_) #[true, false, false, false, false, false, false, false, false, false, false, false, false] rfl rfl (any_of HT_.out (by kernel_rfl)) (fun _ _ _ h => h) (Or.inl ⟨by rfl, ?_⟩) ?_ ?_
                         rotate_left
                         ·intro w'
                          go_simp
                          with_reducible rfl
                         rotate_left
                         ·simp only [Act.put, List.setIfInBounds_toArray, List.set_cons_zero, List.set_cons_succ, i64_w, i32_w]
                          rfl
                         refine pure_ (i := 1) (N := some 113) (v := ?_) (a' := ?_) #[true, true, false, false, false, false, false, false, false, false, false, false, false] rfl rfl (any_of HT_.out (by kernel_rfl)) (fun _ _ _ h => h) (Or.inl ⟨by rfl, ?_⟩) ?_ ?_
                         rotate_left
                         ·intro w'
                          go_simp
                          with_reducible rfl
                         rotate_left
                         ·simp only [Act.put, List.setIfInBounds_toArray, List.set_cons_zero, List.set_cons_succ, i64_w, i32_w]
                          rfl
                         refine pure_ (i := 2) (N := some 114) (v := ?_) (a' := ?_) #[true, true, true, false, false, false, false, false, false, false, false, false, false] rfl rfl (any_of HT_.out (by kernel_rfl)) (fun _ _ _ h => h) (Or.inl ⟨by rfl, ?_⟩) ?_ ?_
                         rotate_left
                         ·intro w'
                          go_simp
                          with_reducible rfl
                         rotate_left
                         ·simp only [Act.put, List.setIfInBounds_toArray, List.set_cons_zero, List.set_cons_succ, i64_w, i32_w]
                          rfl
                         refine pure_ (i := 3) (N := some 115) (v := ?_) (a' := ?_) #[true, true, true, true, false, false, false, false, false, false, false, false, false] rfl rfl (any_of HT_.out (by kernel_rfl)) (fun _ _ _ h => h) (Or.inl ⟨by rfl, ?_⟩) ?_ ?_
                         rotate_left
                         ·intro w'
                          go_simp
                          with_reducible rfl
                         rotate_left
                         ·simp only [Act.put, List.setIfInBounds_toArray, List.set_cons_zero, List.set_cons_succ, i64_w, i32_w]
                          rfl
                         refine pure_ (i := 4) (N := some 116) (v := ?_) (a' := ?_) #[true, true, true, true, true, false, false, false, false, false, false, false, false] rfl rfl (any_of HT_.out (by kernel_rfl)) (fun _ _ _ h => h) (Or.inl ⟨by rfl, ?_⟩) ?_ ?_
                         rotate_left
                         ·intro w'
                          go_simp
                          with_reducible rfl
                         rotate_left
                         ·simp only [Act.put, List.setIfInBounds_toArray, List.set_cons_zero, List.set_cons_succ, i64_w, i32_w]
                          rfl
                         refine pure_ (i := 5) (N := some 117) (v := ?_) (a' := ?_) #[true, true, true, true, true, true, false, false, false, false, false, false, false] rfl rfl (any_of HT_.out (by kernel_rfl)) (fun _ _ _ h => h) (Or.inl ⟨by rfl, ?_⟩) ?_ ?_
                         rotate_left
                         ·intro w'
                          go_simp
                          with_reducible rfl
                         rotate_left
                         ·simp only [Act.put, List.setIfInBounds_toArray, List.set_cons_zero, List.set_cons_succ, i64_w, i32_w]
                          rfl
                         refine pure_ (i := 6) (N := some 118) (v := ?_) (a' := ?_) #[true, true, true, true, true, true, true, false, false, false, false, false, false] rfl rfl (any_of HT_.out (by kernel_rfl)) (fun _ _ _ h => h) (Or.inl ⟨by rfl, ?_⟩) ?_ ?_
                         rotate_left
                         ·intro w'
                          go_simp
                          with_reducible rfl
                         rotate_left
                         ·simp only [Act.put, List.setIfInBounds_toArray, List.set_cons_zero, List.set_cons_succ, i64_w, i32_w]
                          rfl
                         refine pure_ (i := 7) (N := some 119) (v := ?_) (a' := ?_) #[true, true, true, true, true, true, true, true, false, false, false, false, false] rfl rfl (any_of HT_.out (by kernel_rfl)) (fun _ _ _ h => h) (Or.inl ⟨by rfl, ?_⟩) ?_ ?_
                         rotate_left
                         ·intro w'
                          go_simp
                          with_reducible rfl
                         rotate_left
                         ·simp only [Act.put, List.setIfInBounds_toArray, List.set_cons_zero, List.set_cons_succ, i64_w, i32_w]
                          rfl
                         refine pure_ (i := 9) (N := some 121) (v := ?_) (a' := ?_) #[true, true, true, true, true, true, true, true, false, true, false, false, false] rfl rfl (any_of HT_.out (by kernel_rfl)) (fun _ _ _ h => h) (Or.inl ⟨by rfl, ?_⟩) ?_ ?_
                         rotate_left
                         ·intro w'
                          go_simp
                          with_reducible rfl
                         rotate_left
                         ·simp only [Act.put, List.setIfInBounds_toArray, List.set_cons_zero, List.set_cons_succ, i64_w, i32_w]
                          rfl
                         refine take_ (i := 8) (N := some 120) (v := ?_) (a' := ?_) #[true, true, true, true, true, true, true, true, true, true, false, false, false] rfl rfl (take_ofW HT_.out HW_.out (by kernel_rfl)) (fun _ _ _ h => h) (Or.inl ⟨by rfl, ?_⟩) hHeld ?_ ?_
                         rotate_left
                         ·rintro w' ⟨s0, s1, s2, s3, s4, s5, s6, s7, s8, s9⟩
                          go_simp
                          with_reducible rfl
                         rotate_left
                         ·simp only [Act.put, List.setIfInBounds_toArray, List.set_cons_zero, List.set_cons_succ, i64_w, i32_w]
                          rfl
                         refine take_ (i := 10) (N := some 122) (v := ?_) (a' := ?_) #[true, true, true, true, true, true, true, true, true, true, true, false, false] rfl rfl (take_ofW HT_.out HW_.out (by kernel_rfl)) (fun _ _ _ h => h) (Or.inl ⟨by rfl, ?_⟩) hHeld ?_ ?_
                         rotate_left
                         ·rintro w' ⟨s0, s1, s2, s3, s4, s5, s6, s7, s8, s9⟩
                          go_simp
                          with_reducible rfl
                         rotate_left
                         ·simp only [Act.put, List.setIfInBounds_toArray, List.set_cons_zero, List.set_cons_succ, i64_w, i32_w]
                          rfl
                         refine pure_ (i := 11) (N := some 123) (v := ?_) (a' := ?_) #[true, true, true, true, true, true, true, true, true, true, true, true, false] rfl rfl (any_of HT_.out (by kernel_rfl)) (fun _ _ _ h => h) (Or.inl ⟨by rfl, ?_⟩) ?_ ?_
                         rotate_left
                         ·intro w'
                          go_simp
                          with_reducible rfl
                         rotate_left
                         ·simp only [Act.put, List.setIfInBounds_toArray, List.set_cons_zero, List.set_cons_succ, i64_w, i32_w]
                          rfl
                         refine pure_ (i := 12) (N := some 124) (v := ?_) (a' := ?_) #[true, true, true, true, true, true, true, true, true, true, true, true, true] rfl rfl (any_of HT_.out (by kernel_rfl)) (fun _ _ _ h => h) (Or.inl ⟨by rfl, ?_⟩) ?_ ?_
                         rotate_left
                         ·intro w'
                          go_simp
                          with_reducible rfl
                         rotate_left
                         ·simp only [Act.put, List.setIfInBounds_toArray, List.set_cons_zero, List.set_cons_succ, i64_w, i32_w]
                          rfl
                         refine done_ (done_of HT_.out (by kernel_rfl)) ?_
                         try go_wp2
                         go_ret
                         exact ⟨by first | rfl | (simp [errW_none, errW_some] <;> rfl) | (simp [*, errW_none, errW_some] <;> rfl), by repeat (first | (with_reducible first | exact HB.out | apply below_alloc | apply pw_below_drewN | apply below_drew1 | refine below_set ?_ GE269.out | refine below_set ?_ GE288.out | refine below_set ?_ GE301.out) | exact HB.out)⟩
                       ·rw [if_neg c115] at H
                        exact absurd H (by simp)
                      ·rw [if_neg c114] at H
                       exact absurd H (by simp)
                    ·rw [if_neg c107] at H
                     have c107b0 : (t294 == 1) = false := beq_eq_false_iff_ne.mpr c107
                     have c107b1 : (t294 != 1) = true := bne_iff_ne.mpr c107
                     by_cases c134 : 0 ≤ t293
                     ·rw [if_pos c134] at H
                      have c134b0 := eq_true c134
                      have c134b1 : decide (0 ≤ t293) = true := decide_eq_true c134
                      clear c134
                      by_cases c135 : t293 ≤ (x7_4.size : Int)
                      ·rw [if_pos c135] at H
                       have c135b0 := eq_true c135
                       have c135b1 : decide (t293 ≤ (x7_4.size : Int)) = true := decide_eq_true c135
                       clear c135
                       have H' := Aside0.mk H
                       clear H
                       have hnb136 := NB301_269.out
                       have hnc136 := NB269_301.out
                       have hnb137 := NB301_288.out
                       have hnc137 := NB288_301.out
                       have hcz138_0 : wr.cell? ⟨gb301, 0, none⟩ = some (.int .i64 t292) := (blk_cell BK301.out 0).trans rfl
                       have hcz138_1 : wr.cell? ⟨gb301, 1, none⟩ = some (.int .i64 t293) := (blk_cell BK301.out 1).trans rfl
                       have hcz138_2 : wr.cell? ⟨gb301, 2, none⟩ = some (.int .i64 t294) := (blk_cell BK301.out 2).trans rfl
                       have hcz138_3 : wr.cell? ⟨gb301, 3, none⟩ = some (.int .i32 t295) := (blk_cell BK301.out 3).trans rfl
                       have hcz138_4 : wr.cell? ⟨gb301, 4, none⟩ = some (.int .i32 t296) := (blk_cell BK301.out 4).trans rfl
                       have hcz138_5 : wr.cell? ⟨gb301, 5, none⟩ = some (.int .i64 t297) := (blk_cell BK301.out 5).trans rfl
                       have hcz138_6 : wr.cell? ⟨gb301, 6, none⟩ = some (.int .i64 t298) := (blk_cell BK301.out 6).trans rfl
                       have hcz138_7 : wr.cell? ⟨gb301, 7, none⟩ = some (.int .u32 t299) := (blk_cell BK301.out 7).trans rfl
                       have hcz138_8 : wr.cell? ⟨gb301, 8, none⟩ = some (.int .i32 t300) := (blk_cell BK301.out 8).trans rfl
                       have hfz138_0 := blk_frozen BK301.out 0
                       have hfz138_1 := blk_frozen BK301.out 1
                       have hfz138_2 := blk_frozen BK301.out 2
                       have hfz138_3 := blk_frozen BK301.out 3
                       have hfz138_4 := blk_frozen BK301.out 4
                       have hfz138_5 := blk_frozen BK301.out 5
                       have hfz138_6 := blk_frozen BK301.out 6
                       have hfz138_7 := blk_frozen BK301.out 7
                       have hfz138_8 := blk_frozen BK301.out 8
                       try go_wp2
                       have n0_ := Aside0.mk (Kd.R_drew HO_8.out)
                       have n1_ := Aside0.mk (blk_drew BK269.out)
                       have n2_ := Aside0.mk (blk_drew BK288.out)
                       have n3_ := Aside0.mk (blk_drew BK301.out)
                       have n4_ := Aside0.mk (below_drew1 HB.out)
                       clear HO_8
                       clear BK269
                       clear BK288
                       clear BK301
                       clear HB
                       have HO_8 := n0_
                       have BK269 := n1_
                       have BK288 := n2_
                       have BK301 := n3_
                       have HB := n4_
                       clear n0_ n1_ n2_ n3_ n4_
                       refine start_ (n := 8) (S := fun w' => w'.cell? ⟨gb301, 0, none⟩ = some (.int .i64 t292) ∧ w'.cell? ⟨gb301, 1, none⟩ = some (.int .i64 t293) ∧ w'.cell? ⟨gb301, 2, none⟩ = some (.int .i64 t294) ∧ w'.cell? ⟨gb301, 3, none⟩ = some (.int .i32 t295) ∧ w'.cell? ⟨gb301, 4, none⟩ = some (.int .i32 t296) ∧ w'.cell? ⟨gb301, 5, none⟩ = some (.int .i64 t297) ∧ w'.cell? ⟨gb301, 6, none⟩ = some (.int .i64 t298) ∧ w'.cell? ⟨gb301, 7, none⟩ = some (.int .u32 t299) ∧ w'.cell? ⟨gb301, 8, none⟩ = some (.int .i32 t300)) (ds := []) #[false, false, false, false, false, false, false, false] (by kernel_rfl) rfl rfl ⟨(blk_cell BK301.out 0).trans rfl, (blk_cell BK301.out 1).trans rfl, (blk_cell BK301.out 2).trans rfl, (blk_cell BK301.out 3).trans rfl, (blk_cell BK301.out 4).trans rfl, (blk_cell BK301.out 5).trans rfl, (blk_cell BK301.out 6).trans rfl, (blk_cell BK301.out 7).trans rfl, (blk_cell BK301.out 8).trans rfl⟩ (fun hHeld => ?_); refine with_tabW dragomanlaw21_Iso2022Back.tab38 dragomanlaw21_Iso2022Back.bits38 (fun HT_ HW_ => ?_)
                       generalize wr.drew = w139 at HO_8 BK269 BK288 BK301 HB hHeld ⊢
                       refine pure_ (i := 0) (N := some 127) (v := ?_) (a' := ?_) #[true, false, false, false, false, false, false, false] rfl rfl (any_of HT_.out (by kernel_rfl)) (fun _ _ _ h => h) (Or.inl ⟨by rfl, ?_⟩) ?_ ?_
                       rotate_left
                       ·intro w'
                        go_simp
                        with_reducible rfl
                       rotate_left
                       ·simp only [Act.put, List.setIfInBounds_toArray, List.set_cons_zero, List.set_cons_succ, i64_w, i32_w]
                        rfl
                       refine pure_ (i := 1) (N := some 128) (v := ?_) (a' := ?_) #[true, true, false, false, false, false, false, false] rfl rfl (any_of HT_.out (by kernel_rfl)) (fun _ _ _ h => h) (Or.inl ⟨by rfl, ?_⟩) ?_ ?_
                       rotate_left
                       ·intro w'
                        go_simp
                        with_reducible rfl
                       rotate_left
                       ·simp only [Act.put, List.setIfInBounds_toArray, List.set_cons_zero, List.set_cons_succ, i64_w, i32_w]
                        rfl
                       refine pure_ (i := 4) (N := some 131) (v := ?_) (a' := ?_) #[true, true, false, false, true, false, false, false] rfl rfl (any_of HT_.out (by kernel_rfl)) (fun _ _ _ h => h) (Or.inl ⟨by rfl, ?_⟩) ?_ ?_
                       rotate_left
                       ·intro w'
                        go_simp
                        with_reducible rfl
                       rotate_left
                       ·simp only [Act.put, List.setIfInBounds_toArray, List.set_cons_zero, List.set_cons_succ, i64_w, i32_w]
                        rfl
                       refine take_ (i := 2) (N := some 129) (v := ?_) (a' := ?_) #[true, true, true, false, true, false, false, false] rfl rfl (take_ofW HT_.out HW_.out (by kernel_rfl)) (fun _ _ _ h => h) (Or.inl ⟨by rfl, ?_⟩) hHeld ?_ ?_
                       rotate_left
                       ·rintro w' ⟨s0, s1, s2, s3, s4, s5, s6, s7, s8⟩
                        go_simp
                        with_reducible rfl
                       rotate_left
                       ·simp only [Act.put, List.setIfInBounds_toArray, List.set_cons_zero, List.set_cons_succ, i64_w, i32_w]
                        rfl
                       refine pure_ (i := 3) (N := some 130) (v := ?_) (a' := ?_) #[true, true, true, true, true, false, false, false] rfl rfl (any_of HT_.out (by kernel_rfl)) (fun _ _ _ h => h) (Or.inl ⟨by rfl, ?_⟩) ?_ ?_
                       rotate_left
                       ·intro w'
                        go_simp
                        with_reducible rfl
                       rotate_left
                       ·simp only [Act.put, List.setIfInBounds_toArray, List.set_cons_zero, List.set_cons_succ, i64_w, i32_w]
                        rfl
                       refine pure_ (i := 6) (N := some 7) (v := ?_) (a' := ?_) #[true, true, true, true, true, false, true, false] rfl rfl (any_of HT_.out (by kernel_rfl)) (fun _ _ _ h => h) (Or.inl ⟨by rfl, ?_⟩) ?_ ?_
                       rotate_left
                       ·intro w'
                        go_simp
                        with_reducible rfl
                       rotate_left
                       ·simp only [Act.put, List.setIfInBounds_toArray, List.set_cons_zero, List.set_cons_succ, i64_w, i32_w]
                        rfl
                       refine take_ (i := 5) (N := some 132) (v := ?_) (a' := ?_) #[true, true, true, true, true, true, true, false] rfl rfl (take_ofW HT_.out HW_.out (by kernel_rfl)) (fun _ _ _ h => h) (Or.inl ⟨by rfl, ?_⟩) hHeld ?_ ?_
                       rotate_left
                       ·rintro w' ⟨s0, s1, s2, s3, s4, s5, s6, s7, s8⟩
                        go_simp
                        with_reducible rfl
                       rotate_left
                       ·simp only [Act.put, List.setIfInBounds_toArray, List.set_cons_zero, List.set_cons_succ, i64_w, i32_w]
                        rfl
                       refine one_ (i := 7) (N := none) #[true, true, true, true, true, true, true, true] rfl rfl (one_of HT_.out (by kernel_rfl)) (by decide) (fun K hK => ?_)
                       have hs140 : w139.cell? ⟨gb269, 0, none⟩ = some (.int .i64 x270000_4) := (blk_cell BK269.out 0).trans rfl
                       have hfs140 := blk_frozen BK269.out 0
                       have hns140_1 := NB288_269.out
                       have hns140_2 := NB301_269.out
                       have hms140_1 := NB269_288.out
                       have hms140_2 := NB269_301.out
                       have hs141 : w139.cell? ⟨gb269, 1, none⟩ = some (.int .i64 x270001_4) := (blk_cell BK269.out 1).trans rfl
                       have hfs141 := blk_frozen BK269.out 1
                       have hns141_1 := NB288_269.out
                       have hns141_2 := NB301_269.out
                       have hms141_1 := NB269_288.out
                       have hms141_2 := NB269_301.out
                       have hs142 : w139.cell? ⟨gb269, 2, none⟩ = some (.int .u32 x270002_4) := (blk_cell BK269.out 2).trans rfl
                       have hfs142 := blk_frozen BK269.out 2
                       have hns142_1 := NB288_269.out
                       have hns142_2 := NB301_269.out
                       have hms142_1 := NB269_288.out
                       have hms142_2 := NB269_301.out
                       have hs143 : w139.cell? ⟨gb269, 3, none⟩ = some (.int .i32 x270003_4) := (blk_cell BK269.out 3).trans rfl
                       have hfs143 := blk_frozen BK269.out 3
                       have hns143_1 := NB288_269.out
                       have hns143_2 := NB301_269.out
                       have hms143_1 := NB269_288.out
                       have hms143_2 := NB269_301.out
                       refine skip_ (w1 := ?_) (by rfl) rfl ?_ ?_
                       rotate_left
                       ·go_simp
                        rfl
                       refine hK.out _ _ ⟨((cell_far (p := ⟨gb269, _, none⟩) NB301_269.out _).trans (((cell_far (p := ⟨gb269, _, none⟩) NB301_269.out _).trans (((cell_far (p := ⟨gb269, _, none⟩) NB301_269.out _).trans (((cell_far (p := ⟨gb269, _, none⟩) NB301_269.out _).trans (hHeld.1)))))))), ((cell_far (p := ⟨gb269, _, none⟩) NB301_269.out _).trans (((cell_far (p := ⟨gb269, _, none⟩) NB301_269.out _).trans (((cell_far (p := ⟨gb269, _, none⟩) NB301_269.out _).trans (((cell_far (p := ⟨gb269, _, none⟩) NB301_269.out _).trans (hHeld.2.1)))))))), ((cell_far (p := ⟨gb269, _, none⟩) NB301_269.out _).trans (((cell_far (p := ⟨gb269, _, none⟩) NB301_269.out _).trans (((cell_far (p := ⟨gb269, _, none⟩) NB301_269.out _).trans (((cell_far (p := ⟨gb269, _, none⟩) NB301_269.out _).trans (hHeld.2.2.1)))))))), ((cell_far (p := ⟨gb269, _, none⟩) NB301_269.out _).trans (((cell_far (p := ⟨gb269, _, none⟩) NB301_269.out _).trans (((cell_far (p := ⟨gb269, _, none⟩) NB301_269.out _).trans (((cell_far (p := ⟨gb269, _, none⟩) NB301_269.out _).trans (hHeld.2.2.2.1)))))))), ((cell_far (p := ⟨gb269, _, none⟩) NB301_269.out _).trans (((cell_far (p := ⟨gb269, _, none⟩) NB301_269.out _).trans (((cell_far (p := ⟨gb269, _, none⟩) NB301_269.out _).trans (((cell_far (p := ⟨gb269, _, none⟩) NB301_269.out _).trans (hHeld.2.2.2.2.1)))))))), ((cell_far (p := ⟨gb269, _, none⟩) NB301_269.out _).trans (((cell_far (p := ⟨gb269, _, none⟩) NB301_269.out _).trans (((cell_far (p := ⟨gb269, _, none⟩) NB301_269.out _).trans (((cell_far (p := ⟨gb269, _, none⟩) NB301_269.out _).trans (hHeld.2.2.2.2.2.1)))))))), ((cell_far (p := ⟨gb269, _, none⟩) NB301_269.out _).trans (((cell_far (p := ⟨gb269, _, none⟩) NB301_269.out _).trans (((cell_far (p := ⟨gb269, _, none⟩) NB301_269.out _).trans (((cell_far (p := ⟨gb269, _, none⟩) NB301_269.out _).trans (hHeld.2.2.2.2.2.2.1)))))))), ((cell_far (p := ⟨gb269, _, none⟩) NB301_269.out _).trans (((cell_far (p := ⟨gb269, _, none⟩) NB301_269.out _).trans (((cell_far (p := ⟨gb269, _, none⟩) NB301_269.out _).trans (((cell_far (p := ⟨gb269, _, none⟩) NB301_269.out _).trans (hHeld.2.2.2.2.2.2.2.1)))))))), ((cell_far (p := ⟨gb269, _, none⟩) NB301_269.out _).trans (((cell_far (p := ⟨gb269, _, none⟩) NB301_269.out _).trans (((cell_far (p := ⟨gb269, _, none⟩) NB301_269.out _).trans (((cell_far (p := ⟨gb269, _, none⟩) NB301_269.out _).trans (hHeld.2.2.2.2.2.2.2.2))))))))⟩ (fun hHeld => ?_)
                       clear hK K
                       refine done_ (done_of HT_.out (by kernel_rfl)) ?_
                       try go_wp2
                       go_roundg k6
                       case measure => have := HJ4.out; have := HK2.out; have := HJ9.out; have := HK4.out; have := HJ69.out; have := HK6.out; omega
                       case rel => exact ⟨(x7_4.extract (t293 : Int).toNat x7_4.size), (x14_4), (t297), (t298), (t299), (t300), (by first | rfl | (simp; done) | (simp [*]; done)), (by first | rfl | (simp; done) | (simp [*]; done)), H', ⟨by have := HJ4.out; have := HK2.out; have := HJ9.out; have := HK4.out; have := HJ69.out; have := HK6.out; omega⟩, ⟨by (with_reducible repeat (first | apply Kd.R_alloc | apply Kd.R_drewN | apply Kd.R_drew)); exact Kd.R_mono (Kd.R_far (p := ⟨gb269, 3, none⟩) (Kd.R_far (p := ⟨gb269, 2, none⟩) (Kd.R_far (p := ⟨gb269, 1, none⟩) (Kd.R_far (p := ⟨gb269, 0, none⟩) (Kd.R_types HO_8.out BK269.out (by decide)) (fun _ hk => hk.2) (.int .i64 t297)) (fun _ hk => hk.2) (.int .i64 t298)) (fun _ hk => hk.2) (.int .u32 t299)) (fun _ hk => hk.2) (.int .i32 t300)) (fun _ hk => trivial)⟩, ⟨by (with_reducible repeat (first | refine bN_ ?_ _ | refine bD_ ?_ | refine bA_ ?_ _)); refine blk_put (cs := #[.int .i64 t297, .int .i64 t298, .int .u32 t299, .int .i32 x270003_4]) ?_ 3 _ rfl; (with_reducible repeat (first | refine bN_ ?_ _ | refine bD_ ?_ | refine bA_ ?_ _)); refine blk_put (cs := #[.int .i64 t297, .int .i64 t298, .int .u32 x270002_4, .int .i32 x270003_4]) ?_ 2 _ rfl; (with_reducible repeat (first | refine bN_ ?_ _ | refine bD_ ?_ | refine bA_ ?_ _)); refine blk_put (cs := #[.int .i64 t297, .int .i64 x270001_4, .int .u32 x270002_4, .int .i32 x270003_4]) ?_ 1 _ rfl; (with_reducible repeat (first | refine bN_ ?_ _ | refine bD_ ?_ | refine bA_ ?_ _)); refine blk_put (cs := #[.int .i64 x270000_4, .int .i64 x270001_4, .int .u32 x270002_4, .int .i32 x270003_4]) ?_ 0 _ rfl; (with_reducible repeat (first | refine bN_ ?_ _ | refine bD_ ?_ | refine bA_ ?_ _)); exact BK269.out⟩, ⟨by (with_reducible repeat (first | refine bN_ ?_ _ | refine bD_ ?_ | refine bA_ ?_ _)); refine blk_far ?_ NB288_269.out _; (with_reducible repeat (first | refine bN_ ?_ _ | refine bD_ ?_ | refine bA_ ?_ _)); refine blk_far ?_ NB288_269.out _; (with_reducible repeat (first | refine bN_ ?_ _ | refine bD_ ?_ | refine bA_ ?_ _)); refine blk_far ?_ NB288_269.out _; (with_reducible repeat (first | refine bN_ ?_ _ | refine bD_ ?_ | refine bA_ ?_ _)); refine blk_far ?_ NB288_269.out _; (with_reducible repeat (first | refine bN_ ?_ _ | refine bD_ ?_ | refine bA_ ?_ _)); exact BK288.out⟩, ⟨by repeat (first | (with_reducible first | exact HB.out | apply below_alloc | apply pw_below_drewN | apply below_drew1 | refine below_set ?_ GE269.out | refine below_set ?_ GE288.out | refine below_set ?_ GE301.out) | exact HB.out)⟩⟩
                      ·rw [if_neg c135] at H
                       exact absurd H (by simp)
                     ·rw [if_neg c134] at H
                      exact absurd H (by simp)
             ·rw [if_neg c67] at H
              have c67b0 : decide (0 < (x7_4.size : Int)) = false := decide_eq_false c67
              have c67b1 : decide (0 < x7_4.size) = false := decide_eq_false (by omega)
              clear c67
              by_cases c144 : x14_4 = (x8_2.length : Int)
              ·rw [if_pos c144] at H
               have c144b0 : (x14_4 == (x8_2.length : Int)) = true := beq_iff_eq.mpr c144
               have c144b1 : (x14_4 != (x8_2.length : Int)) = false := bne_eq_false_iff_eq.mpr c144
               clear c144
               by_cases c145 : (x270000_4 == 0 && (x270001_4 == 0 && (x270002_4 == 0 && (x270003_4 == 0)))) = true
               ·rw [if_pos c145] at H
                have c145b0 : (x270000_4 == 0 && (x270001_4 == 0 && (x270002_4 == 0 && (x270003_4 == 0)))) = true := c145
                (try (have c145b1 : decide (x270000_4 = 0 && (x270001_4 == 0 && (x270002_4 == 0 && (x270003_4 == 0)))) = true := by simpa using c145))
                (try (have c145b2 : (x270000_4 == 0 && (x270001_4 == 0 && (x270002_4 == 0 && (x270003_4 == 0)))) = true := by simpa using c145))
                clear c145
                obtain rfl := Option.some.inj H
                obtain ⟨Ao146, co146, eo146⟩ := Kd.R_slice HO_8.out
                subst eo146
                have hnb147 := NB269_288.out
                have hnc147 := NB288_269.out
                have hcz148_0 : wr.cell? ⟨gb269, 0, none⟩ = some (.int .i64 x270000_4) := (blk_cell BK269.out 0).trans rfl
                have hcz148_1 : wr.cell? ⟨gb269, 1, none⟩ = some (.int .i64 x270001_4) := (blk_cell BK269.out 1).trans rfl
                have hcz148_2 : wr.cell? ⟨gb269, 2, none⟩ = some (.int .u32 x270002_4) := (blk_cell BK269.out 2).trans rfl
                have hcz148_3 : wr.cell? ⟨gb269, 3, none⟩ = some (.int .i32 x270003_4) := (blk_cell BK269.out 3).trans rfl
                have hfz148_0 := blk_frozen BK269.out 0
                have hfz148_1 := blk_frozen BK269.out 1
                have hfz148_2 := blk_frozen BK269.out 2
                have hfz148_3 := blk_frozen BK269.out 3
                go_wp2
                all_goals go_ret
                all_goals exact ⟨by first | rfl | (simp [*]; done) | (exfalso; simp only [Bool.and_eq_true, beq_iff_eq] at c145b0; omega) | (exfalso; revert c145b0; simp [*]; done) | (simp [errW_none, errW_some] <;> rfl) | (simp [*, errW_none, errW_some] <;> rfl), by repeat (first | (with_reducible first | exact HB.out | apply below_alloc | apply pw_below_drewN | apply below_drew1 | refine below_set ?_ GE269.out | refine below_set ?_ GE288.out) | exact HB.out)⟩
               ·rw [if_neg c145] at H
                have c145b0 : (x270000_4 == 0 && (x270001_4 == 0 && (x270002_4 == 0 && (x270003_4 == 0)))) = false := by simpa using c145
                (try (have c145b1 : decide (x270000_4 = 0 && (x270001_4 == 0 && (x270002_4 == 0 && (x270003_4 == 0)))) = false := by simpa using c145))
                (try (have c145b2 : (x270000_4 == 0 && (x270001_4 == 0 && (x270002_4 == 0 && (x270003_4 == 0)))) = false := by simpa using c145))
                (try (have c145b3 : ¬ (x270000_4 = 0 && (x270001_4 == 0 && (x270002_4 == 0 && (x270003_4 == 0)))) := by simpa using c145))
                clear c145
                by_cases c149 : a0 = true
                ·subst c149
                 have H1 : (some (x270000_4 == 1 && (x270001_4 == 0 && (x270002_4 == 0 && (x270003_4 == 0))))) = some r := by rw [if_pos rfl] at H; exact H
                 clear H
                 have H := H1
                 clear H1
                 obtain rfl := Option.some.inj H
                 obtain ⟨Ao150, co150, eo150⟩ := Kd.R_slice HO_8.out
                 subst eo150
                 have hnb151 := NB269_288.out
                 have hnc151 := NB288_269.out
                 have hcz152_0 : wr.cell? ⟨gb269, 0, none⟩ = some (.int .i64 x270000_4) := (blk_cell BK269.out 0).trans rfl
                 have hcz152_1 : wr.cell? ⟨gb269, 1, none⟩ = some (.int .i64 x270001_4) := (blk_cell BK269.out 1).trans rfl
                 have hcz152_2 : wr.cell? ⟨gb269, 2, none⟩ = some (.int .u32 x270002_4) := (blk_cell BK269.out 2).trans rfl
                 have hcz152_3 : wr.cell? ⟨gb269, 3, none⟩ = some (.int .i32 x270003_4) := (blk_cell BK269.out 3).trans rfl
                 have hfz152_0 := blk_frozen BK269.out 0
                 have hfz152_1 := blk_frozen BK269.out 1
                 have hfz152_2 := blk_frozen BK269.out 2
                 have hfz152_3 := blk_frozen BK269.out 3
                 go_wp2
                 all_goals go_ret
                 all_goals exact ⟨by first | rfl | (simp [*]; done) | (exfalso; simp only [Bool.and_eq_true, beq_iff_eq] at c145b0; omega) | (exfalso; revert c145b0; simp [*]; done) | (simp [errW_none, errW_some] <;> rfl) | (simp [*, errW_none, errW_some] <;> rfl), by repeat (first | (with_reducible first | exact HB.out | apply below_alloc | apply pw_below_drewN | apply below_drew1 | refine below_set ?_ GE269.out | refine below_set ?_ GE288.out) | exact HB.out)⟩
                ·replace c149 := Bool.eq_false_iff.mpr c149
                 subst c149
                 have H1 : (some false) = some r := by rw [if_neg (show ¬ (false = true) by decide)] at H; exact H
                 clear H
                 have H := H1
                 clear H1
                 obtain rfl := Option.some.inj H
                 obtain ⟨Ao153, co153, eo153⟩ := Kd.R_slice HO_8.out
                 subst eo153
                 have hnb154 := NB269_288.out
                 have hnc154 := NB288_269.out
                 have hcz155_0 : wr.cell? ⟨gb269, 0, none⟩ = some (.int .i64 x270000_4) := (blk_cell BK269.out 0).trans rfl
                 have hcz155_1 : wr.cell? ⟨gb269, 1, none⟩ = some (.int .i64 x270001_4) := (blk_cell BK269.out 1).trans rfl
                 have hcz155_2 : wr.cell? ⟨gb269, 2, none⟩ = some (.int .u32 x270002_4) := (blk_cell BK269.out 2).trans rfl
                 have hcz155_3 : wr.cell? ⟨gb269, 3, none⟩ = some (.int .i32 x270003_4) := (blk_cell BK269.out 3).trans rfl
                 have hfz155_0 := blk_frozen BK269.out 0
                 have hfz155_1 := blk_frozen BK269.out 1
                 have hfz155_2 := blk_frozen BK269.out 2
                 have hfz155_3 := blk_frozen BK269.out 3
                 go_wp2
                 all_goals go_ret
                 all_goals exact ⟨by first | rfl | (simp [*]; done) | (exfalso; simp only [Bool.and_eq_true, beq_iff_eq] at c145b0; omega) | (exfalso; revert c145b0; simp [*]; done) | (simp [errW_none, errW_some] <;> rfl) | (simp [*, errW_none, errW_some] <;> rfl), by repeat (first | (with_reducible first | exact HB.out | apply below_alloc | apply pw_below_drewN | apply below_drew1 | refine below_set ?_ GE269.out | refine below_set ?_ GE288.out) | exact HB.out)⟩
              ·rw [if_neg c144] at H
               have c144b0 : (x14_4 == (x8_2.length : Int)) = false := beq_eq_false_iff_ne.mpr c144
               have c144b1 : (x14_4 != (x8_2.length : Int)) = true := bne_iff_ne.mpr c144
               obtain rfl := Option.some.inj H
               obtain ⟨Ao156, co156, eo156⟩ := Kd.R_slice HO_8.out
               subst eo156
               go_wp2
               go_ret
               exact ⟨by first | rfl | (simp [errW_none, errW_some] <;> rfl) | (simp [*, errW_none, errW_some] <;> rfl), by repeat (first | (with_reducible first | exact HB.out | apply below_alloc | apply pw_below_drewN | apply below_drew1 | refine below_set ?_ GE269.out | refine below_set ?_ GE288.out) | exact HB.out)⟩
          ·rw [if_neg c60] at H
           exact absurd H (by simp)
         ·rw [if_neg c59] at H
          have c59b0 : (t287 == 0) = false := beq_eq_false_iff_ne.mpr c59
          have c59b1 : (t287 != 0) = true := bne_iff_ne.mpr c59
          obtain rfl := Option.some.inj H
          have hcz157_0 : wc.cell? ⟨gb269, 0, none⟩ = some (.int .i64 x270000_2) := (blk_cell BK269.out 0).trans rfl
          have hcz157_1 : wc.cell? ⟨gb269, 1, none⟩ = some (.int .i64 x270001_2) := (blk_cell BK269.out 1).trans rfl
          have hcz157_2 : wc.cell? ⟨gb269, 2, none⟩ = some (.int .u32 x270002_2) := (blk_cell BK269.out 2).trans rfl
          have hcz157_3 : wc.cell? ⟨gb269, 3, none⟩ = some (.int .i32 x270003_2) := (blk_cell BK269.out 3).trans rfl
          have hfz157_0 := blk_frozen BK269.out 0
          have hfz157_1 := blk_frozen BK269.out 1
          have hfz157_2 := blk_frozen BK269.out 2
          have hfz157_3 := blk_frozen BK269.out 3
          go_wp2_with (first | ((with_reducible refine gate_callee (f := 36) rfl ?_); refine goesL_ (some 61) rfl rfl Try.func36 (by kernel_rfl) rfl #[.int .i64 x5_4, .agg #[.int .i64 x270000_2, .int .i64 x270001_2, .int .u32 x270002_2, .int .i32 x270003_2]] rfl (by (try simp only [List.map_toArray, List.map_cons, List.map_nil]); first | done | rfl | (simp only [List.length_drop, List.length_take]; rfl)) ?_; (with_reducible refine (iso2022_End.calls kj9 x5_4 x270000_2 x270001_2 x270002_2 x270003_2 t282 t283 t284 t285 t286 t287 _ A58.out).mono ?_); rintro e w158 ⟨rfl, hb⟩; refine ⟨_, rfl, ?_⟩; have n0_ := Aside0.mk (Kd.R_below (by (with_reducible repeat (first | apply Kd.R_alloc | apply Kd.R_drewN | apply Kd.R_drew)); exact HO_8.out) hb); have n1_ := Aside0.mk (blk_below (g := gb269) (o := .cells #[.int .i64 x270000_2, .int .i64 x270001_2, .int .u32 x270002_2, .int .i32 x270003_2] 25 (0, 0)) (by (with_reducible repeat (first | refine bN_ ?_ _ | refine bD_ ?_ | refine bA_ ?_ _)); exact BK269.out) hb); have n2_ := Aside0.mk (below_step (by repeat (first | (with_reducible first | exact HB.out | apply below_alloc | apply pw_below_drewN | apply below_drew1 | refine below_set ?_ GE269.out) | exact HB.out)) hb); clear HO_8; clear BK269; clear HB; have HO_8 := n0_; have BK269 := n1_; have HB := n2_; clear n0_ n1_ n2_; (try clear hb); (try clear hb2); (try clear hk); (try clear hi)) | ((with_reducible refine gate_dst (N := 12) rfl ?_); (try (refine gate_guard (by rfl) ?_; dsimp only)); refine box_event ?hg (N := 12) ?hd (cs := #[.int .i64 0, .int .i64 0, .int .u32 0, .int .i32 0]) (t := 25) ?hr ?_; (case hd => rfl); (case hg => rfl); (case hr => first | (go_simp; done) | (go_simp; rfl)); intro gb288 hg w159 hbox hb; have n0_ := Aside0.mk (Kd.R_below (by (with_reducible repeat (first | apply Kd.R_alloc | apply Kd.R_drewN | apply Kd.R_drew)); exact HO_8.out) hb); have n1_ := Aside0.mk (blk_below (g := gb269) (o := .cells #[.int .i64 x270000_2, .int .i64 x270001_2, .int .u32 x270002_2, .int .i32 x270003_2] 25 (0, 0)) (by (with_reducible repeat (first | refine bN_ ?_ _ | refine bD_ ?_ | refine bA_ ?_ _)); exact BK269.out) hb); have n2_ := Aside0.mk (below_step (by repeat (first | (with_reducible first | exact HB.out | apply below_alloc | apply pw_below_drewN | apply below_drew1 | refine below_set ?_ GE269.out) | exact HB.out)) hb); have n3_ := Aside0.mk (hbox); have n4_ := Aside0.mk ((by rw [hg]; exact (below_size (by repeat (first | (with_reducible first | exact HB.out | apply below_alloc | apply pw_below_drewN | apply below_drew1 | refine below_set ?_ GE269.out) | exact HB.out))) : w.heap.size ≤ gb288)); have n5_ := Aside0.mk ((by rw [hg]; exact (below_size (by repeat (first | (with_reducible first | exact HB.out | apply below_alloc | apply pw_below_drewN | apply below_drew1 | refine below_set ?_ GE269.out) | exact HB.out))) : w.heap.size ≤ gb288)); have n6_ := Aside0.mk ((by rw [hg]; exact Nat.ne_of_lt (blk_lt (g := gb269) (o := .cells #[.int .i64 x270000_2, .int .i64 x270001_2, .int .u32 x270002_2, .int .i32 x270003_2] 25 (0, 0)) (by (with_reducible repeat (first | refine bN_ ?_ _ | refine bD_ ?_ | refine bA_ ?_ _)); exact BK269.out)) : gb269 ≠ gb288)); have n7_ := Aside0.mk ((by rw [hg]; exact Nat.ne_of_gt (blk_lt (g := gb269) (o := .cells #[.int .i64 x270000_2, .int .i64 x270001_2, .int .u32 x270002_2, .int .i32 x270003_2] 25 (0, 0)) (by (with_reducible repeat (first | refine bN_ ?_ _ | refine bD_ ?_ | refine bA_ ?_ _)); exact BK269.out)) : gb288 ≠ gb269)); clear HO_8; clear BK269; clear HB; have HO_8 := n0_; have BK269 := n1_; have HB := n2_; have BK288 := n3_; have GW288 := n4_; have GE288 := n5_; have NB269_288 := n6_; have NB288_269 := n7_; clear n0_ n1_ n2_ n3_ n4_ n5_ n6_ n7_; clear hb hbox hg; have hnb160 := NB288_269.out; have hnc160 := NB269_288.out; have hcz161_0 : w159.cell? ⟨gb288, 0, none⟩ = some (.int .i64 0) := (blk_cell BK288.out 0).trans rfl; have hcz161_1 : w159.cell? ⟨gb288, 1, none⟩ = some (.int .i64 0) := (blk_cell BK288.out 1).trans rfl; have hcz161_2 : w159.cell? ⟨gb288, 2, none⟩ = some (.int .u32 0) := (blk_cell BK288.out 2).trans rfl; have hcz161_3 : w159.cell? ⟨gb288, 3, none⟩ = some (.int .i32 0) := (blk_cell BK288.out 3).trans rfl; have hfz161_0 := blk_frozen BK288.out 0; have hfz161_1 := blk_frozen BK288.out 1; have hfz161_2 := blk_frozen BK288.out 2; have hfz161_3 := blk_frozen BK288.out 3))
          go_ret
          exact ⟨by first | rfl | (simp [errW_none, errW_some] <;> rfl) | (simp [*, errW_none, errW_some] <;> rfl), by repeat (first | (with_reducible first | exact HB.out | apply below_alloc | apply pw_below_drewN | apply below_drew1 | refine below_set ?_ GE269.out | refine below_set ?_ GE288.out) | exact HB.out)⟩
 ·replace c4 := Bool.eq_false_iff.mpr c4
  subst c4
  have H1 : (some false) = some r := by rw [if_neg (show ¬ (false = true) by decide)] at H; exact H
  clear H
  have H := H1
  clear H1
  obtain rfl := Option.some.inj H
  go_enter Try.func16, Try.ntmps16
  go_wp2_with (first | ((with_reducible refine gate_callee (f := 40) rfl ?_); refine goesL_ (some 17) rfl rfl Try.func40 (by kernel_rfl) rfl #[] rfl (by (try simp only [List.map_toArray, List.map_cons, List.map_nil]); first | done | rfl | (simp only [List.length_drop, List.length_take]; rfl)) ?_; (with_reducible refine (dragomanlaw21_works.calls k  false _ A3.out).mono ?_); rintro e w162 ⟨rfl, hb⟩; refine ⟨_, rfl, ?_⟩; have n0_ := Aside0.mk (below_step (by repeat (first | (with_reducible first | exact HB.out | apply below_alloc | apply pw_below_drewN | apply below_drew1) | exact HB.out)) hb); clear HB; have HB := n0_; clear n0_; (try clear hb); (try clear hb2); (try clear hk); (try clear hi)))
  go_ret
  exact ⟨by first | rfl | (simp [errW_none, errW_some] <;> rfl) | (simp [*, errW_none, errW_some] <;> rfl), by repeat (first | (with_reducible first | exact HB.out | apply below_alloc | apply pw_below_drewN | apply below_drew1) | exact HB.out)⟩
/-- THE ONE PURE STATEMENT of dragomanlaw21_Iso2022Back: yours. -/
theorem dragomanlaw21_Iso2022Back.walk (P : dragomanlaw21_Iso2022Back.Pure) (a0 : Bool) (a1 : Option Addr) (len1 cap1 : Nat) (z1 : List Int) (w : World) (w1 : (a1 = none ∧ len1 = 0 ∧ cap1 = 0 ∧ z1 = []) ∨ ∃ x, a1 = some x ∧ len1 ≤ cap1 ∧ cap1 ≤ maxLen ∧ z1.length = cap1 ∧ (∀ i, i < z1.length → w.cell? (x.add i) = some (.int .i32 (z1.getD i 0))) ∧ ∀ n ∈ z1, (Lit.int .i32 n).wf = true) (y1 : len1 * 4 ≤ 140737488351232) :
  Calls Try.prog 16 #[.bool a0, .slice a1 len1 cap1] w fun e w' => e = .returned (.bool true) ∧ Below w.heap.size w w' := by
 obtain ⟨l1, rfl, hr1, hm1, hw1, hc1⟩ := ReadsInt.ofRowC w1
 obtain ⟨k, h⟩ := P a0 l1 hm1 y1 hw1
 refine (dragomanlaw21_Iso2022Back.calls k a0 _ _ l1 true w (Kd.C_of_reads (d := (0 : Int)) (h1 := fun _ => rfl) hr1) hc1 h).mono ?_
 rintro e w' ⟨rfl, hd⟩
 exact ⟨rfl, hd⟩
end Go.Proofs.Ytenmanionddamaa.Q
