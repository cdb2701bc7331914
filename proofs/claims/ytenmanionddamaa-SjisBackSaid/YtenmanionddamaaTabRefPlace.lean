import Derived.Test.YtenmanionddamaaTabRef
import Derived.LoopTactic
namespace Go.Proofs.Ytenmanionddamaa
open Go.RowKit Go.Proofs.YtenmanionddamaaW.PrintWords Go.Proofs.YtenmanionddamaaW.PrintLast Go.Proofs.YtenmanionddamaaW.PrintMore
set_option linter.unusedVariables false
set_option linter.unusedSimpArgs false
theorem placeFrom_step_nil (R : Int → List Int) (u : Int) (n : Nat) (r : Int) (h : R r = []) : placeFrom R u (n + 1) r = placeFrom R u n (r + 1) := by
  simp [placeFrom, h, idxFrom]
theorem scalarOf_miss (l : List Int) (c : Nat) (h : l ≠ []) (hc : c < 94) (hv : l.getD c 0 = 65533) : scalarOf l (c + 1) = (0, false) := by
  unfold scalarOf
  rw [if_neg h, if_neg (by omega), if_neg (by omega), show ((c : Int) + 1 - 1).toNat = c by omega, if_pos hv]
theorem scalarOf_some (l : List Int) (c : Nat) (v : Int) (h : l ≠ []) (hc : c < 94) (hv : l.getD c 0 = v) (hn : v ≠ 65533) : scalarOf l (c + 1) = (v, true) := by
  unfold scalarOf
  rw [if_neg h, if_neg (by omega), if_neg (by omega), show ((c : Int) + 1 - 1).toNat = c by omega, hv, if_neg hn]
theorem idxFrom_none (l : List Int) (u : Int) : ∀ (n : Int), (∀ i, l.getD i 0 ≠ u ∨ l.length ≤ i) → idxFrom l u n = none := by
  induction l with
  | nil => intro n _; rfl
  | cons x l ih =>
    intro n h
    have h0 := h 0
    simp at h0
    rw [idxFrom, if_neg h0]
    exact ih _ fun i => by have := h (i + 1); simpa using this
theorem placeFrom_none (R : Int → List Int) (u : Int) (h : ∀ r i, (R r).getD i 0 ≠ u ∨ (R r).length ≤ i) : ∀ (n : Nat) (r : Int), placeFrom R u n r = (0, 0, false) := by
  intro n
  induction n with
  | zero => intro r; rfl
  | succ n ih => intro r; rw [placeFrom, idxFrom_none _ _ _ (h r)]; exact ih _
theorem placeOf_jis_out (u : Int) (h : u < 0 ∨ 65535 < u) : placeOf jisRow u = (0, 0, false) := by
  unfold placeOf
  rw [if_neg (by omega)]
  exact placeFrom_none _ _ (fun r i => .inl (by have := jisRow_u16 r i; omega)) _ _
def dragomanref14_Place.f (a0 : Int) : Option (Int × Int × Bool) := some (placeOf jisRow a0)
set_option maxHeartbeats 2000000 in
theorem dragomanref14_Place_main (u r c : Int) (b : Bool) (w : World) (h : (u == 65533) = false) (hn : u ≠ 65533) (h0 : ¬ u < 0) (h1 : ¬ 65535 < u) (H : placeFrom jisRow u 94 1 = (r, c, b)) :
    Calls Try.prog 48 #[.int .i32 u] w fun e w' => e = .returned (.tuple #[.int .i64 r, .int .i64 c, .bool b]) ∧ Drawn0 w w' := by
  have HH := Lib.hid H
  have HN := Lib.hid hn
  have d0 : decide (u < 0) = false := by simpa using h0
  have d1 : decide (65535 < u) = false := by simpa using h1
  clear H hn
  go_enter Try.func48, Try.ntmps48
  go_wp2_with fail
  go_loopw [5] (fun v5 wr => ∃ i : Nat, i ≤ 94 ∧ v5 = .int .i64 (i + 1) ∧ Hid (placeFrom jisRow u (94 - i) (i + 1) = (r, c, b)) ∧ Drawn0 w wr) (fun v5 _ => 95 - (intOf v5).toNat)
  case atStart => exact ⟨0, by omega, rfl, HH, Drawn0.refl _⟩
  case round =>
    obtain ⟨i, hi, rfl, HI, hb⟩ := hrel
    clear HH
    by_cases hlt : i < 94
    · by_cases hr : jisRow (i + 1) = []
      · have HR := Lib.hid hr
        have HS : Hid (dragomanref14_list.f (i + 1) = some ⟨(ref14L (i + 1)).toArray⟩) := Lib.hid rfl
        have hz : (⟨(ref14L ((i : Int) + 1)).toArray⟩ : ByteArray).toList.isEmpty = true := by rw [toList_isEmpty, ref14L_none _ hr]; rfl
        generalize (⟨(ref14L ((i : Int) + 1)).toArray⟩ : ByteArray) = s at HS hz
        clear hr
        go_wp2_with (go_at_call 81; refine (dragomanref14_list.calls _ s _ HS.out).mono ?_; rintro e w' ⟨rfl, ⟨nd, rfl⟩⟩)
        go_roundw
        case rel => exact ⟨i + 1, by omega, by go_num, Lib.hid (by rw [← HI.out, show 94 - i = (94 - (i + 1)) + 1 by omega, placeFrom_step_nil _ _ _ _ HR.out]; rfl), hb.step _⟩
        case measure => simp [intOf]; omega
      · have HR := Lib.hid hr
        have HS : Hid (dragomanref14_list.f (i + 1) = some ⟨(ref14L (i + 1)).toArray⟩) := Lib.hid rfl
        have hz : (⟨(ref14L ((i : Int) + 1)).toArray⟩ : ByteArray).toList.isEmpty = false := by
          rw [toList_isEmpty]; have hl := (ref14L_some _ hr).1; cases e : ref14L ((i : Int) + 1) with | nil => rw [e] at hl; cases hl | cons _ _ => rfl
        generalize (⟨(ref14L ((i : Int) + 1)).toArray⟩ : ByteArray) = s at HS hz
        clear hr
        go_wp2_with (go_at_call 81; refine (dragomanref14_list.calls _ s _ HS.out).mono ?_; rintro e w' ⟨rfl, ⟨nd, rfl⟩⟩)
        generalize hW : World.drewN wr _ = W
        have HW : Hid (Drawn0 w W) := Lib.hid (hW ▸ hb.step _)
        clear hW hb HS hz
        go_loopw [6] (fun v6 wx => ∃ k : Nat, k ≤ 94 ∧ v6 = .int .i64 (k + 1) ∧ Hid (idxFrom ((jisRow (i + 1)).drop k) u (k + 1) = idxFrom (jisRow (i + 1)) u 1) ∧ Hid (Drawn0 w wx)) (fun v6 _ => 95 - (intOf v6).toNat)
        case atStart => exact ⟨0, by omega, rfl, Lib.hid (by simp), HW⟩
        case round =>
          obtain ⟨k, hk, rfl, HK, HX⟩ := hrel
          have hlen := jisRow_len _ HR.out
          have HL := Lib.hid hlen
          clear hlen
          by_cases hk2 : k < 94
          · have hd := idxFrom_drop (jisRow (i + 1)) u k (k + 1) (by rw [HL.out]; exact hk2)
            obtain ⟨x, hx⟩ : ∃ x, (jisRow ((i : Int) + 1)).getD k 0 = x := ⟨_, rfl⟩
            rw [hx] at hd
            have HD := Lib.hid hd
            have HXX := Lib.hid hx
            clear hd hx
            by_cases hxm : x = 65533
            · subst hxm
              have HC : Hid (dragomanref14_Scalar.f (i + 1) (k + 1) = some (0, false)) := Lib.hid (by unfold dragomanref14_Scalar.f; rw [scalarOf_miss _ k HR.out hk2 HXX.out])
              go_wp2_with (go_at_call 60; refine (dragomanref14_Scalar.calls _ _ 0 false _ HC.out).mono ?_; rintro e w' ⟨rfl, ⟨nd, rfl⟩⟩)
              go_roundw
              case rel => exact ⟨k + 1, by omega, by go_num, Lib.hid (by rw [← HK.out, HD.out, if_neg (fun e => HN.out e.symm)]; rfl), Lib.hid (HX.out.step _)⟩
              case measure => simp [intOf]; omega
            · have HC : Hid (dragomanref14_Scalar.f (i + 1) (k + 1) = some (x, true)) := Lib.hid (by unfold dragomanref14_Scalar.f; rw [scalarOf_some _ k x HR.out hk2 HXX.out hxm])
              clear hxm
              by_cases hxu : x = u
              · have b1 : (x == u) = true := beq_iff_eq.mpr hxu
                have HE := Lib.hid hxu
                clear hxu
                have hfin : placeFrom jisRow u (94 - i) (i + 1) = ((i : Int) + 1, (k : Int) + 1, true) := by
                  rw [show 94 - i = (94 - (i + 1)) + 1 by omega, placeFrom, ← HK.out, HD.out, if_pos HE.out]
                rw [HI.out] at hfin
                simp only [Prod.mk.injEq] at hfin
                obtain ⟨rfl, rfl, rfl⟩ := hfin
                go_wp2_with (go_at_call 60; refine (dragomanref14_Scalar.calls _ _ x true _ HC.out).mono ?_; rintro e w' ⟨rfl, ⟨nd, rfl⟩⟩)
                go_ret3
                exact ⟨rfl, HX.out.step _⟩
              · have b1 : (x == u) = false := beq_eq_false_iff_ne.mpr hxu
                have HE := Lib.hid hxu
                clear hxu
                go_wp2_with (go_at_call 60; refine (dragomanref14_Scalar.calls _ _ x true _ HC.out).mono ?_; rintro e w' ⟨rfl, ⟨nd, rfl⟩⟩)
                go_roundw
                case rel => exact ⟨k + 1, by omega, by go_num, Lib.hid (by rw [← HK.out, HD.out, if_neg HE.out]; rfl), Lib.hid (HX.out.step _)⟩
                case measure => simp [intOf]; omega
          · go_wp2
            go_roundw
            case rel =>
              refine ⟨i + 1, by omega, by go_num, Lib.hid ?_, HX.out⟩
              have hn : idxFrom (jisRow ((i : Int) + 1)) u 1 = none := by
                rw [← HK.out, List.drop_eq_nil_of_le (by rw [HL.out]; omega)]; rfl
              rw [← HI.out, show 94 - i = (94 - (i + 1)) + 1 by omega, placeFrom, hn]
              rfl
            case measure => simp [intOf]; omega
    · have h94 : i = 94 := by omega
      subst h94
      have hfin := HI.out
      rw [show 94 - 94 = 0 by rfl, placeFrom] at hfin
      simp only [Prod.mk.injEq] at hfin
      obtain ⟨rfl, rfl, rfl⟩ := hfin
      go_wp2
      go_ret3
      exact ⟨rfl, hb⟩
theorem dragomanref14_Place.calls (a0 : Int) (r1 r2 : Int) (r3 : Bool) (w : World) (h : dragomanref14_Place.f a0 = some (r1, r2, r3)) :
    Calls Try.prog 48 #[.int .i32 a0] w fun e w' => e = .returned (.tuple #[.int .i64 r1, .int .i64 r2, .bool r3]) ∧ Drawn0 w w' := by
  unfold dragomanref14_Place.f at h
  by_cases h1 : a0 = 65533
  · unfold placeOf at h
    rw [if_pos h1] at h; cases h
    have b1 : (a0 == 65533) = true := beq_iff_eq.mpr h1
    clear h1
    go_enter Try.func48, Try.ntmps48
    go_wp2
    go_ret3
    exact ⟨rfl, Drawn0.refl _⟩
  · have b1 : (a0 == 65533) = false := beq_eq_false_iff_ne.mpr h1
    by_cases h2 : a0 < 0
    · rw [placeOf_jis_out a0 (.inl h2)] at h; cases h
      have d0 : decide (a0 < 0) = true := by simpa using h2
      clear h1
      go_enter Try.func48, Try.ntmps48
      go_wp2
      go_ret3
      exact ⟨rfl, Drawn0.refl _⟩
    · by_cases h3 : 65535 < a0
      · rw [placeOf_jis_out a0 (.inr h3)] at h; cases h
        have d0 : decide (a0 < 0) = false := by simpa using h2
        have d1 : decide (65535 < a0) = true := by simpa using h3
        clear h1
        go_enter Try.func48, Try.ntmps48
        go_wp2
        go_ret3
        exact ⟨rfl, Drawn0.refl _⟩
      · unfold placeOf at h
        rw [if_neg h1] at h
        exact dragomanref14_Place_main a0 r1 r2 r3 w b1 h1 h2 h3 (Option.some.inj h)
theorem placeOf_gb_out (u : Int) (h : u < 0 ∨ 65535 < u) : placeOf gbRow u = (0, 0, false) := by
  unfold placeOf
  rw [if_neg (by omega)]
  exact placeFrom_none _ _ (fun r i => .inl (by have := gbRow_u16 r i; omega)) _ _
def dragomanref15_Place.f (a0 : Int) : Option (Int × Int × Bool) := some (placeOf gbRow a0)
set_option maxHeartbeats 2000000 in
theorem dragomanref15_Place_main (u r c : Int) (b : Bool) (w : World) (h : (u == 65533) = false) (hn : u ≠ 65533) (h0 : ¬ u < 0) (h1 : ¬ 65535 < u) (H : placeFrom gbRow u 94 1 = (r, c, b)) :
    Calls Try.prog 53 #[.int .i32 u] w fun e w' => e = .returned (.tuple #[.int .i64 r, .int .i64 c, .bool b]) ∧ Drawn0 w w' := by
  have HH := Lib.hid H
  have HN := Lib.hid hn
  have d0 : decide (u < 0) = false := by simpa using h0
  have d1 : decide (65535 < u) = false := by simpa using h1
  clear H hn
  go_enter Try.func53, Try.ntmps53
  go_wp2_with fail
  go_loopw [5] (fun v5 wr => ∃ i : Nat, i ≤ 94 ∧ v5 = .int .i64 (i + 1) ∧ Hid (placeFrom gbRow u (94 - i) (i + 1) = (r, c, b)) ∧ Drawn0 w wr) (fun v5 _ => 95 - (intOf v5).toNat)
  case atStart => exact ⟨0, by omega, rfl, HH, Drawn0.refl _⟩
  case round =>
    obtain ⟨i, hi, rfl, HI, hb⟩ := hrel
    clear HH
    by_cases hlt : i < 94
    · by_cases hr : gbRow (i + 1) = []
      · have HR := Lib.hid hr
        have HS : Hid (dragomanref15_list.f (i + 1) = some ⟨(ref15L (i + 1)).toArray⟩) := Lib.hid rfl
        have hz : (⟨(ref15L ((i : Int) + 1)).toArray⟩ : ByteArray).toList.isEmpty = true := by rw [toList_isEmpty, ref15L_none _ hr]; rfl
        generalize (⟨(ref15L ((i : Int) + 1)).toArray⟩ : ByteArray) = s at HS hz
        clear hr
        go_wp2_with (go_at_call 83; refine (dragomanref15_list.calls _ s _ HS.out).mono ?_; rintro e w' ⟨rfl, ⟨nd, rfl⟩⟩)
        go_roundw
        case rel => exact ⟨i + 1, by omega, by go_num, Lib.hid (by rw [← HI.out, show 94 - i = (94 - (i + 1)) + 1 by omega, placeFrom_step_nil _ _ _ _ HR.out]; rfl), hb.step _⟩
        case measure => simp [intOf]; omega
      · have HR := Lib.hid hr
        have HS : Hid (dragomanref15_list.f (i + 1) = some ⟨(ref15L (i + 1)).toArray⟩) := Lib.hid rfl
        have hz : (⟨(ref15L ((i : Int) + 1)).toArray⟩ : ByteArray).toList.isEmpty = false := by
          rw [toList_isEmpty]; have hl := (ref15L_some _ hr).1; cases e : ref15L ((i : Int) + 1) with | nil => rw [e] at hl; cases hl | cons _ _ => rfl
        generalize (⟨(ref15L ((i : Int) + 1)).toArray⟩ : ByteArray) = s at HS hz
        clear hr
        go_wp2_with (go_at_call 83; refine (dragomanref15_list.calls _ s _ HS.out).mono ?_; rintro e w' ⟨rfl, ⟨nd, rfl⟩⟩)
        generalize hW : World.drewN wr _ = W
        have HW : Hid (Drawn0 w W) := Lib.hid (hW ▸ hb.step _)
        clear hW hb HS hz
        go_loopw [6] (fun v6 wx => ∃ k : Nat, k ≤ 94 ∧ v6 = .int .i64 (k + 1) ∧ Hid (idxFrom ((gbRow (i + 1)).drop k) u (k + 1) = idxFrom (gbRow (i + 1)) u 1) ∧ Hid (Drawn0 w wx)) (fun v6 _ => 95 - (intOf v6).toNat)
        case atStart => exact ⟨0, by omega, rfl, Lib.hid (by simp), HW⟩
        case round =>
          obtain ⟨k, hk, rfl, HK, HX⟩ := hrel
          have hlen := gbRow_len _ HR.out
          have HL := Lib.hid hlen
          clear hlen
          by_cases hk2 : k < 94
          · have hd := idxFrom_drop (gbRow (i + 1)) u k (k + 1) (by rw [HL.out]; exact hk2)
            obtain ⟨x, hx⟩ : ∃ x, (gbRow ((i : Int) + 1)).getD k 0 = x := ⟨_, rfl⟩
            rw [hx] at hd
            have HD := Lib.hid hd
            have HXX := Lib.hid hx
            clear hd hx
            by_cases hxm : x = 65533
            · subst hxm
              have HC : Hid (dragomanref15_Scalar.f (i + 1) (k + 1) = some (0, false)) := Lib.hid (by unfold dragomanref15_Scalar.f; rw [scalarOf_miss _ k HR.out hk2 HXX.out])
              go_wp2_with (go_at_call 78; refine (dragomanref15_Scalar.calls _ _ 0 false _ HC.out).mono ?_; rintro e w' ⟨rfl, ⟨nd, rfl⟩⟩)
              go_roundw
              case rel => exact ⟨k + 1, by omega, by go_num, Lib.hid (by rw [← HK.out, HD.out, if_neg (fun e => HN.out e.symm)]; rfl), Lib.hid (HX.out.step _)⟩
              case measure => simp [intOf]; omega
            · have HC : Hid (dragomanref15_Scalar.f (i + 1) (k + 1) = some (x, true)) := Lib.hid (by unfold dragomanref15_Scalar.f; rw [scalarOf_some _ k x HR.out hk2 HXX.out hxm])
              clear hxm
              by_cases hxu : x = u
              · have b1 : (x == u) = true := beq_iff_eq.mpr hxu
                have HE := Lib.hid hxu
                clear hxu
                have hfin : placeFrom gbRow u (94 - i) (i + 1) = ((i : Int) + 1, (k : Int) + 1, true) := by
                  rw [show 94 - i = (94 - (i + 1)) + 1 by omega, placeFrom, ← HK.out, HD.out, if_pos HE.out]
                rw [HI.out] at hfin
                simp only [Prod.mk.injEq] at hfin
                obtain ⟨rfl, rfl, rfl⟩ := hfin
                go_wp2_with (go_at_call 78; refine (dragomanref15_Scalar.calls _ _ x true _ HC.out).mono ?_; rintro e w' ⟨rfl, ⟨nd, rfl⟩⟩)
                go_ret3
                exact ⟨rfl, HX.out.step _⟩
              · have b1 : (x == u) = false := beq_eq_false_iff_ne.mpr hxu
                have HE := Lib.hid hxu
                clear hxu
                go_wp2_with (go_at_call 78; refine (dragomanref15_Scalar.calls _ _ x true _ HC.out).mono ?_; rintro e w' ⟨rfl, ⟨nd, rfl⟩⟩)
                go_roundw
                case rel => exact ⟨k + 1, by omega, by go_num, Lib.hid (by rw [← HK.out, HD.out, if_neg HE.out]; rfl), Lib.hid (HX.out.step _)⟩
                case measure => simp [intOf]; omega
          · go_wp2
            go_roundw
            case rel =>
              refine ⟨i + 1, by omega, by go_num, Lib.hid ?_, HX.out⟩
              have hn : idxFrom (gbRow ((i : Int) + 1)) u 1 = none := by
                rw [← HK.out, List.drop_eq_nil_of_le (by rw [HL.out]; omega)]; rfl
              rw [← HI.out, show 94 - i = (94 - (i + 1)) + 1 by omega, placeFrom, hn]
              rfl
            case measure => simp [intOf]; omega
    · have h94 : i = 94 := by omega
      subst h94
      have hfin := HI.out
      rw [show 94 - 94 = 0 by rfl, placeFrom] at hfin
      simp only [Prod.mk.injEq] at hfin
      obtain ⟨rfl, rfl, rfl⟩ := hfin
      go_wp2
      go_ret3
      exact ⟨rfl, hb⟩
theorem dragomanref15_Place.calls (a0 : Int) (r1 r2 : Int) (r3 : Bool) (w : World) (h : dragomanref15_Place.f a0 = some (r1, r2, r3)) :
    Calls Try.prog 53 #[.int .i32 a0] w fun e w' => e = .returned (.tuple #[.int .i64 r1, .int .i64 r2, .bool r3]) ∧ Drawn0 w w' := by
  unfold dragomanref15_Place.f at h
  by_cases h1 : a0 = 65533
  · unfold placeOf at h
    rw [if_pos h1] at h; cases h
    have b1 : (a0 == 65533) = true := beq_iff_eq.mpr h1
    clear h1
    go_enter Try.func53, Try.ntmps53
    go_wp2
    go_ret3
    exact ⟨rfl, Drawn0.refl _⟩
  · have b1 : (a0 == 65533) = false := beq_eq_false_iff_ne.mpr h1
    by_cases h2 : a0 < 0
    · rw [placeOf_gb_out a0 (.inl h2)] at h; cases h
      have d0 : decide (a0 < 0) = true := by simpa using h2
      clear h1
      go_enter Try.func53, Try.ntmps53
      go_wp2
      go_ret3
      exact ⟨rfl, Drawn0.refl _⟩
    · by_cases h3 : 65535 < a0
      · rw [placeOf_gb_out a0 (.inr h3)] at h; cases h
        have d0 : decide (a0 < 0) = false := by simpa using h2
        have d1 : decide (65535 < a0) = true := by simpa using h3
        clear h1
        go_enter Try.func53, Try.ntmps53
        go_wp2
        go_ret3
        exact ⟨rfl, Drawn0.refl _⟩
      · unfold placeOf at h
        rw [if_neg h1] at h
        exact dragomanref15_Place_main a0 r1 r2 r3 w b1 h1 h2 h3 (Option.some.inj h)
theorem placeOf_ksc_out (u : Int) (h : u < 0 ∨ 65535 < u) : placeOf kscRow u = (0, 0, false) := by
  unfold placeOf
  rw [if_neg (by omega)]
  exact placeFrom_none _ _ (fun r i => .inl (by have := kscRow_u16 r i; omega)) _ _
def dragomanref16_Place.f (a0 : Int) : Option (Int × Int × Bool) := some (placeOf kscRow a0)
set_option maxHeartbeats 2000000 in
theorem dragomanref16_Place_main (u r c : Int) (b : Bool) (w : World) (h : (u == 65533) = false) (hn : u ≠ 65533) (h0 : ¬ u < 0) (h1 : ¬ 65535 < u) (H : placeFrom kscRow u 94 1 = (r, c, b)) :
    Calls Try.prog 92 #[.int .i32 u] w fun e w' => e = .returned (.tuple #[.int .i64 r, .int .i64 c, .bool b]) ∧ Drawn0 w w' := by
  have HH := Lib.hid H
  have HN := Lib.hid hn
  have d0 : decide (u < 0) = false := by simpa using h0
  have d1 : decide (65535 < u) = false := by simpa using h1
  clear H hn
  go_enter Try.func92, Try.ntmps92
  go_wp2_with fail
  go_loopw [5] (fun v5 wr => ∃ i : Nat, i ≤ 94 ∧ v5 = .int .i64 (i + 1) ∧ Hid (placeFrom kscRow u (94 - i) (i + 1) = (r, c, b)) ∧ Drawn0 w wr) (fun v5 _ => 95 - (intOf v5).toNat)
  case atStart => exact ⟨0, by omega, rfl, HH, Drawn0.refl _⟩
  case round =>
    obtain ⟨i, hi, rfl, HI, hb⟩ := hrel
    clear HH
    by_cases hlt : i < 94
    · by_cases hr : kscRow (i + 1) = []
      · have HR := Lib.hid hr
        have HS : Hid (dragomanref16_list.f (i + 1) = some ⟨(ref16L (i + 1)).toArray⟩) := Lib.hid rfl
        have hz : (⟨(ref16L ((i : Int) + 1)).toArray⟩ : ByteArray).toList.isEmpty = true := by rw [toList_isEmpty, ref16L_none _ hr]; rfl
        generalize (⟨(ref16L ((i : Int) + 1)).toArray⟩ : ByteArray) = s at HS hz
        clear hr
        go_wp2_with (go_at_call 94; refine (dragomanref16_list.calls _ s _ HS.out).mono ?_; rintro e w' ⟨rfl, ⟨nd, rfl⟩⟩)
        go_roundw
        case rel => exact ⟨i + 1, by omega, by go_num, Lib.hid (by rw [← HI.out, show 94 - i = (94 - (i + 1)) + 1 by omega, placeFrom_step_nil _ _ _ _ HR.out]; rfl), hb.step _⟩
        case measure => simp [intOf]; omega
      · have HR := Lib.hid hr
        have HS : Hid (dragomanref16_list.f (i + 1) = some ⟨(ref16L (i + 1)).toArray⟩) := Lib.hid rfl
        have hz : (⟨(ref16L ((i : Int) + 1)).toArray⟩ : ByteArray).toList.isEmpty = false := by
          rw [toList_isEmpty]; have hl := (ref16L_some _ hr).1; cases e : ref16L ((i : Int) + 1) with | nil => rw [e] at hl; cases hl | cons _ _ => rfl
        generalize (⟨(ref16L ((i : Int) + 1)).toArray⟩ : ByteArray) = s at HS hz
        clear hr
        go_wp2_with (go_at_call 94; refine (dragomanref16_list.calls _ s _ HS.out).mono ?_; rintro e w' ⟨rfl, ⟨nd, rfl⟩⟩)
        generalize hW : World.drewN wr _ = W
        have HW : Hid (Drawn0 w W) := Lib.hid (hW ▸ hb.step _)
        clear hW hb HS hz
        go_loopw [6] (fun v6 wx => ∃ k : Nat, k ≤ 94 ∧ v6 = .int .i64 (k + 1) ∧ Hid (idxFrom ((kscRow (i + 1)).drop k) u (k + 1) = idxFrom (kscRow (i + 1)) u 1) ∧ Hid (Drawn0 w wx)) (fun v6 _ => 95 - (intOf v6).toNat)
        case atStart => exact ⟨0, by omega, rfl, Lib.hid (by simp), HW⟩
        case round =>
          obtain ⟨k, hk, rfl, HK, HX⟩ := hrel
          have hlen := kscRow_len _ HR.out
          have HL := Lib.hid hlen
          clear hlen
          by_cases hk2 : k < 94
          · have hd := idxFrom_drop (kscRow (i + 1)) u k (k + 1) (by rw [HL.out]; exact hk2)
            obtain ⟨x, hx⟩ : ∃ x, (kscRow ((i : Int) + 1)).getD k 0 = x := ⟨_, rfl⟩
            rw [hx] at hd
            have HD := Lib.hid hd
            have HXX := Lib.hid hx
            clear hd hx
            by_cases hxm : x = 65533
            · subst hxm
              have HC : Hid (dragomanref16_Scalar.f (i + 1) (k + 1) = some (0, false)) := Lib.hid (by unfold dragomanref16_Scalar.f; rw [scalarOf_miss _ k HR.out hk2 HXX.out])
              go_wp2_with (go_at_call 79; refine (dragomanref16_Scalar.calls _ _ 0 false _ HC.out).mono ?_; rintro e w' ⟨rfl, ⟨nd, rfl⟩⟩)
              go_roundw
              case rel => exact ⟨k + 1, by omega, by go_num, Lib.hid (by rw [← HK.out, HD.out, if_neg (fun e => HN.out e.symm)]; rfl), Lib.hid (HX.out.step _)⟩
              case measure => simp [intOf]; omega
            · have HC : Hid (dragomanref16_Scalar.f (i + 1) (k + 1) = some (x, true)) := Lib.hid (by unfold dragomanref16_Scalar.f; rw [scalarOf_some _ k x HR.out hk2 HXX.out hxm])
              clear hxm
              by_cases hxu : x = u
              · have b1 : (x == u) = true := beq_iff_eq.mpr hxu
                have HE := Lib.hid hxu
                clear hxu
                have hfin : placeFrom kscRow u (94 - i) (i + 1) = ((i : Int) + 1, (k : Int) + 1, true) := by
                  rw [show 94 - i = (94 - (i + 1)) + 1 by omega, placeFrom, ← HK.out, HD.out, if_pos HE.out]
                rw [HI.out] at hfin
                simp only [Prod.mk.injEq] at hfin
                obtain ⟨rfl, rfl, rfl⟩ := hfin
                go_wp2_with (go_at_call 79; refine (dragomanref16_Scalar.calls _ _ x true _ HC.out).mono ?_; rintro e w' ⟨rfl, ⟨nd, rfl⟩⟩)
                go_ret3
                exact ⟨rfl, HX.out.step _⟩
              · have b1 : (x == u) = false := beq_eq_false_iff_ne.mpr hxu
                have HE := Lib.hid hxu
                clear hxu
                go_wp2_with (go_at_call 79; refine (dragomanref16_Scalar.calls _ _ x true _ HC.out).mono ?_; rintro e w' ⟨rfl, ⟨nd, rfl⟩⟩)
                go_roundw
                case rel => exact ⟨k + 1, by omega, by go_num, Lib.hid (by rw [← HK.out, HD.out, if_neg HE.out]; rfl), Lib.hid (HX.out.step _)⟩
                case measure => simp [intOf]; omega
          · go_wp2
            go_roundw
            case rel =>
              refine ⟨i + 1, by omega, by go_num, Lib.hid ?_, HX.out⟩
              have hn : idxFrom (kscRow ((i : Int) + 1)) u 1 = none := by
                rw [← HK.out, List.drop_eq_nil_of_le (by rw [HL.out]; omega)]; rfl
              rw [← HI.out, show 94 - i = (94 - (i + 1)) + 1 by omega, placeFrom, hn]
              rfl
            case measure => simp [intOf]; omega
    · have h94 : i = 94 := by omega
      subst h94
      have hfin := HI.out
      rw [show 94 - 94 = 0 by rfl, placeFrom] at hfin
      simp only [Prod.mk.injEq] at hfin
      obtain ⟨rfl, rfl, rfl⟩ := hfin
      go_wp2
      go_ret3
      exact ⟨rfl, hb⟩
theorem dragomanref16_Place.calls (a0 : Int) (r1 r2 : Int) (r3 : Bool) (w : World) (h : dragomanref16_Place.f a0 = some (r1, r2, r3)) :
    Calls Try.prog 92 #[.int .i32 a0] w fun e w' => e = .returned (.tuple #[.int .i64 r1, .int .i64 r2, .bool r3]) ∧ Drawn0 w w' := by
  unfold dragomanref16_Place.f at h
  by_cases h1 : a0 = 65533
  · unfold placeOf at h
    rw [if_pos h1] at h; cases h
    have b1 : (a0 == 65533) = true := beq_iff_eq.mpr h1
    clear h1
    go_enter Try.func92, Try.ntmps92
    go_wp2
    go_ret3
    exact ⟨rfl, Drawn0.refl _⟩
  · have b1 : (a0 == 65533) = false := beq_eq_false_iff_ne.mpr h1
    by_cases h2 : a0 < 0
    · rw [placeOf_ksc_out a0 (.inl h2)] at h; cases h
      have d0 : decide (a0 < 0) = true := by simpa using h2
      clear h1
      go_enter Try.func92, Try.ntmps92
      go_wp2
      go_ret3
      exact ⟨rfl, Drawn0.refl _⟩
    · by_cases h3 : 65535 < a0
      · rw [placeOf_ksc_out a0 (.inr h3)] at h; cases h
        have d0 : decide (a0 < 0) = false := by simpa using h2
        have d1 : decide (65535 < a0) = true := by simpa using h3
        clear h1
        go_enter Try.func92, Try.ntmps92
        go_wp2
        go_ret3
        exact ⟨rfl, Drawn0.refl _⟩
      · unfold placeOf at h
        rw [if_neg h1] at h
        exact dragomanref16_Place_main a0 r1 r2 r3 w b1 h1 h2 h3 (Option.some.inj h)
end Go.Proofs.Ytenmanionddamaa
