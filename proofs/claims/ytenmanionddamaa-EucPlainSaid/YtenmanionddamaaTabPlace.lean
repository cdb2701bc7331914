import Derived.Test.YtenmanionddamaaTabScal
import Derived.LoopTactic
namespace Go.Proofs.Ytenmanionddamaa
open Go.RowKit
set_option linter.unusedVariables false
set_option linter.unusedSimpArgs false
theorem placeFrom_skip (R : Int → List Int) (u : Int) (n : Nat) (r : Int) (h : R r = []) : placeFrom R u (n + 1) r = placeFrom R u n (r + 1) := by
  simp [placeFrom, h, idxFrom]
set_option maxHeartbeats 1000000 in
theorem jis_Place_main (u r c : Int) (b : Bool) (w : World) (h : (u == 65533) = false) (H : placeFrom jisRow u 94 1 = (r, c, b)) :
    Calls Try.prog 46 #[.int .i32 u] w fun e w' => e = .returned (.tuple #[.int .i64 r, .int .i64 c, .bool b]) ∧ Below w.heap.size w w' := by
  have HH := Lib.hid H
  clear H
  go_enter Try.func46, Try.ntmps46
  go_wp2_with fail
  go_loopw [10] (fun v10 wr => ∃ i : Nat, i ≤ 94 ∧ v10 = .int .i64 i ∧ Hid (placeFrom jisRow u (94 - i) (i + 1) = (r, c, b)) ∧ Below w.heap.size w wr) (fun v10 _ => 94 - (intOf v10).toNat)
  case atStart => exact ⟨0, by omega, rfl, HH, Below.refl _ _⟩
  case round =>
    obtain ⟨i, hi, rfl, HI, hb⟩ := hrel
    clear HH
    by_cases hlt : i < 94
    · by_cases hr : jisRow (i + 1) = []
      · have HR := Lib.hid hr
        clear hr
        go_wp2_with (go_at_call 80; refine (jis_listOf_none _ _ HR.out).mono ?_; rintro e w' ⟨rfl, rfl⟩)
        go_roundw
        case rel => exact ⟨i + 1, by omega, by go_num, Lib.hid (by rw [← HI.out, show 94 - i = (94 - (i + 1)) + 1 by omega, placeFrom_skip _ _ _ _ HR.out]; rfl), hb⟩
        case measure => simp [intOf]; omega
      · have HR := Lib.hid hr
        clear hr
        go_wp2_with (go_at_call 80; refine (jis_listOf_cells _ _ HR.out).mono ?_; rintro e w' ⟨B, rfl, hb2, HC⟩)
        go_loop [18] (fun v18 => ∃ k : Nat, k ≤ 94 ∧ v18 = .int .i64 k ∧ Hid (idxFrom ((jisRow (i + 1)).drop k) u (k + 1) = idxFrom (jisRow (i + 1)) u 1)) (fun v18 => 94 - (intOf v18).toNat)
        case atStart => exact ⟨0, by omega, rfl, Lib.hid (by simp)⟩
        case round =>
          obtain ⟨k, hk, rfl, HK⟩ := hrel
          have hlen := jisRow_len _ HR.out
          have HL := Lib.hid hlen
          clear hlen
          by_cases hk2 : k < 94
          · have hcl := HC.out k hk2
            have hu := jisRow_u16 ((i : Int) + 1) k
            have HD := Lib.hid (idxFrom_drop (jisRow (i + 1)) u k (k + 1) (by rw [HL.out]; exact hk2))
            generalize hx : (jisRow ((i : Int) + 1)).getD k 0 = x at *
            clear hx
            obtain ⟨x0, x1⟩ := hu
            by_cases hxu : x = u
            · have b1 : (x == u) = true := beq_iff_eq.mpr hxu
              have HX := Lib.hid hxu
              clear hxu
              have hfin : placeFrom jisRow u (94 - i) (i + 1) = ((i : Int) + 1, (k : Int) + 1, true) := by
                rw [show 94 - i = (94 - (i + 1)) + 1 by omega, placeFrom, ← HK.out, HD.out, if_pos HX.out]
              rw [HI.out] at hfin
              simp only [Prod.mk.injEq] at hfin
              obtain ⟨rfl, rfl, rfl⟩ := hfin
              go_wp2
              go_ret3
              exact ⟨rfl, hb.trans (hb2.mono hb.size)⟩
            · have b1 : (x == u) = false := beq_eq_false_iff_ne.mpr hxu
              have HX := Lib.hid hxu
              clear hxu
              go_wp2
              go_round
              case rel => exact ⟨k + 1, by omega, by go_num, Lib.hid (by rw [← HK.out, HD.out, if_neg HX.out]; rfl)⟩
              case measure => simp [intOf]; omega
          · go_wp2
            go_roundw
            case rel =>
              refine ⟨i + 1, by omega, by go_num, Lib.hid ?_, hb.trans (hb2.mono hb.size)⟩
              have hn : idxFrom (jisRow ((i : Int) + 1)) u 1 = none := by
                rw [← HK.out, List.drop_eq_nil_of_le (by rw [HL.out]; omega)]; rfl
              rw [← HI.out, show 94 - i = (94 - (i + 1)) + 1 by omega, placeFrom, hn]
              rfl
            case measure => simp [intOf]; omega
    · have h94 : i = 94 := by omega
      subst h94
      have hfin := HI.out
      rw [show 94 - 94 = 0 by rfl, placeFrom] at hfin
      simp only [Prod.mk.injEq] at hfin
      obtain ⟨rfl, rfl, rfl⟩ := hfin
      go_wp2
      go_ret3
      exact ⟨rfl, hb⟩
theorem jis_Place.calls (a0 : Int) (r1 r2 : Int) (r3 : Bool) (w : World) (h : jis_Place.f a0 = some (r1, r2, r3)) :
    Calls Try.prog 46 #[.int .i32 a0] w fun e w' => e = .returned (.tuple #[.int .i64 r1, .int .i64 r2, .bool r3]) ∧ Below w.heap.size w w' := by
  unfold jis_Place.f placeOf at h
  by_cases h1 : a0 = 65533
  · rw [if_pos h1] at h; cases h
    have b1 : (a0 == 65533) = true := beq_iff_eq.mpr h1
    clear h1
    go_enter Try.func46, Try.ntmps46
    go_wp2
    go_ret3
    exact ⟨rfl, Below.refl _ _⟩
  · rw [if_neg h1] at h
    exact jis_Place_main a0 r1 r2 r3 w (beq_eq_false_iff_ne.mpr h1) (Option.some.inj h)
set_option maxHeartbeats 1000000 in
theorem gb_Place_main (u r c : Int) (b : Bool) (w : World) (h : (u == 65533) = false) (H : placeFrom gbRow u 94 1 = (r, c, b)) :
    Calls Try.prog 52 #[.int .i32 u] w fun e w' => e = .returned (.tuple #[.int .i64 r, .int .i64 c, .bool b]) ∧ Below w.heap.size w w' := by
  have HH := Lib.hid H
  clear H
  go_enter Try.func52, Try.ntmps52
  go_wp2_with fail
  go_loopw [10] (fun v10 wr => ∃ i : Nat, i ≤ 94 ∧ v10 = .int .i64 i ∧ Hid (placeFrom gbRow u (94 - i) (i + 1) = (r, c, b)) ∧ Below w.heap.size w wr) (fun v10 _ => 94 - (intOf v10).toNat)
  case atStart => exact ⟨0, by omega, rfl, HH, Below.refl _ _⟩
  case round =>
    obtain ⟨i, hi, rfl, HI, hb⟩ := hrel
    clear HH
    by_cases hlt : i < 94
    · by_cases hr : gbRow (i + 1) = []
      · have HR := Lib.hid hr
        clear hr
        go_wp2_with (go_at_call 82; refine (gb_listOf_none _ _ HR.out).mono ?_; rintro e w' ⟨rfl, rfl⟩)
        go_roundw
        case rel => exact ⟨i + 1, by omega, by go_num, Lib.hid (by rw [← HI.out, show 94 - i = (94 - (i + 1)) + 1 by omega, placeFrom_skip _ _ _ _ HR.out]; rfl), hb⟩
        case measure => simp [intOf]; omega
      · have HR := Lib.hid hr
        clear hr
        go_wp2_with (go_at_call 82; refine (gb_listOf_cells _ _ HR.out).mono ?_; rintro e w' ⟨B, rfl, hb2, HC⟩)
        go_loop [18] (fun v18 => ∃ k : Nat, k ≤ 94 ∧ v18 = .int .i64 k ∧ Hid (idxFrom ((gbRow (i + 1)).drop k) u (k + 1) = idxFrom (gbRow (i + 1)) u 1)) (fun v18 => 94 - (intOf v18).toNat)
        case atStart => exact ⟨0, by omega, rfl, Lib.hid (by simp)⟩
        case round =>
          obtain ⟨k, hk, rfl, HK⟩ := hrel
          have hlen := gbRow_len _ HR.out
          have HL := Lib.hid hlen
          clear hlen
          by_cases hk2 : k < 94
          · have hcl := HC.out k hk2
            have hu := gbRow_u16 ((i : Int) + 1) k
            have HD := Lib.hid (idxFrom_drop (gbRow (i + 1)) u k (k + 1) (by rw [HL.out]; exact hk2))
            generalize hx : (gbRow ((i : Int) + 1)).getD k 0 = x at *
            clear hx
            obtain ⟨x0, x1⟩ := hu
            by_cases hxu : x = u
            · have b1 : (x == u) = true := beq_iff_eq.mpr hxu
              have HX := Lib.hid hxu
              clear hxu
              have hfin : placeFrom gbRow u (94 - i) (i + 1) = ((i : Int) + 1, (k : Int) + 1, true) := by
                rw [show 94 - i = (94 - (i + 1)) + 1 by omega, placeFrom, ← HK.out, HD.out, if_pos HX.out]
              rw [HI.out] at hfin
              simp only [Prod.mk.injEq] at hfin
              obtain ⟨rfl, rfl, rfl⟩ := hfin
              go_wp2
              go_ret3
              exact ⟨rfl, hb.trans (hb2.mono hb.size)⟩
            · have b1 : (x == u) = false := beq_eq_false_iff_ne.mpr hxu
              have HX := Lib.hid hxu
              clear hxu
              go_wp2
              go_round
              case rel => exact ⟨k + 1, by omega, by go_num, Lib.hid (by rw [← HK.out, HD.out, if_neg HX.out]; rfl)⟩
              case measure => simp [intOf]; omega
          · go_wp2
            go_roundw
            case rel =>
              refine ⟨i + 1, by omega, by go_num, Lib.hid ?_, hb.trans (hb2.mono hb.size)⟩
              have hn : idxFrom (gbRow ((i : Int) + 1)) u 1 = none := by
                rw [← HK.out, List.drop_eq_nil_of_le (by rw [HL.out]; omega)]; rfl
              rw [← HI.out, show 94 - i = (94 - (i + 1)) + 1 by omega, placeFrom, hn]
              rfl
            case measure => simp [intOf]; omega
    · have h94 : i = 94 := by omega
      subst h94
      have hfin := HI.out
      rw [show 94 - 94 = 0 by rfl, placeFrom] at hfin
      simp only [Prod.mk.injEq] at hfin
      obtain ⟨rfl, rfl, rfl⟩ := hfin
      go_wp2
      go_ret3
      exact ⟨rfl, hb⟩
theorem gb_Place.calls (a0 : Int) (r1 r2 : Int) (r3 : Bool) (w : World) (h : gb_Place.f a0 = some (r1, r2, r3)) :
    Calls Try.prog 52 #[.int .i32 a0] w fun e w' => e = .returned (.tuple #[.int .i64 r1, .int .i64 r2, .bool r3]) ∧ Below w.heap.size w w' := by
  unfold gb_Place.f placeOf at h
  by_cases h1 : a0 = 65533
  · rw [if_pos h1] at h; cases h
    have b1 : (a0 == 65533) = true := beq_iff_eq.mpr h1
    clear h1
    go_enter Try.func52, Try.ntmps52
    go_wp2
    go_ret3
    exact ⟨rfl, Below.refl _ _⟩
  · rw [if_neg h1] at h
    exact gb_Place_main a0 r1 r2 r3 w (beq_eq_false_iff_ne.mpr h1) (Option.some.inj h)
set_option maxHeartbeats 1000000 in
theorem ksc_Place_main (u r c : Int) (b : Bool) (w : World) (h : (u == 65533) = false) (H : placeFrom kscRow u 94 1 = (r, c, b)) :
    Calls Try.prog 91 #[.int .i32 u] w fun e w' => e = .returned (.tuple #[.int .i64 r, .int .i64 c, .bool b]) ∧ Below w.heap.size w w' := by
  have HH := Lib.hid H
  clear H
  go_enter Try.func91, Try.ntmps91
  go_wp2_with fail
  go_loopw [10] (fun v10 wr => ∃ i : Nat, i ≤ 94 ∧ v10 = .int .i64 i ∧ Hid (placeFrom kscRow u (94 - i) (i + 1) = (r, c, b)) ∧ Below w.heap.size w wr) (fun v10 _ => 94 - (intOf v10).toNat)
  case atStart => exact ⟨0, by omega, rfl, HH, Below.refl _ _⟩
  case round =>
    obtain ⟨i, hi, rfl, HI, hb⟩ := hrel
    clear HH
    by_cases hlt : i < 94
    · by_cases hr : kscRow (i + 1) = []
      · have HR := Lib.hid hr
        clear hr
        go_wp2_with (go_at_call 115; refine (ksc_listOf_none _ _ HR.out).mono ?_; rintro e w' ⟨rfl, rfl⟩)
        go_roundw
        case rel => exact ⟨i + 1, by omega, by go_num, Lib.hid (by rw [← HI.out, show 94 - i = (94 - (i + 1)) + 1 by omega, placeFrom_skip _ _ _ _ HR.out]; rfl), hb⟩
        case measure => simp [intOf]; omega
      · have HR := Lib.hid hr
        clear hr
        go_wp2_with (go_at_call 115; refine (ksc_listOf_cells _ _ HR.out).mono ?_; rintro e w' ⟨B, rfl, hb2, HC⟩)
        go_loop [18] (fun v18 => ∃ k : Nat, k ≤ 94 ∧ v18 = .int .i64 k ∧ Hid (idxFrom ((kscRow (i + 1)).drop k) u (k + 1) = idxFrom (kscRow (i + 1)) u 1)) (fun v18 => 94 - (intOf v18).toNat)
        case atStart => exact ⟨0, by omega, rfl, Lib.hid (by simp)⟩
        case round =>
          obtain ⟨k, hk, rfl, HK⟩ := hrel
          have hlen := kscRow_len _ HR.out
          have HL := Lib.hid hlen
          clear hlen
          by_cases hk2 : k < 94
          · have hcl := HC.out k hk2
            have hu := kscRow_u16 ((i : Int) + 1) k
            have HD := Lib.hid (idxFrom_drop (kscRow (i + 1)) u k (k + 1) (by rw [HL.out]; exact hk2))
            generalize hx : (kscRow ((i : Int) + 1)).getD k 0 = x at *
            clear hx
            obtain ⟨x0, x1⟩ := hu
            by_cases hxu : x = u
            · have b1 : (x == u) = true := beq_iff_eq.mpr hxu
              have HX := Lib.hid hxu
              clear hxu
              have hfin : placeFrom kscRow u (94 - i) (i + 1) = ((i : Int) + 1, (k : Int) + 1, true) := by
                rw [show 94 - i = (94 - (i + 1)) + 1 by omega, placeFrom, ← HK.out, HD.out, if_pos HX.out]
              rw [HI.out] at hfin
              simp only [Prod.mk.injEq] at hfin
              obtain ⟨rfl, rfl, rfl⟩ := hfin
              go_wp2
              go_ret3
              exact ⟨rfl, hb.trans (hb2.mono hb.size)⟩
            · have b1 : (x == u) = false := beq_eq_false_iff_ne.mpr hxu
              have HX := Lib.hid hxu
              clear hxu
              go_wp2
              go_round
              case rel => exact ⟨k + 1, by omega, by go_num, Lib.hid (by rw [← HK.out, HD.out, if_neg HX.out]; rfl)⟩
              case measure => simp [intOf]; omega
          · go_wp2
            go_roundw
            case rel =>
              refine ⟨i + 1, by omega, by go_num, Lib.hid ?_, hb.trans (hb2.mono hb.size)⟩
              have hn : idxFrom (kscRow ((i : Int) + 1)) u 1 = none := by
                rw [← HK.out, List.drop_eq_nil_of_le (by rw [HL.out]; omega)]; rfl
              rw [← HI.out, show 94 - i = (94 - (i + 1)) + 1 by omega, placeFrom, hn]
              rfl
            case measure => simp [intOf]; omega
    · have h94 : i = 94 := by omega
      subst h94
      have hfin := HI.out
      rw [show 94 - 94 = 0 by rfl, placeFrom] at hfin
      simp only [Prod.mk.injEq] at hfin
      obtain ⟨rfl, rfl, rfl⟩ := hfin
      go_wp2
      go_ret3
      exact ⟨rfl, hb⟩
theorem ksc_Place.calls (a0 : Int) (r1 r2 : Int) (r3 : Bool) (w : World) (h : ksc_Place.f a0 = some (r1, r2, r3)) :
    Calls Try.prog 91 #[.int .i32 a0] w fun e w' => e = .returned (.tuple #[.int .i64 r1, .int .i64 r2, .bool r3]) ∧ Below w.heap.size w w' := by
  unfold ksc_Place.f placeOf at h
  by_cases h1 : a0 = 65533
  · rw [if_pos h1] at h; cases h
    have b1 : (a0 == 65533) = true := beq_iff_eq.mpr h1
    clear h1
    go_enter Try.func91, Try.ntmps91
    go_wp2
    go_ret3
    exact ⟨rfl, Below.refl _ _⟩
  · rw [if_neg h1] at h
    exact ksc_Place_main a0 r1 r2 r3 w (beq_eq_false_iff_ne.mpr h1) (Option.some.inj h)
end Go.Proofs.Ytenmanionddamaa
