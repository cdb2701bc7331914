import Derived.Test.YtenmanionddamaaTabRows
import Derived.Deep.QuietTactic
import Derived.BigQuiet
import Derived.Lib.Hide
import Derived.WalkSpells
namespace Go.Proofs.Ytenmanionddamaa
open Go.RowKit
set_option linter.unusedVariables false
set_option linter.unusedSimpArgs false
theorem all_u16 {l : List Int} (h : (l.all fun x => decide (0 ≤ x) && decide (x < 65536)) = true) (i : Nat) : 0 ≤ l.getD i 0 ∧ l.getD i 0 < 65536 := by
  rw [List.getD_eq_getElem?_getD]
  cases e : l[i]? with
  | none => simp
  | some x =>
    have := List.all_eq_true.1 h x (List.mem_of_getElem? e)
    simpa using this
theorem idxFrom_drop (l : List Int) (u : Int) (i : Nat) (n : Int) (h : i < l.length) : idxFrom (l.drop i) u n = if l.getD i 0 = u then some n else idxFrom (l.drop (i + 1)) u (n + 1) := by
  rw [List.drop_eq_getElem_cons h, idxFrom, List.getD_eq_getElem?_getD, List.getElem?_eq_getElem h]
  rfl

theorem jisRow_u16 (a : Int) (i : Nat) : 0 ≤ (jisRow a).getD i 0 ∧ (jisRow a).getD i 0 < 65536 := by
  rcases jisRow_cases a with rfl | rfl | rfl | rfl | rfl | rfl | rfl | rfl | rfl | ⟨_, _, _, _, _, _, _, _, _, hn⟩
  iterate 9 (exact all_u16 (by decide +kernel) i)
  rw [hn]; simp
theorem jis_listOf_cells (a : Int) (w : World) (h : jisRow a ≠ []) : Calls Try.prog 80 #[.int .i64 a] w fun e w' => ∃ B, e = .returned (.pointer (some ⟨B, 0, none⟩)) ∧ Below w.heap.size w w' ∧ Hid (∀ i, i < 94 → w'.cell? ⟨B, i, none⟩ = some (.int .u16 ((jisRow a).getD i 0))) := by
  refine (jis_listOf_some a w h).mono ?_
  rintro e w' ⟨rfl, rfl⟩
  exact ⟨_, rfl, (Below.refl _ _).alloc (Nat.le_refl _) _, Lib.hid fun i hi => rowBlock_cell w _ _ i (by rw [jisRow_len a h]; exact hi)⟩
theorem jis_listOf_cell (a : Int) (c : Nat) (v : Int) (w : World) (h : jisRow a ≠ []) (hc : c < 94) (hv : (jisRow a).getD c 0 = v) : Calls Try.prog 80 #[.int .i64 a] w fun e w' => ∃ B, e = .returned (.pointer (some ⟨B, 0, none⟩)) ∧ Below w.heap.size w w' ∧ w'.cell? ⟨B, c, none⟩ = some (.int .u16 v) := by
  refine (jis_listOf_cells a w h).mono ?_
  rintro e w' ⟨B, rfl, hb, hcl⟩
  exact ⟨B, rfl, hb, hv ▸ hcl.out c hc⟩
theorem jis_listOf_ptr (a : Int) (w : World) (h : jisRow a ≠ []) : Calls Try.prog 80 #[.int .i64 a] w fun e w' => ∃ B, e = .returned (.pointer (some ⟨B, 0, none⟩)) ∧ Below w.heap.size w w' := by
  refine (jis_listOf_cells a w h).mono ?_
  rintro e w' ⟨B, rfl, hb, hcl⟩
  exact ⟨B, rfl, hb⟩
theorem jis_Scalar_none (a c : Int) (w : World) (h : jisRow a = []) : Calls Try.prog 57 #[.int .i64 a, .int .i64 c] w fun e w' => e = .returned (.tuple #[.int .i32 0, .bool false]) ∧ Below w.heap.size w w' := by
  have HR := Lib.hid h
  clear h
  go_enter Try.func57, Try.ntmps57
  go_wp2_with (go_at_call 80; refine (jis_listOf_none _ _ HR.out).mono ?_; rintro e w' ⟨rfl, rfl⟩)
  go_ret2
  exact ⟨rfl, Below.refl _ _⟩
theorem jis_Scalar_lo (a c : Int) (w : World) (h : jisRow a ≠ []) (hc : c < 1) : Calls Try.prog 57 #[.int .i64 a, .int .i64 c] w fun e w' => e = .returned (.tuple #[.int .i32 0, .bool false]) ∧ Below w.heap.size w w' := by
  have HR := Lib.hid h
  clear h
  have d1 : decide (c < 1) = true := by simpa using hc
  go_enter Try.func57, Try.ntmps57
  go_wp2_with (go_at_call 80; refine (jis_listOf_ptr _ _ HR.out).mono ?_; rintro e w' ⟨B, rfl, hb⟩)
  go_ret2
  exact ⟨rfl, hb⟩
theorem jis_Scalar_hi (a c : Int) (w : World) (h : jisRow a ≠ []) (hc : ¬ c < 1) (hc2 : 94 < c) : Calls Try.prog 57 #[.int .i64 a, .int .i64 c] w fun e w' => e = .returned (.tuple #[.int .i32 0, .bool false]) ∧ Below w.heap.size w w' := by
  have HR := Lib.hid h
  clear h
  have d1 : decide (c < 1) = false := by simpa using hc
  have d2 : decide (94 < c) = true := by simpa using hc2
  go_enter Try.func57, Try.ntmps57
  go_wp2_with (go_at_call 80; refine (jis_listOf_ptr _ _ HR.out).mono ?_; rintro e w' ⟨B, rfl, hb⟩)
  go_ret2
  exact ⟨rfl, hb⟩
theorem jis_Scalar_miss (a : Int) (c : Nat) (w : World) (h : jisRow a ≠ []) (hc : c < 94) (hv : (jisRow a).getD c 0 = 65533) : Calls Try.prog 57 #[.int .i64 a, .int .i64 (c + 1)] w fun e w' => e = .returned (.tuple #[.int .i32 0, .bool false]) ∧ Below w.heap.size w w' := by
  have HR := Lib.hid h
  have HV := Lib.hid hv
  clear h hv
  have d1 : decide ((c : Int) + 1 < 1) = false := by simp; omega
  have d2 : decide (94 < (c : Int) + 1) = false := by simp; omega
  go_enter Try.func57, Try.ntmps57
  go_wp2_with (go_at_call 80; refine (jis_listOf_cell _ c 65533 _ HR.out hc HV.out).mono ?_; rintro e w' ⟨B, rfl, hb, hcl⟩)
  go_ret2
  exact ⟨rfl, hb⟩
theorem jis_Scalar_some (a : Int) (c : Nat) (v : Int) (w : World) (h : jisRow a ≠ []) (hc : c < 94) (hv : (jisRow a).getD c 0 = v) (h0 : 0 ≤ v) (h1 : v < 65536) (h2 : (v == 65533) = false) : Calls Try.prog 57 #[.int .i64 a, .int .i64 (c + 1)] w fun e w' => e = .returned (.tuple #[.int .i32 v, .bool true]) ∧ Below w.heap.size w w' := by
  have HR := Lib.hid h
  have HV := Lib.hid hv
  clear h hv
  have d1 : decide ((c : Int) + 1 < 1) = false := by simp; omega
  have d2 : decide (94 < (c : Int) + 1) = false := by simp; omega
  go_enter Try.func57, Try.ntmps57
  go_wp2_with (go_at_call 80; refine (jis_listOf_cell _ c v _ HR.out hc HV.out).mono ?_; rintro e w' ⟨B, rfl, hb, hcl⟩)
  go_ret2
  exact ⟨rfl, hb⟩
theorem jis_Scalar.calls (a0 a1 : Int) (r1 : Int) (r2 : Bool) (w : World) (h : jis_Scalar.f a0 a1 = some (r1, r2)) :
    Calls Try.prog 57 #[.int .i64 a0, .int .i64 a1] w fun e w' => e = .returned (.tuple #[.int .i32 r1, .bool r2]) ∧ Below w.heap.size w w' := by
  unfold jis_Scalar.f scalarOf at h
  by_cases h1 : jisRow a0 = []
  · rw [if_pos h1] at h; cases h; exact jis_Scalar_none a0 a1 w h1
  rw [if_neg h1] at h
  by_cases h2 : a1 < 1
  · rw [if_pos h2] at h; cases h; exact jis_Scalar_lo a0 a1 w h1 h2
  rw [if_neg h2] at h
  by_cases h3 : 94 < a1
  · rw [if_pos h3] at h; cases h; exact jis_Scalar_hi a0 a1 w h1 h2 h3
  rw [if_neg h3] at h
  obtain ⟨c, rfl⟩ : ∃ c : Nat, a1 = c + 1 := ⟨(a1 - 1).toNat, by omega⟩
  rw [show ((c : Int) + 1 - 1).toNat = c by omega] at h
  have hb := jisRow_u16 a0 c
  by_cases h4 : (jisRow a0).getD c 0 = 65533
  · rw [if_pos h4] at h; cases h; exact jis_Scalar_miss a0 c w h1 (by omega) h4
  · rw [if_neg h4] at h; cases h; exact jis_Scalar_some a0 c _ w h1 (by omega) rfl hb.1 hb.2 (beq_eq_false_iff_ne.mpr h4)
theorem gbRow_u16 (a : Int) (i : Nat) : 0 ≤ (gbRow a).getD i 0 ∧ (gbRow a).getD i 0 < 65536 := by
  rcases gbRow_cases a with rfl | rfl | rfl | rfl | rfl | rfl | rfl | rfl | rfl | rfl | ⟨_, _, _, _, _, _, _, _, _, _, hn⟩
  iterate 10 (exact all_u16 (by decide +kernel) i)
  rw [hn]; simp
theorem gb_listOf_cells (a : Int) (w : World) (h : gbRow a ≠ []) : Calls Try.prog 82 #[.int .i64 a] w fun e w' => ∃ B, e = .returned (.pointer (some ⟨B, 0, none⟩)) ∧ Below w.heap.size w w' ∧ Hid (∀ i, i < 94 → w'.cell? ⟨B, i, none⟩ = some (.int .u16 ((gbRow a).getD i 0))) := by
  refine (gb_listOf_some a w h).mono ?_
  rintro e w' ⟨rfl, rfl⟩
  exact ⟨_, rfl, (Below.refl _ _).alloc (Nat.le_refl _) _, Lib.hid fun i hi => rowBlock_cell w _ _ i (by rw [gbRow_len a h]; exact hi)⟩
theorem gb_listOf_cell (a : Int) (c : Nat) (v : Int) (w : World) (h : gbRow a ≠ []) (hc : c < 94) (hv : (gbRow a).getD c 0 = v) : Calls Try.prog 82 #[.int .i64 a] w fun e w' => ∃ B, e = .returned (.pointer (some ⟨B, 0, none⟩)) ∧ Below w.heap.size w w' ∧ w'.cell? ⟨B, c, none⟩ = some (.int .u16 v) := by
  refine (gb_listOf_cells a w h).mono ?_
  rintro e w' ⟨B, rfl, hb, hcl⟩
  exact ⟨B, rfl, hb, hv ▸ hcl.out c hc⟩
theorem gb_listOf_ptr (a : Int) (w : World) (h : gbRow a ≠ []) : Calls Try.prog 82 #[.int .i64 a] w fun e w' => ∃ B, e = .returned (.pointer (some ⟨B, 0, none⟩)) ∧ Below w.heap.size w w' := by
  refine (gb_listOf_cells a w h).mono ?_
  rintro e w' ⟨B, rfl, hb, hcl⟩
  exact ⟨B, rfl, hb⟩
theorem gb_Scalar_none (a c : Int) (w : World) (h : gbRow a = []) : Calls Try.prog 61 #[.int .i64 a, .int .i64 c] w fun e w' => e = .returned (.tuple #[.int .i32 0, .bool false]) ∧ Below w.heap.size w w' := by
  have HR := Lib.hid h
  clear h
  go_enter Try.func61, Try.ntmps61
  go_wp2_with (go_at_call 82; refine (gb_listOf_none _ _ HR.out).mono ?_; rintro e w' ⟨rfl, rfl⟩)
  go_ret2
  exact ⟨rfl, Below.refl _ _⟩
theorem gb_Scalar_lo (a c : Int) (w : World) (h : gbRow a ≠ []) (hc : c < 1) : Calls Try.prog 61 #[.int .i64 a, .int .i64 c] w fun e w' => e = .returned (.tuple #[.int .i32 0, .bool false]) ∧ Below w.heap.size w w' := by
  have HR := Lib.hid h
  clear h
  have d1 : decide (c < 1) = true := by simpa using hc
  go_enter Try.func61, Try.ntmps61
  go_wp2_with (go_at_call 82; refine (gb_listOf_ptr _ _ HR.out).mono ?_; rintro e w' ⟨B, rfl, hb⟩)
  go_ret2
  exact ⟨rfl, hb⟩
theorem gb_Scalar_hi (a c : Int) (w : World) (h : gbRow a ≠ []) (hc : ¬ c < 1) (hc2 : 94 < c) : Calls Try.prog 61 #[.int .i64 a, .int .i64 c] w fun e w' => e = .returned (.tuple #[.int .i32 0, .bool false]) ∧ Below w.heap.size w w' := by
  have HR := Lib.hid h
  clear h
  have d1 : decide (c < 1) = false := by simpa using hc
  have d2 : decide (94 < c) = true := by simpa using hc2
  go_enter Try.func61, Try.ntmps61
  go_wp2_with (go_at_call 82; refine (gb_listOf_ptr _ _ HR.out).mono ?_; rintro e w' ⟨B, rfl, hb⟩)
  go_ret2
  exact ⟨rfl, hb⟩
theorem gb_Scalar_miss (a : Int) (c : Nat) (w : World) (h : gbRow a ≠ []) (hc : c < 94) (hv : (gbRow a).getD c 0 = 65533) : Calls Try.prog 61 #[.int .i64 a, .int .i64 (c + 1)] w fun e w' => e = .returned (.tuple #[.int .i32 0, .bool false]) ∧ Below w.heap.size w w' := by
  have HR := Lib.hid h
  have HV := Lib.hid hv
  clear h hv
  have d1 : decide ((c : Int) + 1 < 1) = false := by simp; omega
  have d2 : decide (94 < (c : Int) + 1) = false := by simp; omega
  go_enter Try.func61, Try.ntmps61
  go_wp2_with (go_at_call 82; refine (gb_listOf_cell _ c 65533 _ HR.out hc HV.out).mono ?_; rintro e w' ⟨B, rfl, hb, hcl⟩)
  go_ret2
  exact ⟨rfl, hb⟩
theorem gb_Scalar_some (a : Int) (c : Nat) (v : Int) (w : World) (h : gbRow a ≠ []) (hc : c < 94) (hv : (gbRow a).getD c 0 = v) (h0 : 0 ≤ v) (h1 : v < 65536) (h2 : (v == 65533) = false) : Calls Try.prog 61 #[.int .i64 a, .int .i64 (c + 1)] w fun e w' => e = .returned (.tuple #[.int .i32 v, .bool true]) ∧ Below w.heap.size w w' := by
  have HR := Lib.hid h
  have HV := Lib.hid hv
  clear h hv
  have d1 : decide ((c : Int) + 1 < 1) = false := by simp; omega
  have d2 : decide (94 < (c : Int) + 1) = false := by simp; omega
  go_enter Try.func61, Try.ntmps61
  go_wp2_with (go_at_call 82; refine (gb_listOf_cell _ c v _ HR.out hc HV.out).mono ?_; rintro e w' ⟨B, rfl, hb, hcl⟩)
  go_ret2
  exact ⟨rfl, hb⟩
theorem gb_Scalar.calls (a0 a1 : Int) (r1 : Int) (r2 : Bool) (w : World) (h : gb_Scalar.f a0 a1 = some (r1, r2)) :
    Calls Try.prog 61 #[.int .i64 a0, .int .i64 a1] w fun e w' => e = .returned (.tuple #[.int .i32 r1, .bool r2]) ∧ Below w.heap.size w w' := by
  unfold gb_Scalar.f scalarOf at h
  by_cases h1 : gbRow a0 = []
  · rw [if_pos h1] at h; cases h; exact gb_Scalar_none a0 a1 w h1
  rw [if_neg h1] at h
  by_cases h2 : a1 < 1
  · rw [if_pos h2] at h; cases h; exact gb_Scalar_lo a0 a1 w h1 h2
  rw [if_neg h2] at h
  by_cases h3 : 94 < a1
  · rw [if_pos h3] at h; cases h; exact gb_Scalar_hi a0 a1 w h1 h2 h3
  rw [if_neg h3] at h
  obtain ⟨c, rfl⟩ : ∃ c : Nat, a1 = c + 1 := ⟨(a1 - 1).toNat, by omega⟩
  rw [show ((c : Int) + 1 - 1).toNat = c by omega] at h
  have hb := gbRow_u16 a0 c
  by_cases h4 : (gbRow a0).getD c 0 = 65533
  · rw [if_pos h4] at h; cases h; exact gb_Scalar_miss a0 c w h1 (by omega) h4
  · rw [if_neg h4] at h; cases h; exact gb_Scalar_some a0 c _ w h1 (by omega) rfl hb.1 hb.2 (beq_eq_false_iff_ne.mpr h4)
theorem kscRow_u16 (a : Int) (i : Nat) : 0 ≤ (kscRow a).getD i 0 ∧ (kscRow a).getD i 0 < 65536 := by
  rcases kscRow_cases a with rfl | rfl | rfl | rfl | rfl | rfl | rfl | rfl | rfl | rfl | rfl | rfl | rfl | rfl | ⟨_, _, _, _, _, _, _, _, _, _, _, _, _, _, hn⟩
  iterate 14 (exact all_u16 (by decide +kernel) i)
  rw [hn]; simp
theorem ksc_listOf_cells (a : Int) (w : World) (h : kscRow a ≠ []) : Calls Try.prog 115 #[.int .i64 a] w fun e w' => ∃ B, e = .returned (.pointer (some ⟨B, 0, none⟩)) ∧ Below w.heap.size w w' ∧ Hid (∀ i, i < 94 → w'.cell? ⟨B, i, none⟩ = some (.int .u16 ((kscRow a).getD i 0))) := by
  refine (ksc_listOf_some a w h).mono ?_
  rintro e w' ⟨rfl, rfl⟩
  exact ⟨_, rfl, (Below.refl _ _).alloc (Nat.le_refl _) _, Lib.hid fun i hi => rowBlock_cell w _ _ i (by rw [kscRow_len a h]; exact hi)⟩
theorem ksc_listOf_cell (a : Int) (c : Nat) (v : Int) (w : World) (h : kscRow a ≠ []) (hc : c < 94) (hv : (kscRow a).getD c 0 = v) : Calls Try.prog 115 #[.int .i64 a] w fun e w' => ∃ B, e = .returned (.pointer (some ⟨B, 0, none⟩)) ∧ Below w.heap.size w w' ∧ w'.cell? ⟨B, c, none⟩ = some (.int .u16 v) := by
  refine (ksc_listOf_cells a w h).mono ?_
  rintro e w' ⟨B, rfl, hb, hcl⟩
  exact ⟨B, rfl, hb, hv ▸ hcl.out c hc⟩
theorem ksc_listOf_ptr (a : Int) (w : World) (h : kscRow a ≠ []) : Calls Try.prog 115 #[.int .i64 a] w fun e w' => ∃ B, e = .returned (.pointer (some ⟨B, 0, none⟩)) ∧ Below w.heap.size w w' := by
  refine (ksc_listOf_cells a w h).mono ?_
  rintro e w' ⟨B, rfl, hb, hcl⟩
  exact ⟨B, rfl, hb⟩
theorem ksc_Scalar_none (a c : Int) (w : World) (h : kscRow a = []) : Calls Try.prog 87 #[.int .i64 a, .int .i64 c] w fun e w' => e = .returned (.tuple #[.int .i32 0, .bool false]) ∧ Below w.heap.size w w' := by
  have HR := Lib.hid h
  clear h
  go_enter Try.func87, Try.ntmps87
  go_wp2_with (go_at_call 115; refine (ksc_listOf_none _ _ HR.out).mono ?_; rintro e w' ⟨rfl, rfl⟩)
  go_ret2
  exact ⟨rfl, Below.refl _ _⟩
theorem ksc_Scalar_lo (a c : Int) (w : World) (h : kscRow a ≠ []) (hc : c < 1) : Calls Try.prog 87 #[.int .i64 a, .int .i64 c] w fun e w' => e = .returned (.tuple #[.int .i32 0, .bool false]) ∧ Below w.heap.size w w' := by
  have HR := Lib.hid h
  clear h
  have d1 : decide (c < 1) = true := by simpa using hc
  go_enter Try.func87, Try.ntmps87
  go_wp2_with (go_at_call 115; refine (ksc_listOf_ptr _ _ HR.out).mono ?_; rintro e w' ⟨B, rfl, hb⟩)
  go_ret2
  exact ⟨rfl, hb⟩
theorem ksc_Scalar_hi (a c : Int) (w : World) (h : kscRow a ≠ []) (hc : ¬ c < 1) (hc2 : 94 < c) : Calls Try.prog 87 #[.int .i64 a, .int .i64 c] w fun e w' => e = .returned (.tuple #[.int .i32 0, .bool false]) ∧ Below w.heap.size w w' := by
  have HR := Lib.hid h
  clear h
  have d1 : decide (c < 1) = false := by simpa using hc
  have d2 : decide (94 < c) = true := by simpa using hc2
  go_enter Try.func87, Try.ntmps87
  go_wp2_with (go_at_call 115; refine (ksc_listOf_ptr _ _ HR.out).mono ?_; rintro e w' ⟨B, rfl, hb⟩)
  go_ret2
  exact ⟨rfl, hb⟩
theorem ksc_Scalar_miss (a : Int) (c : Nat) (w : World) (h : kscRow a ≠ []) (hc : c < 94) (hv : (kscRow a).getD c 0 = 65533) : Calls Try.prog 87 #[.int .i64 a, .int .i64 (c + 1)] w fun e w' => e = .returned (.tuple #[.int .i32 0, .bool false]) ∧ Below w.heap.size w w' := by
  have HR := Lib.hid h
  have HV := Lib.hid hv
  clear h hv
  have d1 : decide ((c : Int) + 1 < 1) = false := by simp; omega
  have d2 : decide (94 < (c : Int) + 1) = false := by simp; omega
  go_enter Try.func87, Try.ntmps87
  go_wp2_with (go_at_call 115; refine (ksc_listOf_cell _ c 65533 _ HR.out hc HV.out).mono ?_; rintro e w' ⟨B, rfl, hb, hcl⟩)
  go_ret2
  exact ⟨rfl, hb⟩
theorem ksc_Scalar_some (a : Int) (c : Nat) (v : Int) (w : World) (h : kscRow a ≠ []) (hc : c < 94) (hv : (kscRow a).getD c 0 = v) (h0 : 0 ≤ v) (h1 : v < 65536) (h2 : (v == 65533) = false) : Calls Try.prog 87 #[.int .i64 a, .int .i64 (c + 1)] w fun e w' => e = .returned (.tuple #[.int .i32 v, .bool true]) ∧ Below w.heap.size w w' := by
  have HR := Lib.hid h
  have HV := Lib.hid hv
  clear h hv
  have d1 : decide ((c : Int) + 1 < 1) = false := by simp; omega
  have d2 : decide (94 < (c : Int) + 1) = false := by simp; omega
  go_enter Try.func87, Try.ntmps87
  go_wp2_with (go_at_call 115; refine (ksc_listOf_cell _ c v _ HR.out hc HV.out).mono ?_; rintro e w' ⟨B, rfl, hb, hcl⟩)
  go_ret2
  exact ⟨rfl, hb⟩
theorem ksc_Scalar.calls (a0 a1 : Int) (r1 : Int) (r2 : Bool) (w : World) (h : ksc_Scalar.f a0 a1 = some (r1, r2)) :
    Calls Try.prog 87 #[.int .i64 a0, .int .i64 a1] w fun e w' => e = .returned (.tuple #[.int .i32 r1, .bool r2]) ∧ Below w.heap.size w w' := by
  unfold ksc_Scalar.f scalarOf at h
  by_cases h1 : kscRow a0 = []
  · rw [if_pos h1] at h; cases h; exact ksc_Scalar_none a0 a1 w h1
  rw [if_neg h1] at h
  by_cases h2 : a1 < 1
  · rw [if_pos h2] at h; cases h; exact ksc_Scalar_lo a0 a1 w h1 h2
  rw [if_neg h2] at h
  by_cases h3 : 94 < a1
  · rw [if_pos h3] at h; cases h; exact ksc_Scalar_hi a0 a1 w h1 h2 h3
  rw [if_neg h3] at h
  obtain ⟨c, rfl⟩ : ∃ c : Nat, a1 = c + 1 := ⟨(a1 - 1).toNat, by omega⟩
  rw [show ((c : Int) + 1 - 1).toNat = c by omega] at h
  have hb := kscRow_u16 a0 c
  by_cases h4 : (kscRow a0).getD c 0 = 65533
  · rw [if_pos h4] at h; cases h; exact ksc_Scalar_miss a0 c w h1 (by omega) h4
  · rw [if_neg h4] at h; cases h; exact ksc_Scalar_some a0 c _ w h1 (by omega) rfl hb.1 hb.2 (beq_eq_false_iff_ne.mpr h4)
end Go.Proofs.Ytenmanionddamaa
