/- For each of the three kinds bytes below 128 are their scalars, whatever stands behind them; every other scalar has two bytes of 128 or more, or none. No conditions. -/
import Derived.Test.YtenmanionddamaaQdragomanlaw17EucPlaina
import Derived.Test.YtenmanionddamaaLEuc
import Derived.OpenShut
namespace Go.Proofs.Ytenmanionddamaa.Pure
open Go.RowKit Go.Proofs.Ytenmanionddamaa.Q Go.Proofs.YtenmanionddamaaW.PrintWords Go.Proofs.YtenmanionddamaaW.PrintLast
set_option linter.unusedVariables false
set_option linter.unusedSimpArgs false
theorem kind_of (a0 : Int) : ∃ n, (n = 81 ∨ n = 84 ∨ n = 86) ∧ 0 ≤ wrap64 (Int.tmod (IntKind.u64.wrap a0) 3) ∧ wrap64 (Int.tmod (IntKind.u64.wrap a0) 3) < (([81, 84, 86] : List Int).length : Int) ∧ rd [81, 84, 86] (wrap64 (Int.tmod (IntKind.u64.wrap a0) 3)) = n := by
  have hw : 0 ≤ IntKind.u64.wrap a0 := by unfold IntKind.wrap; simp [IntKind.bits, IntKind.signed]; omega
  rw [Int.tmod_eq_emod_of_nonneg hw]
  have h0 := Int.emod_nonneg (IntKind.u64.wrap a0) (show (3 : Int) ≠ 0 by decide)
  have h1 := Int.emod_lt_of_pos (IntKind.u64.wrap a0) (show (0 : Int) < 3 by decide)
  generalize IntKind.u64.wrap a0 % 3 = v at h0 h1
  rw [w64 (x := v) (by omega) (by omega)]
  have : v = 0 ∨ v = 1 ∨ v = 2 := by omega
  rcases this with rfl | rfl | rfl
  · exact ⟨81, .inl rfl, by decide, by decide, rfl⟩
  · exact ⟨84, .inr (.inl rfl), by decide, by decide, rfl⟩
  · exact ⟨86, .inr (.inr rfl), by decide, by decide, rfl⟩
theorem get_low (n : Int) (hn : n = 81 ∨ n = 84 ∨ n = 86) (k : Nat) (u : Int) (r : List Int) (h : 0 ≤ u ∧ u < 128) : euc_Get.f k n (u :: r) = some (0, 1, 1, u, 0, 0, 0, 0, 0) := by
  rcases hn with rfl | rfl | rfl
  · exact getjis_low k u r h
  · exact getgb_low k u r h
  · exact getksc_low k u r h
theorem set_low (n : Int) (hn : n = 81 ∨ n = 84 ∨ n = 86) (k : Nat) (u : Int) (h : 0 ≤ u ∧ u < 128) : euc_Set.f (k + 1) n u = some (0, strOfNums [u % 256], 0, 0, 0, 0) := by
  rcases hn with rfl | rfl | rfl
  · exact setjis_low k u h
  · exact setgb_low k u h
  · exact setksc_low k u h
/-- what is written of another scalar: two high bytes, or nothing -/
def HighPut (v : Int × ByteArray × Int × Int × Int × Int) : Prop := v = (11, ⟨#[]⟩, 0, 0, 0, 0) ∨ ∃ a b : Int, v = (0, strOfNums [a, b], 0, 0, 0, 0) ∧ (128 ≤ a ∧ a < 256) ∧ (128 ≤ b ∧ b < 256)
theorem high_place (R : Int → List Int) (hlen : ∀ a, R a ≠ [] → (R a).length = 94) (u : Int) (p : (placeOf R u).2.2 = true) : HighPut (0, strOfNums [(wrap64 (160 + (placeOf R u).1)) % 256, (wrap64 (160 + (placeOf R u).2.1)) % 256], 0, 0, 0, 0) := by
  obtain ⟨r1, r2, c1, c2, _⟩ := placeOf_scalar R hlen u (placeOf R u).1 (placeOf R u).2.1 (Prod.ext rfl (Prod.ext rfl p))
  refine .inr ⟨_, _, rfl, ?_, ?_⟩
  · rw [w64 (x := 160 + (placeOf R u).1) (by omega) (by omega)]; omega
  · rw [w64 (x := 160 + (placeOf R u).2.1) (by omega) (by omega)]; omega
theorem set_else (n : Int) (hn : n = 81 ∨ n = 84 ∨ n = 86) (k : Nat) (u : Int) (h0 : -2147483648 ≤ u) (h9 : u < 2147483648) (h : ¬ (0 ≤ u ∧ u < 128)) : ∃ v, euc_Set.f (k + 2) n u = some v ∧ HighPut v := by
  rcases hn with rfl | rfl | rfl
  · refine ⟨_, setjis_else k u h0 h9 h, ?_⟩
    by_cases p : (placeOf jisRow u).2.2 = true
    · rw [if_pos p]; exact high_place jisRow jisRow_len u p
    rw [if_neg p]
    by_cases q : (halfByteOf u).2 = true ∧ (halfByteOf u).1 > 128
    · rw [if_pos q]
      obtain ⟨b0, b1, _⟩ := half_of_byte u (halfByteOf u).1 (Prod.ext rfl q.1)
      exact .inr ⟨142, _, rfl, by decide, by omega⟩
    · rw [if_neg q]; exact .inl rfl
  · refine ⟨_, setgb_else k u h0 h9 h, ?_⟩
    by_cases p : (placeOf gbRow u).2.2 = true
    · rw [if_pos p]; exact high_place gbRow gbRow_len u p
    · rw [if_neg p]; exact .inl rfl
  · refine ⟨_, setksc_else k u h0 h9 h, ?_⟩
    by_cases p : (placeOf kscRow u).2.2 = true
    · rw [if_pos p]; exact high_place kscRow kscRow_len u p
    · rw [if_neg p]; exact .inl rfl
theorem bt_str (l : List Int) (h : ∀ x ∈ l, 0 ≤ x ∧ x < 256) (i : Int) : bt (strOfNums l) i = rd l i := by
  rw [← rd_bytesOf, bytesOf_str l h]
/-- what the law asks of what is written of another scalar -/
theorem high_ask (v : Int × ByteArray × Int × Int × Int × Int) (h : HighPut v) : (if (v.1 == 11 && (v.2.1.toList == ([] : List UInt8) && ((v.2.2.1 == 0 && (v.2.2.2.1 == 0 && (v.2.2.2.2.1 == 0 && (v.2.2.2.2.2 == 0))))))) = true then (some true) else (if v.1 = 0 then (if (v.2.1.size : Int) = 2 then (if 0 < (v.2.1.size : Int) then (if (bt v.2.1 0) ≥ 128 then (if 1 < (v.2.1.size : Int) then (some (decide ((bt v.2.1 1) ≥ 128))) else (none)) else (some false)) else (none)) else (some false)) else (some false))) = some true := by
  rcases h with rfl | ⟨a, b, rfl, ha, hb⟩
  · rw [if_pos]
    simp only
    rw [ByteArray.toList_eq]
    rfl
  · have hx : ∀ x ∈ [a, b], 0 ≤ x ∧ x < 256 := by
      intro x hx
      simp only [List.mem_cons, List.not_mem_nil, or_false] at hx
      omega
    have hz : (strOfNums [a, b]).size = 2 := by simp [strOfNums, ByteArray.size]
    have e0 : bt (strOfNums [a, b]) 0 = a := by rw [bt_str _ hx]; rfl
    have e1 : bt (strOfNums [a, b]) 1 = b := by rw [bt_str _ hx]; rfl
    simp only
    rw [if_neg (by simp), if_pos trivial, hz, e0, e1, if_pos (by decide), if_pos (by decide), if_pos (by omega), if_pos (by decide), decide_eq_true (by omega)]
theorem EucPlain : dragomanlaw17_EucPlain.Pure := by
  intro a0 u l _ hu hl hm hw
  refine ⟨100 + 2, ?_⟩
  have hu' := Go.bounds_i32 hu
  unfold dragomanlaw17_EucPlain.f
  rw [works17]
  simp only [Option.bind_some, if_true]
  obtain ⟨n, hn, h0, h1, e⟩ := kind_of a0
  rw [if_pos h0, if_pos h1, e]
  by_cases h : 0 ≤ u ∧ u < 128
  · rw [show 100 + 2 = 101 + 1 from rfl, set_low n hn 101 u h]
    simp only [Option.bind_some]
    rw [if_pos (show u ≥ 0 from h.1), if_pos h.2, if_pos (by simp), if_pos (by simp only [List.length_cons, List.length_nil]; omega), show u % 256 = u by omega, List.singleton_append, get_low n hn _ u l h]
    simp
  · obtain ⟨v, hv, hp⟩ := set_else n hn 100 u (by omega) (by omega) h
    rw [hv]
    simp only [Option.bind_some]
    have key := high_ask v hp
    by_cases g : u ≥ 0
    · rw [if_pos g, if_neg (by omega)]; exact key
    · rw [if_neg g]; exact key
end Go.Proofs.Ytenmanionddamaa.Pure
