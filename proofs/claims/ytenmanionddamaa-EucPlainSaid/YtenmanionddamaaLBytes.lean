/- Plain laws of texts and their bytes. Conditions: each theorem states its own. -/
import Derived.Test.YtenmanionddamaaWWords
import Derived.Laws.BytesArg
namespace Go.Proofs.Ytenmanionddamaa
open Go.RowKit Go.Proofs.YtenmanionddamaaW.PrintWords
theorem bytes_toList (xs : List Int) : (strOfNums xs).toList = xs.map fun n => UInt8.ofNat n.toNat := by rw [ByteArray.toList_eq]; rfl
theorem bytesOf_str (xs : List Int) (h : ∀ x ∈ xs, 0 ≤ x ∧ x < 256) : bytesOf (strOfNums xs) = xs := by
  unfold bytesOf
  rw [strOfNums_data, List.map_map]
  conv => rhs; rw [← List.map_id xs]
  apply List.map_congr_left
  intro x hx
  obtain ⟨h0, h1⟩ := h x hx
  simp only [Function.comp, id]
  rw [UInt8.toNat_ofNat']
  omega
theorem bytesOf_append (a b : ByteArray) : bytesOf (a ++ b) = bytesOf a ++ bytesOf b := by
  unfold bytesOf
  rw [ByteArray.data_append, Array.toList_append, List.map_append]
theorem bytesOf_drop (t : ByteArray) (n : Nat) : bytesOf (t.extract n t.size) = (bytesOf t).drop n := by
  unfold bytesOf
  rw [ByteArray.data_extract, Array.toList_extract, List.extract_eq_take_drop, List.map_take, List.map_drop, List.take_of_length_le]
  simp
end Go.Proofs.Ytenmanionddamaa
