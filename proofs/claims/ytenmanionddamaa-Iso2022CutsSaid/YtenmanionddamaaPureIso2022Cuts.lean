/- Plain law: what is written, cut anywhere, is read up to the cut, but for less than four bytes that wait for more. No conditions but those that the statement names. -/
import Derived.Test.YtenmanionddamaaQdragomanlaw21Iso2022Cutsa
import Derived.Test.YtenmanionddamaaLIsow
import Derived.Test.YtenmanionddamaaLTokb
import Derived.Test.YtenmanionddamaaLBytes
namespace Go.Proofs.Ytenmanionddamaa.Pure
open Go.RowKit Go.Proofs.Ytenmanionddamaa.Q Go.Proofs.YtenmanionddamaaW.PrintWords Go.Proofs.YtenmanionddamaaW.PrintLast
theorem l1_step (K : Nat) (n : Int) (x : List Int) (m : Int) : dragomanlaw21_Iso2022Cuts.l1 (K + 1) n x m 0 0 0 = if (x.length : Int) > 0 then ((iso2022_Get.f K n m 0 0 0 x).bind fun b => (if b.1 = 1 then (some (decide ((x.length : Int) < 4))) else (if b.1 = 0 then (if b.2.1 < 1 then (some false) else (if b.2.1 > (x.length : Int) then (some false) else (if 0 ≤ b.2.1 then (if b.2.1 ≤ (x.length : Int) then (dragomanlaw21_Iso2022Cuts.l1 K n (x.drop (b.2.1 : Int).toNat) b.2.2.2.2.2.1 b.2.2.2.2.2.2.1 b.2.2.2.2.2.2.2.1 b.2.2.2.2.2.2.2.2) else (none)) else (none)))) else (some false)))) else (some true) := by
  simp only [dragomanlaw21_Iso2022Cuts.l1]
theorem cut_l1 {n m m1 : Int} {a us : List Int} (h : Toks n m a m1 us) : ∀ (j k : Nat), dragomanlaw21_Iso2022Cuts.l1 (k + a.length + 8) n (a.take j) m 0 0 0 = some true := by
  induction h with
  | nil m =>
    intro j k
    rw [List.take_nil, show k + ([] : List Int).length + 8 = (k + 7) + 1 from rfl, l1_step]
    exact if_neg (by simp)
  | @cons m m1 m2 bs rest us o ht hr ih =>
    intro j k
    have hb := ht.some
    obtain ⟨q, hq⟩ : ∃ q, k + (bs ++ rest).length + 8 = (q + rest.length + 8) + 1 ∧ q = k + bs.length - 1 := ⟨k + bs.length - 1, by rw [List.length_append]; omega, rfl⟩
    rw [hq.1, l1_step]
    by_cases hj : j < bs.length
    · rw [List.take_append_of_le_length (by omega)]
      by_cases h0 : j = 0
      · subst h0; rw [List.take_zero]; exact if_neg (by simp)
      · have hl : (bs.take j).length = j := by rw [List.length_take]; omega
        rw [if_pos (by rw [hl]; omega), show q + rest.length + 8 = (q + rest.length + 1) + 7 by omega, ht.part _ j (by omega) hj]
        simp only [Option.bind_some, if_true]
        have := ht.most
        rw [hl, decide_eq_true (by omega)]
    · rw [List.take_append, List.take_of_length_le (by omega)]
      have hlow : isBytes (rest.take (j - bs.length)) := fun x hx => by
        have := hr.low x (List.mem_of_mem_take hx)
        omega
      have hlen : ((bs ++ rest.take (j - bs.length)).length : Int) ≥ bs.length := by rw [List.length_append]; omega
      rw [if_pos (by omega), show q + rest.length + 8 = (q + rest.length + 1) + 7 by omega, ht.full _ _ hlow]
      simp only [Option.bind_some]
      rw [if_neg (by decide), if_pos trivial, if_neg (by omega), if_neg (by omega), if_pos (by omega), if_pos (by omega)]
      rw [show ((bs.length : Int)).toNat = bs.length by omega, List.drop_left]
      rw [show q + rest.length + 1 + 7 = q + rest.length + 8 by omega]
      exact ih _ q
theorem bytes_str_low (t : ByteArray) (bs : List Int) (h : ∀ x ∈ bs, 0 ≤ x ∧ x < 128) : bytesOf (t ++ strOfNums bs) = bytesOf t ++ bs := by
  rw [bytesOf_append, bytesOf_str bs fun x hx => by have := h x hx; omega]
theorem bytesOf_take (t : ByteArray) (j : Nat) : bytesOf (t.extract 0 j) = (bytesOf t).take j := by
  unfold bytesOf
  rw [ByteArray.data_extract, Array.toList_extract, List.extract_eq_take_drop, List.map_take, List.map_drop, List.drop_zero, Nat.sub_zero]
theorem cuts_end (n x2 : Int) (l : List Int) (k : Nat) (t : ByteArray) (i m b c d : Int) (us : List Int) (h : Toks n 0 (bytesOf t) m us) (hs : t.size ≤ 800) : dragomanlaw21_Iso2022Cuts.j2 (k + 820) l x2 n t i false m b c d = some true := by
  have hw : 0 ≤ IntKind.u64.wrap x2 := by unfold IntKind.wrap; simp [IntKind.bits, IntKind.signed]; omega
  have hz : IntKind.u64.wrap (wrap64 ((t.size : Int) + 1)) = (t.size : Int) + 1 := by
    rw [w64 (x := (t.size : Int) + 1) (by omega) (by omega)]
    unfold IntKind.wrap; simp [IntKind.bits, IntKind.signed]; omega
  obtain ⟨K, hK⟩ : ∃ K, k + 820 = K + 1 := ⟨k + 819, rfl⟩
  rw [hK]
  simp only [dragomanlaw21_Iso2022Cuts.j2, Bool.false_eq_true, if_false]
  rw [hz, Int.tmod_eq_emod_of_nonneg hw]
  have h0 := Int.emod_nonneg (IntKind.u64.wrap x2) (show (t.size : Int) + 1 ≠ 0 by omega)
  have h1 := Int.emod_lt_of_pos (IntKind.u64.wrap x2) (show 0 < (t.size : Int) + 1 by omega)
  generalize IntKind.u64.wrap x2 % ((t.size : Int) + 1) = v at h0 h1
  rw [w64 (x := v) (by omega) (by omega), if_neg (by omega), if_pos h0, if_pos (by omega)]
  have hl : (bytesOf t).length = t.size := by simp [bytesOf]
  have hsz : (t.extract 0 v.toNat).size ≤ 800 := by rw [ByteArray.size_extract]; omega
  rw [show strbytes.f (t.extract 0 v.toNat) = some ((bytesOf t).take v.toNat) by unfold strbytes.f; rw [if_pos (by omega), bytesOf_take]]
  simp only [Option.bind_some]
  rw [show K = (k + (811 - t.size)) + (bytesOf t).length + 8 by rw [hl]; omega]
  exact cut_l1 h _ _
theorem l0_step (K : Nat) (l : List Int) (x2 n : Int) (t : ByteArray) (i a b c d : Int) : dragomanlaw21_Iso2022Cuts.l0 (K + 1) l x2 n t i a b c d = if i < (l.length : Int) then (dragomanlaw21_Iso2022Cuts.j2 K l x2 n t i (decide (i < 100)) a b c d) else (dragomanlaw21_Iso2022Cuts.j2 K l x2 n t i false a b c d) := by
  simp only [dragomanlaw21_Iso2022Cuts.l0]
theorem cuts_l0 (n x2 : Int) (l : List Int) (hn : isoHas n) (hl9 : l.length ≤ maxLen) (hw : ∀ x ∈ l, (Lit.int .i32 x).wf = true) (d : Nat) : ∀ (k : Nat) (i m : Int) (t : ByteArray) (us : List Int), 0 ≤ i → i ≤ 100 → 100 - i ≤ d → isoFit m 0 0 0 → Toks n 0 (bytesOf t) m us → (t.size : Int) ≤ 8 * i → dragomanlaw21_Iso2022Cuts.l0 (k + 2 * d + 821) l x2 n t i m 0 0 0 = some true := by
  have hlm : (l.length : Int) ≤ 9223372036854775807 := by simp only [maxLen] at hl9; omega
  induction d with
  | zero =>
    intro k i m t us h0 h9 hd hf ht hs
    obtain ⟨K, hK⟩ : ∃ K, k + 2 * 0 + 821 = (K + 820) + 1 := ⟨k, by omega⟩
    rw [hK, l0_step]
    split
    · rw [decide_eq_false (show ¬ i < 100 by omega)]; exact cuts_end n x2 l _ t i m 0 0 0 us ht (by omega)
    · exact cuts_end n x2 l _ t i m 0 0 0 us ht (by omega)
  | succ d ih =>
    intro k i m t us h0 h9 hd hf ht hs
    rw [show k + 2 * (d + 1) + 821 = ((k + 2 + 2 * d) + 820) + 1 by omega, l0_step]
    by_cases h1 : i < (l.length : Int)
    · rw [if_pos h1]
      by_cases h2 : i < 100
      · rw [decide_eq_true h2]
        have hn' : i.toNat < l.length := by omega
        have hm : rd l i ∈ l := by
          have : rd l i = l[i.toNat] := by simp [rd, hn']
          rw [this]; exact List.getElem_mem _
        have hu := Go.bounds_i32 (hw _ hm)
        have w1 : wrap64 (i + 1) = i + 1 := by unfold wrap64; omega
        rw [show k + 2 + 2 * d + 820 = (k + 2 * d + 821) + 1 by omega]
        simp only [dragomanlaw21_Iso2022Cuts.j2, if_true]
        rw [if_pos h0, if_pos h1, show k + 2 * d + 821 = (k + 2 * d + 818) + 3 by omega, iso_Set_eq _ n (rd l i) m 0 0 0 hn hf (by omega) (by omega)]
        simp only [Option.bind_some]
        rw [w1]
        by_cases h3 : (isoSet n m (rd l i)).1 = 0
        · rw [if_pos h3]
          obtain ⟨bs, m', e, tk, le, fit⟩ := set_toks n m (rd l i) hn hf h3
          have hz : (strOfNums bs).size = bs.length := str_size bs
          have hb := bytes_str_low t bs tk.low
          rw [e]
          simp only
          rw [if_pos (by omega)]
          exact ih k (i + 1) m' _ _ (by omega) (by omega) (by omega) fit (by rw [hb]; exact ht.app tk) (by rw [app_size, hz]; omega)
        · rw [if_neg h3]
          exact ih k (i + 1) m t us (by omega) (by omega) (by omega) hf ht (by omega)
      · rw [decide_eq_false h2]; exact cuts_end n x2 l _ t i m 0 0 0 us ht (by omega)
    · rw [if_neg h1]; exact cuts_end n x2 l _ t i m 0 0 0 us ht (by omega)
theorem Iso2022Cuts : dragomanlaw21_Iso2022Cuts.Pure := by
  intro a l x2 hl _ hw _
  refine ⟨(1014 + 0) + 8, ?_⟩
  unfold dragomanlaw21_Iso2022Cuts.f
  rw [works21]
  simp only [Option.bind_some, if_true]
  have f0 : isoFit 0 0 0 0 := ⟨by decide, by decide, rfl, rfl, rfl⟩
  cases a with
  | true =>
    rw [if_pos rfl]
    exact cuts_l0 88 x2 l (.inr rfl) hl hw 100 0 0 0 _ [] (by decide) (by decide) (by decide) f0 (Toks.nil 0) (by decide)
  | false =>
    rw [if_neg (by decide)]
    exact cuts_l0 83 x2 l (.inl rfl) hl hw 100 0 0 0 _ [] (by decide) (by decide) (by decide) f0 (Toks.nil 0) (by decide)
end Go.Proofs.Ytenmanionddamaa.Pure
