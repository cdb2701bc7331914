/- Plain law: a text of ASCII without shifts is itself in ISO-2022-JP, and, behind the header, in ISO-2022-KR. No conditions but those that the statement names. -/
import Derived.Test.YtenmanionddamaaQdragomanlaw21Iso2022Plaina
import Derived.Test.YtenmanionddamaaLIso
namespace Go.Proofs.Ytenmanionddamaa.Pure
open Go.RowKit Go.Proofs.Ytenmanionddamaa.Q Go.Proofs.YtenmanionddamaaW.PrintWords Go.Proofs.YtenmanionddamaaW.PrintLast
theorem prefix_no (a b : ByteArray) (x y : UInt8) (xs ys : List UInt8) (ha : a.data.toList = x :: xs) (hb : b.data.toList = y :: ys) (h : x ≠ y) : strings_HasPrefix.f a b = some false := by
  unfold strings_HasPrefix.f stringslite_HasPrefix.f
  have hs : b.size = ys.length + 1 := by
    show b.data.size = _
    rw [← Array.length_toList, hb]; rfl
  by_cases h1 : (a.size : Int) ≥ (b.size : Int)
  · rw [if_pos h1, if_pos (by omega), if_pos h1]
    simp only [Option.bind_some]
    rw [ByteArray.toList_eq, ByteArray.toList_eq, ByteArray.data_extract, Array.toList_extract, List.extract_eq_take_drop, ha, hb, hs]
    have : ((((ys.length + 1 : Nat) : Int)).toNat - 0) = ys.length + 1 := by omega
    rw [this, List.drop_zero, List.take_succ_cons]
    congr 1
    rw [beq_eq_false_iff_ne]
    intro e
    exact h (List.cons.inj e).1
  · rw [if_neg h1]; rfl
theorem str_head (c : Int) (l : List Int) : (strOfNums (c :: l)).data.toList = UInt8.ofNat c.toNat :: l.map fun n => UInt8.ofNat n.toNat := by
  rw [strOfNums_data]; rfl
theorem Get_ascii (k : Nat) (c : Int) (l : List Int) (h0 : 0 ≤ c) (h1 : c < 128) (h2 : c ≠ 27) : iso2022_Get.f (k + 3) 83 0 0 0 0 (c :: l) = some (0, 1, 1, c, 0, 0, 0, 0, 0) := by
  have hne : UInt8.ofNat c.toNat ≠ 27 := by
    intro e
    have := congrArg UInt8.toNat e
    rw [UInt8.toNat_ofNat'] at this
    simp at this
    omega
  unfold iso2022_Get.f
  rw [iso_look_eq, isoLook_fit (.inl rfl) ⟨by decide, by decide, rfl, rfl, rfl⟩]
  simp only [Option.bind_some, if_true]
  rw [show iso2022_sequences.f 83 0 = some [⟨⟨#[27, 40, 66]⟩, 0⟩, ⟨⟨#[27, 40, 74]⟩, 1⟩, ⟨⟨#[27, 36, 64]⟩, 2⟩, ⟨⟨#[27, 36, 66]⟩, 2⟩] from rfl]
  simp only [Option.bind_some, iso2022_Get.l0]
  rw [if_pos (by decide), if_pos (by decide), if_pos (by decide)]
  rw [show (rd_T79 [(⟨⟨#[27, 40, 66]⟩, 0⟩ : S79), ⟨⟨#[27, 40, 74]⟩, 1⟩, ⟨⟨#[27, 36, 64]⟩, 2⟩, ⟨⟨#[27, 36, 66]⟩, 2⟩] 0).f0 = ⟨#[27, 40, 66]⟩ from rfl]
  rw [prefix_no (strOfNums (c :: l)) ⟨#[27, 40, 66]⟩ _ 27 _ [40, 66] (str_head c l) rfl hne, prefix_no ⟨#[27, 40, 66]⟩ (strOfNums (c :: l)) 27 _ [40, 66] _ rfl (str_head c l) (fun e => hne e.symm)]
  simp only [Option.bind_some, Bool.false_eq_true, if_false]
  have e0 : rd (c :: l) 0 = c := rfl
  have hl : 0 < ((c :: l).length : Int) := by simp <;> omega
  rw [if_pos hl, e0, if_neg h2]
  simp only [iso2022_Get.j1]
  rw [if_pos hl, e0, if_neg h2, decide_eq_false (show ¬ c ≥ 128 by omega)]
  simp only [iso2022_Get.j2, Bool.false_eq_true, if_false]
  rw [if_neg (by decide)]
  unfold iso2022_japanese.f
  rw [if_pos hl, e0, if_neg (by decide), if_neg (by decide), w32 (x := c) (by omega) (by omega)]
  rfl
theorem Get_bad (k : Nat) : iso2022_Get.f (8 + k) 83 0 0 0 0 [27, 41] = some (10, 1, 0, 0, 0, 0, 0, 0, 0) := by
  induction k with
  | zero =>
    show iso2022_Get.f 8 83 0 0 0 0 [27, 41] = some (10, 1, 0, 0, 0, 0, 0, 0, 0)
    kernel_rfl
  | succ k ih => exact iso2022_Get.mono _ _ _ _ _ _ (8 + k) _ ih
theorem works21 (k : Nat) : dragomanlaw21_works.f (k + 8) = some true := by
  unfold dragomanlaw21_works.f
  rw [iso_Set_eq (k + 5) 83 12354 0 0 0 0 (.inl rfl) ⟨by decide, by decide, rfl, rfl, rfl⟩ (by decide) (by decide), iso_Set_eq (k + 5) 88 44032 0 0 0 0 (.inr rfl) ⟨by decide, by decide, rfl, rfl, rfl⟩ (by decide) (by decide), Nat.add_comm k 8, Get_bad]
  have h1 : isoSet 83 0 12354 = (0, ⟨#[27, 36, 66, 36, 34]⟩, 2, 0, 0, 0) := by decide +kernel
  have h2 : isoSet 88 0 44032 = (0, ⟨#[27, 36, 41, 67, 14, 48, 33]⟩, 2, 0, 0, 0) := by decide +kernel
  rw [h1, h2]
  simp only [Option.bind_some]
  rw [ByteArray.toList_eq, ByteArray.toList_eq]
  rfl
theorem drop_at (l : List Int) (i : Int) (h1 : i.toNat < l.length) : l.drop i.toNat = rd l i :: l.drop (i.toNat + 1) := by
  rw [List.drop_eq_getElem_cons h1]
  congr 1
  simp [rd, h1]
theorem cut_one (l : List Int) (i : Int) (h0 : 0 ≤ i) (h1 : i.toNat < l.length) : (l.take (i + 1).toNat).drop i.toNat = [rd l i] := by
  rw [show (i + 1).toNat = i.toNat + 1 by omega, List.drop_take, drop_at l i h1]
  simp
theorem rd_byte (l : List Int) (hw : ∀ x ∈ l, (Lit.int .u8 x).wf = true) (i : Int) (h1 : i.toNat < l.length) : 0 ≤ rd l i ∧ rd l i < 256 := by
  have hm : rd l i ∈ l := by
    have : rd l i = l[i.toNat] := by simp [rd, h1]
    rw [this]; exact List.getElem_mem _
  have := hw _ hm
  simp [Lit.wf, IntKind.min, IntKind.max, IntKind.signed, IntKind.bits] at this
  omega
/-- what holds at a round's head -/
def PInv (m : Int) (t x : ByteArray) : Prop := (m = 0 ∧ t = ⟨#[]⟩ ∧ x = ⟨#[]⟩) ∨ (m = 1 ∧ t = (⟨#[27, 36, 41, 67]⟩ : ByteArray) ++ x)
theorem plain_end (k : Nat) (l : List Int) (t x : ByteArray) (i m b c d : Int) (h : PInv m t x) (hs : x.size ≤ 200) : dragomanlaw21_Iso2022Plain.j1 (k + 1) l t x i false m b c d = some true := by
  simp only [dragomanlaw21_Iso2022Plain.j1, Bool.false_eq_true, if_false]
  rw [if_pos (show 4 + x.size ≤ 9223372036854775807 by omega)]
  rcases h with ⟨_, rfl, rfl⟩ | ⟨_, rfl⟩
  · rw [ByteArray.toList_eq]; rfl
  · rw [show ((⟨#[27, 36, 41, 67]⟩ : ByteArray) ++ x).toList == ((⟨#[27, 36, 41, 67]⟩ : ByteArray) ++ x).toList from beq_self_eq_true _]
    split
    · split <;> rfl
    · rfl
theorem app_assoc (a b c : ByteArray) : a ++ b ++ c = a ++ (b ++ c) := by
  apply ByteArray.ext; simp [ByteArray.data_append, Array.append_assoc]
theorem plain_l0 (l : List Int) (hl : l.length ≤ maxLen) (hw : ∀ x ∈ l, (Lit.int .u8 x).wf = true) (n : Nat) : ∀ (k : Nat) (i m : Int) (t x : ByteArray), 0 ≤ i → i ≤ 200 → 200 - i ≤ n → PInv m t x → (x.size : Int) ≤ i → dragomanlaw21_Iso2022Plain.l0 (k + 4 * n + 12) l t x i m 0 0 0 = some true := by
  have hl9 : (l.length : Int) ≤ 9223372036854775807 := by simp only [maxLen] at hl; omega
  induction n with
  | zero =>
    intro k i m t x h0 h9 hd hi hs
    simp only [dragomanlaw21_Iso2022Plain.l0]
    split
    · rw [decide_eq_false (show ¬ i < 200 by omega)]; exact plain_end _ l t x i m 0 0 0 hi (by omega)
    · exact plain_end _ l t x i m 0 0 0 hi (by omega)
  | succ n ih =>
    intro k i m t x h0 h9 hd hi hs
    rw [show k + 4 * (n + 1) + 12 = (k + 4 * n + 12) + 4 by omega]
    simp only [dragomanlaw21_Iso2022Plain.l0]
    by_cases h1 : i < (l.length : Int)
    · rw [if_pos h1]
      by_cases h2 : i < 200
      · rw [decide_eq_true h2]
        have hn : i.toNat < l.length := by omega
        obtain ⟨b0, b1⟩ := rd_byte l hw i hn
        have w1 : wrap64 (i + 1) = i + 1 := by unfold wrap64; omega
        have next : ∀ (k' : Nat) (m' : Int) (t' x' : ByteArray), PInv m' t' x' → (x'.size : Int) ≤ i + 1 → dragomanlaw21_Iso2022Plain.l0 (k' + 4 * n + 12) l t' x' (wrap64 (i + 1)) m' 0 0 0 = some true := fun k' m' t' x' hi' hs' => by
          rw [w1]; exact ih k' (i + 1) m' t' x' (by omega) (by omega) (by omega) hi' hs'
        have skip : dragomanlaw21_Iso2022Plain.j2 (k + 4 * n + 12 + 2) l t x i (rd l i) true m 0 0 0 = some true := by
          simp only [dragomanlaw21_Iso2022Plain.j2, if_true]
          rw [show k + 4 * n + 12 + 1 = (k + 1) + 4 * n + 12 by omega]
          exact next (k + 1) m t x hi (by omega)
        simp only [dragomanlaw21_Iso2022Plain.j1, if_true]
        rw [if_pos h0, if_pos h1]
        by_cases h3 : rd l i ≥ 128
        · rw [if_pos h3]; exact skip
        rw [if_neg h3]
        by_cases h4 : rd l i = 27
        · rw [if_pos h4]; rw [h4] at skip ⊢; exact skip
        rw [if_neg h4]
        by_cases h5 : rd l i = 14
        · rw [if_pos h5]; rw [h5] at skip ⊢; exact skip
        rw [if_neg h5]
        by_cases h6 : rd l i = 15
        · rw [h6] at skip ⊢; exact skip
        rw [show (rd l i == 15) = false by simpa using h6]
        have hcut := cut_one l i h0 hn
        have hdrop := drop_at l i hn
        generalize rd l i = c at b0 b1 h3 h4 h5 h6 hcut hdrop
        have hm : isoFit m 0 0 0 := by rcases hi with ⟨rfl, _⟩ | ⟨rfl, _⟩ <;> exact ⟨by decide, by decide, rfl, rfl, rfl⟩
        have s1 : isoSet 83 0 c = (0, strOfNums [c], 0, 0, 0, 0) := by
          unfold isoSet isoJp isoLed
          rw [if_neg h4, if_neg (by decide), if_pos ⟨b0, by omega⟩, if_pos rfl, empty_app]
        have s2 : isoSet 88 m c = (0, (if m = 0 then ⟨#[27, 36, 41, 67]⟩ else ⟨#[]⟩) ++ strOfNums [c], 1, 0, 0, 0) := by
          have e : (if m = 0 then 1 else m) = 1 := by rcases hi with ⟨rfl, _⟩ | ⟨rfl, _⟩ <;> rfl
          have hk : isoKr 1 c = (0, strOfNums [c], 1, 0, 0, 0) := by
            unfold isoKr isoLed
            rw [if_pos ⟨b0, by omega⟩, if_pos rfl, empty_app]
          unfold isoSet isoKor
          rw [if_neg h4, if_pos rfl, if_neg (by omega), e, hk]
          exact if_pos rfl
        simp only [dragomanlaw21_Iso2022Plain.j2, Bool.false_eq_true, if_false]
        rw [w32 (x := c) (by omega) (by omega), show k + 4 * n + 12 + 1 = (k + 4 * n + 10) + 3 by omega, iso_Set_eq _ 83 c 0 0 0 0 (.inl rfl) ⟨by decide, by decide, rfl, rfl, rfl⟩ (by omega) (by omega), s1, w1, hcut]
        simp only [Option.bind_some]
        rw [if_pos h0, if_pos (by omega), if_pos (by omega), if_neg (by simp), if_pos (by omega), hdrop, Get_ascii _ c _ b0 (by omega) h4]
        simp only [Option.bind_some]
        have hz : (strOfNums [c]).size = 1 := str_size _
        have ht : t.size ≤ 204 := by
          rcases hi with ⟨_, rfl, _⟩ | ⟨_, rfl⟩
          · decide
          · rw [app_size, show (⟨#[27, 36, 41, 67]⟩ : ByteArray).size = 4 from rfl]; omega
        have hp : ((if m = 0 then ⟨#[27, 36, 41, 67]⟩ else ⟨#[]⟩ : ByteArray) ++ strOfNums [c]).size ≤ 5 := by
          rw [app_size, hz]
          split <;> decide
        rw [show (!((0 : Int) == 0) || (!((1 : Int) == 1) || (!((1 : Int) == 1) || (!(c == c) || (!((0 : Int) == 0) || (!((0 : Int) == 0) || (!((0 : Int) == 0) || (!((0 : Int) == 0) || !((0 : Int) == 0))))))))) = false by simp]
        simp only [dragomanlaw21_Iso2022Plain.j3, Bool.false_eq_true, if_false]
        rw [w32 (x := c) (by omega) (by omega), show k + 4 * n + 10 + 2 = (k + 4 * n + 9) + 3 by omega, iso_Set_eq _ 88 c m 0 0 0 (.inr rfl) hm (by omega) (by omega), s2, w1, hcut]
        simp only [Option.bind_some, if_true]
        rw [if_neg (by simp), if_pos (by omega), if_pos h0, if_pos (by omega), if_pos (by omega), if_pos (by omega)]
        rw [show k + 4 * n + 9 + 3 = k + 4 * n + 12 by omega]
        have hx : (x ++ strOfNums [c]).size = x.size + 1 := by rw [app_size, hz]
        refine (ih k (i + 1) 1 _ _ (by omega) (by omega) (by omega) ?_ (by rw [hx]; omega))
        right
        refine ⟨rfl, ?_⟩
        rcases hi with ⟨rfl, rfl, rfl⟩ | ⟨rfl, rfl⟩
        · rw [if_pos rfl, empty_app, empty_app]
        · rw [if_neg (by decide), empty_app, app_assoc]
      · rw [decide_eq_false h2]; exact plain_end _ l t x i m 0 0 0 hi (by omega)
    · rw [if_neg h1]; exact plain_end _ l t x i m 0 0 0 hi (by omega)
theorem Iso2022Plain : dragomanlaw21_Iso2022Plain.Pure := by
  intro l0 hl _ hw
  refine ⟨(804 + 0) + 8, ?_⟩
  unfold dragomanlaw21_Iso2022Plain.f
  rw [works21]
  simp only [Option.bind_some, if_true]
  exact plain_l0 l0 hl hw 200 0 0 0 _ _ (by decide) (by decide) (by decide) (.inl ⟨rfl, rfl, rfl⟩) (by decide)
end Go.Proofs.Ytenmanionddamaa.Pure
