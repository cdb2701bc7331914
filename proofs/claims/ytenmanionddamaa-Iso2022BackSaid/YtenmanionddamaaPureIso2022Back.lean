/- For every list of scalars and either kind, what iso2022.Set and iso2022.End write of them is seven bits, and iso2022.Get reads it as these scalars, to a state that is outside. No conditions. -/
import Derived.Test.YtenmanionddamaaQdragomanlaw21Iso2022Backa
import Derived.Test.YtenmanionddamaaLIsow
import Derived.Test.YtenmanionddamaaLIsoe
import Derived.Test.YtenmanionddamaaLTokb
import Derived.Test.YtenmanionddamaaLBytes
namespace Go.Proofs.Ytenmanionddamaa.Pure
open Go.RowKit Go.Proofs.Ytenmanionddamaa.Q Go.Proofs.YtenmanionddamaaW.PrintWords Go.Proofs.YtenmanionddamaaW.PrintLast
set_option linter.unusedVariables false
set_option linter.unusedSimpArgs false
theorem bt_lt {t : ByteArray} {p rest : List Int} (ht : bytesOf t = p ++ rest) (hs : ∀ x ∈ p, 0 ≤ x ∧ x < 128) (i : Int) (h0 : 0 ≤ i) (h1 : i < p.length) : bt t i < 128 := by
  rw [← rd_bytesOf, ht]
  unfold rd
  rw [List.getD_eq_getElem?_getD, List.getElem?_append_left (by omega), List.getElem?_eq_getElem (by omega)]
  exact (hs _ (List.getElem_mem _)).2
/-- the state at the end is outside -/
def Outside (kr : Bool) (m : Int) : Prop := m = 0 ∨ kr = true ∧ m = 1
/-- the bytes of a piece are looked at; then it is taken -/
theorem back_l2 (kr : Bool) (knd : Int) (t : ByteArray) (want p rest : List Int) (n K A m1 err B : Int) (ht : bytesOf t = p ++ rest) (hs : ∀ x ∈ p, 0 ≤ x ∧ x < 128)
    (hK : K = 0 ∨ K = 1 ∧ 0 ≤ n ∧ n < want.length ∧ rd want n = A) (hn : n < 9223372036854775807) (hpl : p.length < 9223372036854775807) (d : Nat) :
    ∀ (k : Nat) (i : Int), 0 ≤ i → i ≤ p.length → (p.length : Int) - i = d → d < k →
      (∀ k', k - d - 1 ≤ k' → k' < k → dragomanlaw21_Iso2022Back.l1 k' kr knd (t.extract p.length t.size) want (if K = 1 then n + 1 else n) m1 0 0 0 = some true) → dragomanlaw21_Iso2022Back.l2 k kr knd t want n i err p.length K A B m1 0 0 0 = some true := by
  have hsz : t.size = p.length + rest.length := by rw [← bytesOf_length, ht, List.length_append]
  induction d with
  | zero =>
    intro k i h0 h1 hd hk hnext
    obtain ⟨k, rfl⟩ : ∃ m, k = m + 1 := ⟨k - 1, by omega⟩
    simp only [dragomanlaw21_Iso2022Back.l2]
    rw [if_neg (show ¬ i < (p.length : Int) by omega)]
    rcases hK with rfl | ⟨rfl, n0, n1, hA⟩
    · rw [if_neg (by decide), if_pos (by omega), if_pos (by omega)]
      have := hnext k (by omega) (by omega)
      rw [if_neg (by decide)] at this
      exact this
    · rw [if_pos rfl, if_neg (by omega), if_pos n0, if_pos n1, if_pos hA, if_pos (by omega), if_pos (by omega), w64 (x := n + 1) (by omega) (by omega)]
      have := hnext k (by omega) (by omega)
      rw [if_pos rfl] at this
      exact this
  | succ d ih =>
    intro k i h0 h1 hd hk hnext
    obtain ⟨k, rfl⟩ : ∃ m, k = m + 1 := ⟨k - 1, by omega⟩
    simp only [dragomanlaw21_Iso2022Back.l2]
    have hb := bt_lt ht hs i h0 (by omega)
    rw [if_pos (show i < (p.length : Int) by omega), if_pos h0, if_pos (show i < (t.size : Int) by omega), if_neg (show ¬ bt t i ≥ 128 by omega), w64 (x := i + 1) (by omega) (by omega)]
    exact ih k (i + 1) (by omega) (by omega) (by omega) (by omega) fun k' hk1 hk2 => hnext k' (by omega) (by omega)
/-- one round of the reading loop -/
theorem l1_step (K : Nat) (kr : Bool) (knd : Int) (t : ByteArray) (want : List Int) (n m : Int) (l : List Int) (hs : t.size < 9223372036854775807) (hl : bytesOf t = l) (h0 : 0 < t.size) : dragomanlaw21_Iso2022Back.l1 (K + 1) kr knd t want n m 0 0 0 = ((iso2022_Get.f K knd m 0 0 0 l).bind fun b => (if b.1 = 0 then (if b.2.1 < 1 then (dragomanlaw21_Iso2022Back.j4 K kr knd t want n true b.1 b.2.1 b.2.2.1 b.2.2.2.1 b.2.2.2.2.1 b.2.2.2.2.2.1 b.2.2.2.2.2.2.1 b.2.2.2.2.2.2.2.1 b.2.2.2.2.2.2.2.2) else (if b.2.1 > (t.size : Int) then (dragomanlaw21_Iso2022Back.j4 K kr knd t want n true b.1 b.2.1 b.2.2.1 b.2.2.2.1 b.2.2.2.2.1 b.2.2.2.2.2.1 b.2.2.2.2.2.2.1 b.2.2.2.2.2.2.2.1 b.2.2.2.2.2.2.2.2) else (dragomanlaw21_Iso2022Back.j4 K kr knd t want n (decide (b.2.2.1 > 1)) b.1 b.2.1 b.2.2.1 b.2.2.2.1 b.2.2.2.2.1 b.2.2.2.2.2.1 b.2.2.2.2.2.2.1 b.2.2.2.2.2.2.2.1 b.2.2.2.2.2.2.2.2))) else (dragomanlaw21_Iso2022Back.j4 K kr knd t want n true b.1 b.2.1 b.2.2.1 b.2.2.2.1 b.2.2.2.2.1 b.2.2.2.2.2.1 b.2.2.2.2.2.2.1 b.2.2.2.2.2.2.2.1 b.2.2.2.2.2.2.2.2))) := by
  simp only [dragomanlaw21_Iso2022Back.l1]
  rw [if_pos (show (t.size : Int) > 0 by omega), show strbytes.f t = some (bytesOf t) by unfold strbytes.f; rw [if_pos (by omega)], hl]
  rfl
/-- the second loop: what can be read as the rest of the scalars is -/
theorem back_l1 {knd m m2 : Int} {l us : List Int} (kr : Bool) (h : Toks knd m l m2 us) : ∀ (t : ByteArray) (want : List Int) (n : Nat) (k : Nat), Outside kr m2 → bytesOf t = l → want.drop n = us → n ≤ want.length → want.length < 9223372036854775807 → t.size < 9223372036854775807 → 4 * t.size + 20 < k → dragomanlaw21_Iso2022Back.l1 k kr knd t want n m 0 0 0 = some true := by
  induction h with
  | nil m =>
    intro t want n k hm ht hw hn hl hs hk
    obtain ⟨k, rfl⟩ : ∃ j, k = j + 1 := ⟨k - 1, by omega⟩
    have hz : t.size = 0 := by rw [← bytesOf_length, ht]; rfl
    have hnl : n = want.length := by
      have := congrArg List.length hw
      rw [List.length_drop] at this
      simp at this; omega
    simp only [dragomanlaw21_Iso2022Back.l1]
    rw [if_neg (by omega), if_pos (by omega)]
    rcases hm with rfl | ⟨rfl, rfl⟩
    · rfl
    · rfl
  | @cons m m1 m2 bs rest us o htk hr ih =>
    intro t want n k hm ht hw hn hl hsz hk
    obtain ⟨k, rfl⟩ : ∃ j, k = j + 1 := ⟨k - 1, by omega⟩
    have hlen : t.size = bs.length + rest.length := by rw [← bytesOf_length, ht, List.length_append]
    have hb := htk.some
    have hm4 := htk.most
    have hlow : isBytes rest := fun x hx => by
      have := hr.low x hx
      omega
    rw [l1_step k kr knd t want n m (bs ++ rest) hsz ht (by omega)]
    obtain ⟨k, rfl⟩ : ∃ j, k = j + 7 := ⟨k - 7, by omega⟩
    rw [htk.full k rest hlow]
    simp only [Option.bind_some, if_true]
    rw [if_neg (show ¬ (bs.length : Int) < 1 by omega), if_neg (show ¬ (bs.length : Int) > (t.size : Int) by omega)]
    have hx : bytesOf (t.extract bs.length t.size) = rest := by rw [bytesOf_drop, ht, List.drop_left]
    have hxs : (t.extract bs.length t.size).size = t.size - bs.length := by rw [ByteArray.size_extract]; omega
    cases o with
    | none =>
      rw [show (if (none : Option Int).isSome = true then (1 : Int) else 0) = 0 from rfl, show decide ((0 : Int) > 1) = false by decide]
      simp only [dragomanlaw21_Iso2022Back.j4, Bool.false_eq_true, if_false]
      refine back_l2 kr knd t want bs rest n 0 _ m1 0 0 ht htk.low (.inl rfl) (by omega) (by omega) bs.length (k + 6) 0 (by omega) (by omega) (by omega) (by omega) fun k' hk1 hk2 => ?_
      rw [if_neg (by decide)]
      exact ih (t.extract bs.length t.size) want n k' hm hx (by simpa using hw) hn hl (by omega) (by omega)
    | some A =>
      rw [show (if (some A : Option Int).isSome = true then (1 : Int) else 0) = 1 from rfl, show decide ((1 : Int) > 1) = false by decide, show (some A : Option Int).getD 0 = A from rfl]
      simp only [dragomanlaw21_Iso2022Back.j4, Bool.false_eq_true, if_false]
      have hw' : want.drop n = A :: us := by simpa using hw
      have hnl : n < want.length := by
        by_cases hc : n < want.length
        · exact hc
        · rw [List.drop_eq_nil_of_le (by omega)] at hw'; cases hw'
      have hA : want.getD n 0 = A ∧ want.drop (n + 1) = us := by
        rw [List.drop_eq_getElem_cons hnl] at hw'
        injection hw' with h1 h2
        exact ⟨by rw [List.getD_eq_getElem?_getD, List.getElem?_eq_getElem hnl]; exact h1, h2⟩
      refine back_l2 kr knd t want bs rest n 1 A m1 0 0 ht htk.low (.inr ⟨rfl, by omega, by omega, ?_⟩) (by omega) (by omega) bs.length (k + 6) 0 (by omega) (by omega) (by omega) (by omega) fun k' hk1 hk2 => ?_
      · unfold rd; rw [Int.toNat_natCast]; exact hA.1
      · rw [if_pos rfl]
        have := ih (t.extract bs.length t.size) want (n + 1) k' hm hx hA.2 (by omega) hl (by omega) (by omega)
        exact this
/-- what leads back -/
theorem end_toks (kr : Bool) (m : Int) (hf : isoFit m 0 0 0) : ∃ bs m', isoEnd (if kr = true then 88 else 83) m = (strOfNums bs, m', 0, 0, 0, 0) ∧ Toks (if kr = true then 88 else 83) m bs m' [] ∧ bs.length ≤ 3 ∧ Outside kr m' := by
  have hm : m = 0 ∨ m = 1 ∨ m = 2 := by have := hf.1; have := hf.2.1; omega
  have f1 : isoFit 1 0 0 0 := ⟨by decide, by decide, rfl, rfl, rfl⟩
  cases kr with
  | false =>
    rw [if_neg (by decide)]
    rcases hm with rfl | rfl | rfl
    · exact ⟨[], 0, rfl, Toks.nil 0, by simp, .inl rfl⟩
    · exact ⟨[27, 40, 66], 0, rfl, (tokEscB 1 hf).one, by simp, .inl rfl⟩
    · exact ⟨[27, 40, 66], 0, rfl, (tokEscB 2 hf).one, by simp, .inl rfl⟩
  | true =>
    rw [if_pos rfl]
    rcases hm with rfl | rfl | rfl
    · exact ⟨[], 0, rfl, Toks.nil 0, by simp, .inl rfl⟩
    · exact ⟨[], 1, rfl, Toks.nil 1, by simp, .inr ⟨rfl, rfl⟩⟩
    · exact ⟨[15], 1, rfl, (tokOne (o := none) (by decide) f1 fun k r hr => tok_si k r hr).one, by simp, .inr ⟨rfl, rfl⟩⟩
theorem bytes_str_low (t : ByteArray) (bs : List Int) (h : ∀ x ∈ bs, 0 ≤ x ∧ x < 128) : bytesOf (t ++ strOfNums bs) = bytesOf t ++ bs := by
  rw [bytesOf_append, bytesOf_str bs fun x hx => by have := h x hx; omega]
theorem kind_has (kr : Bool) : isoHas (if kr = true then 88 else 83) := by
  cases kr with
  | false => exact .inl rfl
  | true => exact .inr rfl
theorem back_end (kr : Bool) (l : List Int) (k : Nat) (t : ByteArray) (want : List Int) (i m : Int) (hk : 9990 < k) (hf : isoFit m 0 0 0) (hd : Toks (if kr = true then 88 else 83) 0 (bytesOf t) m want) (ht : t.size ≤ 1600) (hw : want.length ≤ 200) :
    dragomanlaw21_Iso2022Back.j2 k kr l (if kr = true then 88 else 83) t want i false m 0 0 0 = some true := by
  obtain ⟨k, rfl⟩ : ∃ j, k = j + 1 := ⟨k - 1, by omega⟩
  obtain ⟨bs, m', e, tk, le, ho⟩ := end_toks kr m hf
  have hz : (strOfNums bs).size = bs.length := str_size bs
  simp only [dragomanlaw21_Iso2022Back.j2, Bool.false_eq_true, if_false]
  obtain ⟨k, rfl⟩ : ∃ j, k = j + 1 := ⟨k - 1, by omega⟩
  rw [iso_End_eq, isoLook_fit (kind_has kr) hf, if_pos rfl, e]
  simp only [Option.bind_some, if_true]
  rw [if_pos (by omega)]
  have hall := hd.app tk
  rw [List.append_nil, ← bytes_str_low t bs tk.low] at hall
  exact back_l1 kr hall _ want 0 (k + 1) ho rfl rfl (by omega) (by omega) (by rw [app_size]; omega) (by rw [app_size]; omega)
/-- one round of the writing loop -/
theorem l0_step (K : Nat) (kr : Bool) (l : List Int) (knd : Int) (t : ByteArray) (want : List Int) (i m : Int) : dragomanlaw21_Iso2022Back.l0 (K + 1) kr l knd t want i m 0 0 0 = if i < (l.length : Int) then dragomanlaw21_Iso2022Back.j2 K kr l knd t want i (decide (i < 200)) m 0 0 0 else dragomanlaw21_Iso2022Back.j2 K kr l knd t want i false m 0 0 0 := by
  simp only [dragomanlaw21_Iso2022Back.l0]
theorem j2_step (K : Nat) (kr : Bool) (l : List Int) (knd : Int) (t : ByteArray) (want : List Int) (i m : Int) : dragomanlaw21_Iso2022Back.j2 (K + 1) kr l knd t want i true m 0 0 0 = if 0 ≤ i then (if i < (l.length : Int) then ((iso2022_Set.f K knd m 0 0 0 (rd l i)).bind fun b => (if b.1 = 0 then (if (b.2.1.size : Int) > 8 then (some false) else (if t.size + b.2.1.size ≤ 9223372036854775807 then (if want.length < 35184372088832 then (dragomanlaw21_Iso2022Back.l0 K kr l knd (t ++ b.2.1) (want ++ [rd l i]) (wrap64 (i + 1)) b.2.2.1 b.2.2.2.1 b.2.2.2.2.1 b.2.2.2.2.2) else (none)) else (none))) else (dragomanlaw21_Iso2022Back.l0 K kr l knd t want (wrap64 (i + 1)) m 0 0 0))) else (none)) else (none) := by
  simp only [dragomanlaw21_Iso2022Back.j2, if_true]
/-- the first loop: what is written can be read -/
theorem back_l0 (kr : Bool) (l : List Int) (hl : l.length < 9223372036854775807) (hw0 : ∀ x ∈ l, (Lit.int .i32 x).wf = true) (d : Nat) : ∀ (k : Nat) (t : ByteArray) (want : List Int) (i : Nat) (m : Int), 200 - i = d → i ≤ 200 → 10000 + 2 * d < k → isoFit m 0 0 0 → Toks (if kr = true then 88 else 83) 0 (bytesOf t) m want → t.size ≤ 8 * i → want.length ≤ i → dragomanlaw21_Iso2022Back.l0 k kr l (if kr = true then 88 else 83) t want i m 0 0 0 = some true := by
  induction d with
  | zero =>
    intro k t want i m hd hi hk hm hdec ht hw
    obtain ⟨k, rfl⟩ : ∃ j, k = j + 1 := ⟨k - 1, by omega⟩
    rw [l0_step, show decide ((i : Int) < 200) = false by simp; omega]
    split <;> exact back_end kr l k t want i m (by omega) hm hdec (by omega) (by omega)
  | succ d ih =>
    intro k t want i m hd hi hk hm hdec ht hw
    obtain ⟨k, rfl⟩ : ∃ j, k = j + 1 := ⟨k - 1, by omega⟩
    rw [l0_step]
    by_cases hil : (i : Int) < (l.length : Int)
    · rw [if_pos hil, show decide ((i : Int) < 200) = true by simp; omega]
      obtain ⟨k, rfl⟩ : ∃ j, k = j + 1 := ⟨k - 1, by omega⟩
      have hmem : rd l i ∈ l := by
        have : rd l i = l[i] := by simp [rd, show i < l.length by omega]
        rw [this]; exact List.getElem_mem _
      have hu := Go.bounds_i32 (hw0 _ hmem)
      rw [j2_step, if_pos (show (0 : Int) ≤ i by omega), if_pos hil]
      obtain ⟨k, rfl⟩ : ∃ j, k = j + 3 := ⟨k - 3, by omega⟩
      rw [iso_Set_eq k _ _ m 0 0 0 (kind_has kr) hm (by omega) (by omega)]
      simp only [Option.bind_some]
      rw [w64 (x := (i : Int) + 1) (by omega) (by omega)]
      by_cases he : (isoSet (if kr = true then 88 else 83) m (rd l i)).1 = 0
      · obtain ⟨bs, m', e, tk, le, fit⟩ := set_toks _ m (rd l i) (kind_has kr) hm he
        have hz : (strOfNums bs).size = bs.length := str_size bs
        rw [if_pos he, e]
        simp only
        rw [if_neg (by omega), if_pos (by omega), if_pos (by omega)]
        have hnext := hdec.app tk
        rw [← bytes_str_low t bs tk.low] at hnext
        exact ih (k + 3) (t ++ strOfNums bs) (want ++ [rd l i]) (i + 1) m' (by omega) (by omega) (by omega) fit hnext (by rw [app_size]; omega) (by simp; omega)
      · rw [if_neg he]
        exact ih (k + 3) t want (i + 1) m (by omega) (by omega) (by omega) hm hdec (by omega) (by omega)
    · rw [if_neg hil]
      exact back_end kr l k t want i m (by omega) hm hdec (by omega) (by omega)
theorem Iso2022Back : dragomanlaw21_Iso2022Back.Pure := by
  intro kr l hl _ hw
  refine ⟨20000 + 8, ?_⟩
  unfold dragomanlaw21_Iso2022Back.f
  rw [works21]
  simp only [Option.bind_some, if_true]
  have f0 : isoFit 0 0 0 0 := ⟨by decide, by decide, rfl, rfl, rfl⟩
  have hl9 : l.length < 9223372036854775807 := by simp only [maxLen] at hl; omega
  have key := back_l0 kr l hl9 hw 200 20007 ⟨#[]⟩ [] 0 0 (by omega) (by omega) (by omega) f0 (Toks.nil 0) (by decide) (by decide)
  have e : (if kr = true then dragomanlaw21_Iso2022Back.j0 20008 kr l 88 else dragomanlaw21_Iso2022Back.j0 20008 kr l 83) = dragomanlaw21_Iso2022Back.l0 20007 kr l (if kr = true then 88 else 83) ⟨#[]⟩ [] 0 0 0 0 0 := by
    cases kr with
    | true => rw [if_pos rfl, if_pos rfl]; simp only [dragomanlaw21_Iso2022Back.j0]
    | false => rw [if_neg (by decide), if_neg (by decide)]; simp only [dragomanlaw21_Iso2022Back.j0]
  exact e.trans key
end Go.Proofs.Ytenmanionddamaa.Pure
