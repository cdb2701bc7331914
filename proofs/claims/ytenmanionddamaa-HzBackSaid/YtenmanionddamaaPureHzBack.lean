/- For every list of scalars, what hz.Set and hz.End write of them is seven bits, and hz.Get reads it as these scalars, to the initial state. No conditions. -/
import Derived.Test.YtenmanionddamaaQdragomanlaw20HzBacka
import Derived.Test.YtenmanionddamaaLHzd
import Derived.Test.YtenmanionddamaaLBytes
namespace Go.Proofs.Ytenmanionddamaa.Pure
open Go.RowKit Go.Proofs.Ytenmanionddamaa.Q Go.Proofs.YtenmanionddamaaW.PrintWords Go.Proofs.YtenmanionddamaaW.PrintLast
set_option linter.unusedVariables false
set_option linter.unusedSimpArgs false
/-- a text is read, from a mode to a mode, as scalars -/
inductive Dec : Int → List Int → List Int → Int → Prop
  | nil (m : Int) : Dec m [] [] m
  | one {m m1 m2 A : Int} {p rest out : List Int} (hp : 0 < p.length) (hs : ∀ x ∈ p, 0 ≤ x ∧ x < 128) (hg : ∀ k l, hz_Get.f (k + 8) m 0 0 0 (p ++ l) = some (0, (p.length : Int), 1, A, 0, m1, 0, 0, 0)) (h : Dec m1 rest out m2) : Dec m (p ++ rest) (A :: out) m2
  | shift {m m1 m2 : Int} {p rest out : List Int} (hp : 0 < p.length) (hs : ∀ x ∈ p, 0 ≤ x ∧ x < 128) (hg : ∀ k l, hz_Get.f (k + 8) m 0 0 0 (p ++ l) = some (0, (p.length : Int), 0, 0, 0, m1, 0, 0, 0)) (h : Dec m1 rest out m2) : Dec m (p ++ rest) out m2
theorem Dec.append {m1 m2 m3 : Int} {t1 t2 o1 o2 : List Int} (h : Dec m1 t1 o1 m2) (h2 : Dec m2 t2 o2 m3) : Dec m1 (t1 ++ t2) (o1 ++ o2) m3 := by
  induction h with
  | nil m => exact h2
  | one hp hs hg _ ih => rw [List.append_assoc]; exact .one hp hs hg (ih h2)
  | shift hp hs hg _ ih => rw [List.append_assoc]; exact .shift hp hs hg (ih h2)
theorem Dec.last_one {m m1 A : Int} {p : List Int} (hp : 0 < p.length) (hs : ∀ x ∈ p, 0 ≤ x ∧ x < 128) (hg : ∀ k l, hz_Get.f (k + 8) m 0 0 0 (p ++ l) = some (0, (p.length : Int), 1, A, 0, m1, 0, 0, 0)) : Dec m p [A] m1 := by
  have := Dec.one hp hs hg (Dec.nil m1); rwa [List.append_nil] at this
theorem Dec.last_shift {m m1 : Int} {p : List Int} (hp : 0 < p.length) (hs : ∀ x ∈ p, 0 ≤ x ∧ x < 128) (hg : ∀ k l, hz_Get.f (k + 8) m 0 0 0 (p ++ l) = some (0, (p.length : Int), 0, 0, 0, m1, 0, 0, 0)) : Dec m p [] m1 := by
  have := Dec.shift hp hs hg (Dec.nil m1); rwa [List.append_nil] at this
/-- what stands ahead of what is written outside leads outside -/
theorem pre_dec (m : Int) (hm : m = 0 ∨ m = 1) : Dec m (bytesOf (hzPre m)) [] 0 := by
  rcases hm with rfl | rfl
  · exact .nil 0
  · exact .last_shift (p := [126, 125]) (by decide) (by decide) fun k l => hz_Get_end (k + 2) l
theorem set_dec (m u : Int) (hm : m = 0 ∨ m = 1) (h : (hzSet m u).1 = 0) : Dec m (bytesOf (hzSet m u).2.1) [u] (hzSet m u).2.2.1 ∧ ((hzSet m u).2.2.1 = 0 ∨ (hzSet m u).2.2.1 = 1) ∧ (hzSet m u).2.2.2 = (0, 0, 0) ∧ (hzSet m u).2.1.size ≤ 4 := by
  have hp := hzPre_size m
  unfold hzSet at h ⊢
  by_cases h1 : u = 126
  · subst h1
    rw [if_pos rfl]
    refine ⟨?_, .inl rfl, rfl, by rw [ByteArray.size_append]; have : (⟨#[126, 126]⟩ : ByteArray).size = 2 := rfl; omega⟩
    rw [bytesOf_append]
    exact (pre_dec m hm).append (.last_one (p := [126, 126]) (by decide) (by decide) fun k l => hz_Get_tilde (k + 5) l)
  rw [if_neg h1] at h ⊢
  by_cases h2 : 0 ≤ u ∧ u < 128
  · rw [if_pos h2]
    refine ⟨?_, .inl rfl, rfl, by rw [ByteArray.size_append, str_size]; simp; omega⟩
    dsimp only
    rw [bytesOf_append, bytesOf_str [u] (by intro x hx; rw [List.mem_singleton] at hx; omega)]
    exact (pre_dec m hm).append (.last_one (p := [u]) (by simp) (by intro x hx; rw [List.mem_singleton] at hx; omega) fun k l => hz_Get_plain (k + 5) u l h2.1 h2.2 h1)
  rw [if_neg h2] at h ⊢
  by_cases h3 : (placeOf gbRow u).2.2 = true ∧ (placeOf gbRow u).1 ≤ 87
  · rw [if_pos h3]
    obtain ⟨r1, r2, c1, c2, hsc⟩ := placeOf_scalar gbRow gbRow_len u (placeOf gbRow u).1 (placeOf gbRow u).2.1 (Prod.ext rfl (Prod.ext rfl h3.1))
    have e1 : wrap64 (32 + (placeOf gbRow u).1) % 256 = (placeOf gbRow u).1 + 32 := by rw [w64' (by omega) (by omega)]; omega
    have e2 : wrap64 (32 + (placeOf gbRow u).2.1) % 256 = (placeOf gbRow u).2.1 + 32 := by rw [w64' (by omega) (by omega)]; omega
    dsimp only
    rw [e1, e2]
    have hpair : Dec 1 (bytesOf (strOfNums [(placeOf gbRow u).1 + 32, (placeOf gbRow u).2.1 + 32])) [u] 1 := by
      rw [bytesOf_str _ (by intro x hx; simp at hx; omega)]
      exact .last_one (p := [(placeOf gbRow u).1 + 32, (placeOf gbRow u).2.1 + 32]) (by simp) (by intro x hx; simp at hx; omega) fun k l => hz_Get_pair (k + 3) _ _ u l r1 h3.2 c1 c2 hsc
    refine ⟨?_, .inr rfl, rfl, ?_⟩
    · rcases hm with rfl | rfl
      · rw [if_pos rfl, bytesOf_append]
        exact (Dec.last_shift (m := 0) (m1 := 1) (p := [126, 123]) (by decide) (by decide) fun k l => hz_Get_begin (k + 4) l).append hpair
      · rw [if_neg (by decide), empty_app]; exact hpair
    · rw [ByteArray.size_append, str_size]
      split
      · have : (⟨#[126, 123]⟩ : ByteArray).size = 2 := rfl
        simp; omega
      · have : (⟨#[]⟩ : ByteArray).size = 0 := rfl
        simp; omega
  · rw [if_neg h3] at h; simp at h
theorem bt_lt {t : ByteArray} {p rest : List Int} (ht : bytesOf t = p ++ rest) (hs : ∀ x ∈ p, 0 ≤ x ∧ x < 128) (i : Int) (h0 : 0 ≤ i) (h1 : i < p.length) : bt t i < 128 := by
  rw [← rd_bytesOf, ht]
  unfold rd
  rw [List.getD_eq_getElem?_getD, List.getElem?_append_left (by omega), List.getElem?_eq_getElem (by omega)]
  exact (hs _ (List.getElem_mem _)).2
/-- the bytes of a piece are looked at; then it is taken -/
theorem back_l2 (t : ByteArray) (want p rest : List Int) (n K A m1 err B : Int) (ht : bytesOf t = p ++ rest) (hs : ∀ x ∈ p, 0 ≤ x ∧ x < 128)
    (hK : K = 0 ∨ K = 1 ∧ 0 ≤ n ∧ n < want.length ∧ rd want n = A) (hn : n < 9223372036854775807) (hpl : p.length < 9223372036854775807) (d : Nat) :
    ∀ (k : Nat) (i : Int), 0 ≤ i → i ≤ p.length → (p.length : Int) - i = d → d < k →
      (∀ k', k - d - 1 ≤ k' → k' < k → dragomanlaw20_HzBack.l1 k' (t.extract p.length t.size) want (if K = 1 then n + 1 else n) m1 0 0 0 = some true) → dragomanlaw20_HzBack.l2 k t want n i err p.length K A B m1 0 0 0 = some true := by
  have hsz : t.size = p.length + rest.length := by rw [← bytesOf_length, ht, List.length_append]
  induction d with
  | zero =>
    intro k i h0 h1 hd hk hnext
    obtain ⟨k, rfl⟩ : ∃ m, k = m + 1 := ⟨k - 1, by omega⟩
    simp only [dragomanlaw20_HzBack.l2]
    rw [if_neg (show ¬ i < (p.length : Int) by omega)]
    rcases hK with rfl | ⟨rfl, n0, n1, hA⟩
    · rw [if_neg (by decide), if_pos (by omega), if_pos (by omega)]
      have := hnext k (by omega) (by omega)
      rw [if_neg (by decide)] at this
      exact this
    · rw [if_pos rfl, if_neg (by omega), if_pos n0, if_pos n1, if_pos hA, if_pos (by omega), if_pos (by omega), w64' (x := n + 1) (by omega) (by omega)]
      have := hnext k (by omega) (by omega)
      rw [if_pos rfl] at this
      exact this
  | succ d ih =>
    intro k i h0 h1 hd hk hnext
    obtain ⟨k, rfl⟩ : ∃ m, k = m + 1 := ⟨k - 1, by omega⟩
    simp only [dragomanlaw20_HzBack.l2]
    have hb := bt_lt ht hs i h0 (by omega)
    rw [if_pos (show i < (p.length : Int) by omega), if_pos h0, if_pos (show i < (t.size : Int) by omega), if_neg (show ¬ bt t i ≥ 128 by omega), w64' (x := i + 1) (by omega) (by omega)]
    exact ih k (i + 1) (by omega) (by omega) (by omega) (by omega) fun k' hk1 hk2 => hnext k' (by omega) (by omega)
/-- the second loop: what can be read as the rest of the scalars is -/
theorem back_l1 {m m2 : Int} {l out : List Int} (h : Dec m l out m2) : ∀ (t : ByteArray) (want : List Int) (n : Nat) (k : Nat), m2 = 0 → bytesOf t = l → want.drop n = out → n ≤ want.length → want.length < 9223372036854775807 → t.size < 9223372036854775807 → 4 * t.size + 20 < k → dragomanlaw20_HzBack.l1 k t want n m 0 0 0 = some true := by
  induction h with
  | nil m =>
    intro t want n k hm ht hw hn hl hs hk
    subst hm
    obtain ⟨k, rfl⟩ : ∃ j, k = j + 1 := ⟨k - 1, by omega⟩
    have hz : t.size = 0 := by rw [← bytesOf_length, ht]; rfl
    have hnl : n = want.length := by
      have := congrArg List.length hw
      rw [List.length_drop] at this
      simp at this; omega
    simp only [dragomanlaw20_HzBack.l1]
    rw [if_neg (by omega), if_pos (by omega)]
    rfl
  | one hp hs hg _ ih =>
    rename_i m m1 m2 A p rest out _
    intro t want n k hm ht hw hn hl hsz hk
    obtain ⟨k, rfl⟩ : ∃ j, k = j + 1 := ⟨k - 1, by omega⟩
    have hlen : t.size = p.length + rest.length := by rw [← bytesOf_length, ht, List.length_append]
    have hnl : n < want.length := by
      by_cases hc : n < want.length
      · exact hc
      · rw [List.drop_eq_nil_of_le (by omega)] at hw; cases hw
    have hA : want.getD n 0 = A ∧ want.drop (n + 1) = out := by
      rw [List.drop_eq_getElem_cons hnl] at hw
      injection hw with h1 h2
      exact ⟨by rw [List.getD_eq_getElem?_getD, List.getElem?_eq_getElem hnl]; exact h1, h2⟩
    simp only [dragomanlaw20_HzBack.l1]
    rw [if_pos (show (t.size : Int) > 0 by omega), show strbytes.f t = some (bytesOf t) by unfold strbytes.f; rw [if_pos (by omega)], ht]
    obtain ⟨k, rfl⟩ : ∃ j, k = j + 8 := ⟨k - 8, by omega⟩
    simp only [Option.bind_some, hg, if_true]
    rw [if_neg (show ¬ (p.length : Int) < 1 by omega), if_neg (show ¬ (p.length : Int) > (t.size : Int) by omega), show decide ((1 : Int) > 1) = false by decide]
    simp only [dragomanlaw20_HzBack.j3, Bool.false_eq_true, if_false]
    refine back_l2 t want p rest n 1 A m1 0 0 ht hs (.inr ⟨rfl, by omega, by omega, ?_⟩) (by omega) (by omega) p.length (k + 7) 0 (by omega) (by omega) (by omega) (by omega) fun k' hk1 hk2 => ?_
    · unfold rd; rw [Int.toNat_natCast]; exact hA.1
    · rw [if_pos rfl]
      have := ih (t.extract p.length t.size) want (n + 1) k' hm (by rw [bytesOf_drop, ht, List.drop_left]) hA.2 (by omega) hl (by rw [ByteArray.size_extract]; omega) (by rw [ByteArray.size_extract]; omega)
      exact this
  | shift hp hs hg _ ih =>
    rename_i m m1 m2 p rest out _
    intro t want n k hm ht hw hn hl hsz hk
    obtain ⟨k, rfl⟩ : ∃ j, k = j + 1 := ⟨k - 1, by omega⟩
    have hlen : t.size = p.length + rest.length := by rw [← bytesOf_length, ht, List.length_append]
    simp only [dragomanlaw20_HzBack.l1]
    rw [if_pos (show (t.size : Int) > 0 by omega), show strbytes.f t = some (bytesOf t) by unfold strbytes.f; rw [if_pos (by omega)], ht]
    obtain ⟨k, rfl⟩ : ∃ j, k = j + 8 := ⟨k - 8, by omega⟩
    simp only [Option.bind_some, hg, if_true]
    rw [if_neg (show ¬ (p.length : Int) < 1 by omega), if_neg (show ¬ (p.length : Int) > (t.size : Int) by omega), show decide ((0 : Int) > 1) = false by decide]
    simp only [dragomanlaw20_HzBack.j3, Bool.false_eq_true, if_false]
    refine back_l2 t want p rest n 0 0 m1 0 0 ht hs (.inl rfl) (by omega) (by omega) p.length (k + 7) 0 (by omega) (by omega) (by omega) (by omega) fun k' hk1 hk2 => ?_
    rw [if_neg (by decide)]
    exact ih (t.extract p.length t.size) want n k' hm (by rw [bytesOf_drop, ht, List.drop_left]) hw hn hl (by rw [ByteArray.size_extract]; omega) (by rw [ByteArray.size_extract]; omega)
/-- the first loop: what is written can be read -/
theorem back_l0 (l : List Int) (hl : l.length < 9223372036854775807) (d : Nat) : ∀ (k : Nat) (t : ByteArray) (want : List Int) (i : Nat) (m : Int), 200 - i = d → i ≤ 200 → 10000 + 2 * d < k → (m = 0 ∨ m = 1) → Dec 0 (bytesOf t) want m → t.size ≤ 4 * i → want.length ≤ i → dragomanlaw20_HzBack.l0 k l t want i m 0 0 0 = some true := by
  have finish : ∀ (k : Nat) (t : ByteArray) (want : List Int) (i : Nat) (m : Int), 9990 < k → i ≤ 200 → (m = 0 ∨ m = 1) → Dec 0 (bytesOf t) want m → t.size ≤ 4 * i → want.length ≤ i → dragomanlaw20_HzBack.j1 k l t want i false m 0 0 0 = some true := by
    intro k t want i m hk hi hm hd ht hw
    obtain ⟨k, rfl⟩ : ∃ j, k = j + 1 := ⟨k - 1, by omega⟩
    have hp := hzPre_size m
    simp only [dragomanlaw20_HzBack.j1, Bool.false_eq_true, if_false]
    rw [hz_End_eq, hzEnd_fit ⟨hm, rfl, rfl, rfl⟩]
    simp only [Option.bind_some, if_true]
    rw [if_pos (by omega)]
    refine back_l1 (m := 0) (m2 := 0) (l := bytesOf (t ++ hzPre m)) (out := want) ?_ _ want 0 k rfl rfl rfl (by omega) (by omega) (by rw [ByteArray.size_append]; omega) (by rw [ByteArray.size_append]; omega)
    rw [bytesOf_append]
    have := hd.append (pre_dec m hm)
    rwa [List.append_nil] at this
  induction d with
  | zero =>
    intro k t want i m hd hi hk hm hdec ht hw
    obtain ⟨k, rfl⟩ : ∃ j, k = j + 1 := ⟨k - 1, by omega⟩
    simp only [dragomanlaw20_HzBack.l0]
    rw [show decide ((i : Int) < 200) = false by simp; omega]
    split <;> exact finish k t want i m (by omega) hi hm hdec ht hw
  | succ d ih =>
    intro k t want i m hd hi hk hm hdec ht hw
    obtain ⟨k, rfl⟩ : ∃ j, k = j + 1 := ⟨k - 1, by omega⟩
    simp only [dragomanlaw20_HzBack.l0]
    by_cases hil : (i : Int) < (l.length : Int)
    · rw [if_pos hil, show decide ((i : Int) < 200) = true by simp; omega]
      obtain ⟨k, rfl⟩ : ∃ j, k = j + 1 := ⟨k - 1, by omega⟩
      simp only [dragomanlaw20_HzBack.j1, if_true]
      obtain ⟨k, rfl⟩ : ∃ j, k = j + 2 := ⟨k - 2, by omega⟩
      rw [if_pos (show (0 : Int) ≤ i by omega), if_pos hil, hz_Set_eq k m 0 0 0 _ ⟨hm, rfl, rfl, rfl⟩]
      simp only [Option.bind_some]
      rw [w64' (x := (i : Int) + 1) (by omega) (by omega)]
      by_cases he : (hzSet m (rd l i)).1 = 0
      · obtain ⟨h1, h2, h3, h4⟩ := set_dec m (rd l i) hm he
        rw [if_pos he, if_pos (by omega), if_pos (by omega), h3]
        exact ih (k + 2) (t ++ (hzSet m (rd l i)).2.1) (want ++ [rd l i]) (i + 1) (hzSet m (rd l i)).2.2.1 (by omega) (by omega) (by omega) h2 (by rw [bytesOf_append]; exact hdec.append h1) (by rw [ByteArray.size_append]; omega) (by simp; omega)
      · rw [if_neg he]
        exact ih (k + 2) t want (i + 1) m (by omega) (by omega) (by omega) hm hdec (by omega) (by omega)
    · rw [if_neg hil]
      exact finish k t want i m (by omega) hi hm hdec ht hw
theorem HzBack : dragomanlaw20_HzBack.Pure := by
  intro l hl hm hw
  refine ⟨20000 + 8, ?_⟩
  unfold dragomanlaw20_HzBack.f
  rw [works20]
  simp only [Option.bind_some, if_true]
  exact back_l0 l (by omega) 200 _ ⟨#[]⟩ [] 0 0 (by omega) (by omega) (by omega) (.inl rfl) (.nil 0) (by decide) (by decide)
end Go.Proofs.Ytenmanionddamaa.Pure
