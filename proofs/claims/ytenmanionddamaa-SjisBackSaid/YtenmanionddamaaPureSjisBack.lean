/- Plain law: what is written is read again, whatever follows; what is read is written as bytes that stand for the same. No conditions but those that the statement names. -/
import Derived.Test.YtenmanionddamaaQdragomanlaw18SjisBacka
import Derived.Test.YtenmanionddamaaLSjisd
import Derived.Test.YtenmanionddamaaLPlace
import Derived.Test.YtenmanionddamaaLBytes
namespace Go.Proofs.Ytenmanionddamaa.Pure
open Go.RowKit Go.Proofs.Ytenmanionddamaa.Q Go.Proofs.YtenmanionddamaaW.PrintWords Go.Proofs.YtenmanionddamaaW.PrintLast
theorem unp_in (a b r c : Int) (h : unpOf a b = (r, c, true)) : (129 ≤ a ∧ a ≤ 159 ∨ 224 ≤ a ∧ a ≤ 239) ∧ (64 ≤ b ∧ b ≤ 252 ∧ b ≠ 127) := by
  unfold unpOf at h
  split at h
  · assumption
  · cases h
theorem set_get (u : Int) (more : List Int) (h : (sjisSet u).1 = 0) : ∃ bs : List Int, (sjisSet u) = (0, strOfNums bs, 0, 0, 0, 0) ∧ (∀ x ∈ bs, 0 ≤ x ∧ x < 256) ∧ bs.length ≤ 2 ∧ sjisGet (bs ++ more) = (0, (bs.length : Int), 1, u, 0, 0, 0, 0, 0) := by
  unfold sjisSet at h ⊢
  by_cases h1 : (halfByteOf u).2 = true
  · rw [if_pos h1]
    obtain ⟨b0, b1, hh⟩ := half_of_byte u (halfByteOf u).1 (Prod.ext rfl h1)
    generalize (halfByteOf u).1 = b at b0 b1 hh
    refine ⟨[b], rfl, fun x hx => by rw [List.mem_singleton.1 hx]; exact ⟨b0, b1⟩, by simp, ?_⟩
    unfold sjisGet
    have e0 : rd ([b] ++ more) 0 = b := rfl
    rw [if_neg (by simp), e0, if_pos, hh, if_pos rfl]
    · rfl
    · intro hl
      unfold halfOf at hh
      rw [if_neg (by omega), if_neg (by omega), if_neg (by omega), if_neg (by omega)] at hh
      cases hh
  · rw [if_neg h1] at h ⊢
    by_cases h2 : (placeOf jisRow u).2.2 = true
    · rw [if_pos h2] at h ⊢
      obtain ⟨r1, r2, c1, c2, hs⟩ := placeOf_scalar jisRow jisRow_len u (placeOf jisRow u).1 (placeOf jisRow u).2.1 (Prod.ext rfl (Prod.ext rfl h2))
      generalize (placeOf jisRow u).1 = r at r1 r2 hs
      generalize (placeOf jisRow u).2.1 = c at c1 c2 hs
      have hp : packOf r c = ((packOf r c).1, (packOf r c).2.1, true) := by rw [packOf_in r c (by omega) (by omega) (by omega) (by omega)]
      have hu := pack_unp r c _ _ r1 r2 c1 c2 hp
      generalize (packOf r c).1 = a at hu
      generalize (packOf r c).2.1 = b at hu
      obtain ⟨ha, hb⟩ := unp_in a b r c hu
      refine ⟨[a, b], rfl, fun x hx => by simp at hx; omega, by simp, ?_⟩
      unfold sjisGet
      have e0 : rd ([a, b] ++ more) 0 = a := rfl
      have e1 : rd ([a, b] ++ more) 1 = b := rfl
      rw [if_neg (by simp), e0, e1, if_neg (fun x => x ha), if_neg (by simp), if_neg (fun x => x hb), hu, hs, if_pos rfl]
      rfl
    · rw [if_neg h2] at h
      exact absurd h (by decide)
theorem get_set (l : List Int) (hw : ∀ x ∈ l, (Lit.int .u8 x).wf = true) (h : (sjisGet l).1 = 0) : (sjisSet (sjisGet l).2.2.2.1).1 = 0 ∧ (Lit.int .i32 (sjisGet l).2.2.2.1).wf = true := by
  have hb0 := rd_u8 hw 0
  have hplace : ∀ u a b, placeOf jisRow u = (a, b, true) → (sjisSet u).1 = 0 ∧ (Lit.int .i32 u).wf = true := fun u a b hp => by
    constructor
    · unfold sjisSet
      split
      · rfl
      · rw [hp, if_pos rfl]
    · by_cases ho : u < 0 ∨ 65535 < u
      · rw [placeOf_jis_out u ho] at hp; cases hp
      · simp [Lit.wf, IntKind.min, IntKind.max, IntKind.signed, IntKind.bits]; omega
  unfold sjisGet at h ⊢
  by_cases h0 : l.length = 0
  · rw [if_pos h0] at h; exact absurd h (by decide)
  rw [if_neg h0] at h ⊢
  by_cases h1 : ¬ (129 ≤ rd l 0 ∧ rd l 0 ≤ 159 ∨ 224 ≤ rd l 0 ∧ rd l 0 ≤ 239)
  · rw [if_pos h1] at h ⊢
    by_cases h2 : (halfOf (rd l 0)).2 = true
    · rw [if_pos h2] at h ⊢
      have hh := halfByte_some (halfOf (rd l 0)).1 (rd l 0) hb0.1 hb0.2 (Prod.ext rfl h2)
      have hr : 0 ≤ (halfOf (rd l 0)).1 ∧ (halfOf (rd l 0)).1 ≤ 65535 := by
        unfold halfOf
        repeat' split
        all_goals (constructor <;> simp only <;> omega)
      show (sjisSet (halfOf (rd l 0)).1).1 = 0 ∧ (Lit.int .i32 (halfOf (rd l 0)).1).wf = true
      constructor
      · unfold sjisSet
        rw [hh, if_pos rfl]
      · simp [Lit.wf, IntKind.min, IntKind.max, IntKind.signed, IntKind.bits]; omega
    · rw [if_neg h2] at h; exact absurd h (by decide)
  rw [if_neg h1] at h ⊢
  by_cases h3 : l.length = 1
  · rw [if_pos h3] at h; exact absurd h (by decide)
  rw [if_neg h3] at h ⊢
  by_cases h4 : ¬ (64 ≤ rd l 1 ∧ rd l 1 ≤ 252 ∧ rd l 1 ≠ 127)
  · rw [if_pos h4] at h; exact absurd h (by decide)
  rw [if_neg h4] at h ⊢
  have hu : (unpOf (rd l 0) (rd l 1)).2.2 = true := by
    unfold unpOf
    rw [if_pos ⟨Decidable.of_not_not h1, Decidable.of_not_not h4⟩]
  have hu2 : unpOf (rd l 0) (rd l 1) = ((unpOf (rd l 0) (rd l 1)).1, (unpOf (rd l 0) (rd l 1)).2.1, true) := Prod.ext rfl (Prod.ext rfl hu)
  obtain ⟨r1, r2, _⟩ := unp_pack _ _ _ _ hu2
  by_cases h5 : (scalarOf (jisRow (unpOf (rd l 0) (rd l 1)).1) (unpOf (rd l 0) (rd l 1)).2.1).2 = true
  · rw [if_pos h5]
    obtain ⟨a, b, hp⟩ := place_of_scalar jisRow jisRow_len _ _ _ r1 r2 (show scalarOf (jisRow (unpOf (rd l 0) (rd l 1)).1) (unpOf (rd l 0) (rd l 1)).2.1 = ((scalarOf (jisRow (unpOf (rd l 0) (rd l 1)).1) (unpOf (rd l 0) (rd l 1)).2.1).1, true) from Prod.ext rfl h5)
    exact hplace _ a b hp
  · rw [if_neg h5] at h; exact absurd h (by decide)
theorem get_no (l : List Int) : (sjisGet l).1 = 0 ∨ ((sjisGet l).1 = 1 ∧ (sjisGet l).2.1 = 0) ∨ ((sjisGet l).1 = 10 ∧ 1 ≤ (sjisGet l).2.1 ∧ (sjisGet l).2.1 ≤ 2 ∧ (sjisGet l).2.1 ≤ (l.length : Int)) := by
  unfold sjisGet
  by_cases h0 : l.length = 0
  · rw [if_pos h0]; exact .inr (.inl ⟨rfl, rfl⟩)
  rw [if_neg h0]
  split
  · split
    · exact .inl rfl
    · exact .inr (.inr ⟨rfl, by decide, by decide, by simp only; omega⟩)
  · by_cases h3 : l.length = 1
    · rw [if_pos h3]; exact .inr (.inl ⟨rfl, rfl⟩)
    rw [if_neg h3]
    split
    · exact .inr (.inr ⟨rfl, by decide, by decide, by simp only; omega⟩)
    · split
      · exact .inl rfl
      · exact .inr (.inr ⟨rfl, by decide, by decide, by simp only; omega⟩)
theorem wf_bytes {bs : List Int} (h : ∀ x ∈ bs, 0 ≤ x ∧ x < 256) : ∀ x ∈ bs, (Lit.int .u8 x).wf = true := fun x hx => by
  obtain ⟨h0, h1⟩ := h x hx
  simp [Lit.wf, IntKind.min, IntKind.max, IntKind.signed, IntKind.bits]; omega
theorem back_j0 (k : Nat) (l : List Int) (hw : ∀ x ∈ l, (Lit.int .u8 x).wf = true) : dragomanlaw18_SjisBack.j0 (k + 3) l false = some true := by
  simp only [dragomanlaw18_SjisBack.j0, Bool.false_eq_true, if_false]
  rw [sjis_Get_eq k l hw]
  simp only [Option.bind_some]
  rcases get_no l with h | ⟨h, h2⟩ | ⟨h, h2, h3, h4⟩
  · rw [if_pos h]
    obtain ⟨hs, hwf⟩ := get_set l hw h
    obtain ⟨bs, e1, e2, e3, e4⟩ := set_get _ [] hs
    rw [sjis_Set_eq k _ hwf, e1]
    simp only [Option.bind_some, if_true]
    have hsz : (strOfNums bs).size = bs.length := by simp [strOfNums, ByteArray.size]
    rw [show strbytes.f (strOfNums bs) = some bs by unfold strbytes.f; rw [hsz, if_pos (by omega), bytesOf_str bs e2]]
    simp only [Option.bind_some]
    rw [sjis_Get_eq k bs (wf_bytes e2), hsz]
    rw [List.append_nil] at e4
    rw [e4]
    simp
  · rw [if_neg (by rw [h]; decide), if_pos h, if_pos h2]
  · rw [if_neg (by rw [h]; decide), if_neg (by rw [h]; decide), if_pos h, if_pos h2, if_pos h3, decide_eq_true h4]
theorem SjisBack : dragomanlaw18_SjisBack.Pure := by
  intro u l hu hl hm hw
  refine ⟨0 + 3, ?_⟩
  unfold dragomanlaw18_SjisBack.f
  rw [works18 1, sjis_Set_eq 1 u hu]
  simp only [Option.bind_some, if_true]
  by_cases h : (sjisSet u).1 = 0
  · rw [if_pos h]
    obtain ⟨bs, e1, e2, e3, e4⟩ := set_get u l h
    have hsz : (strOfNums bs).size = bs.length := by simp [strOfNums, ByteArray.size]
    rw [e1]
    rw [show strapp.f (strOfNums bs) l = some (bs ++ l) by unfold strapp.f; rw [hsz, if_pos (by omega), bytesOf_str bs e2]]
    simp only [Option.bind_some]
    rw [sjis_Get_eq 1 (bs ++ l) (fun x hx => by
      rcases List.mem_append.1 hx with h1 | h1
      · exact wf_bytes e2 x h1
      · exact hw x h1), e4, hsz]
    simp only [Option.bind_some]
    have := back_j0 0 l hw
    simpa using this
  · rw [if_neg h]; exact back_j0 0 l hw
end Go.Proofs.Ytenmanionddamaa.Pure
