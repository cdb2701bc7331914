/- Plain laws of iso2022.Get: what it answers of what Set writes, piece by piece. Conditions: each theorem states its own. -/
import Derived.Test.YtenmanionddamaaQiso2022b
import Derived.Test.YtenmanionddamaaLIsoa
namespace Go.Proofs.Ytenmanionddamaa.Q
open Go.RowKit Go.Proofs.YtenmanionddamaaW.PrintWords Go.Proofs.YtenmanionddamaaW.PrintLast
set_option linter.unusedVariables false
set_option linter.unusedSimpArgs false
def isBytes (l : List Int) : Prop := ∀ x ∈ l, 0 ≤ x ∧ x < 256
theorem isBytes_cons {x : Int} {l : List Int} (h : isBytes (x :: l)) : (0 ≤ x ∧ x < 256) ∧ isBytes l := ⟨h x List.mem_cons_self, fun y hy => h y (List.mem_cons_of_mem _ hy)⟩
theorem u8_inj {x y : Int} (hx : 0 ≤ x ∧ x < 256) (hy : 0 ≤ y ∧ y < 256) (h : UInt8.ofNat x.toNat = UInt8.ofNat y.toNat) : x = y := by
  have := congrArg UInt8.toNat h
  rw [UInt8.toNat_ofNat', UInt8.toNat_ofNat'] at this
  omega
theorem map_u8_inj : ∀ (l s : List Int), isBytes l → isBytes s → (l.map fun n => UInt8.ofNat n.toNat) = (s.map fun n => UInt8.ofNat n.toNat) → l = s
  | [], [], _, _, _ => rfl
  | [], _ :: _, _, _, h => by simp at h
  | _ :: _, [], _, _, h => by simp at h
  | x :: l, y :: s, hl, hs, h => by
    simp only [List.map_cons, List.cons.injEq] at h
    obtain ⟨h1, h2⟩ := isBytes_cons hl
    obtain ⟨h3, h4⟩ := isBytes_cons hs
    rw [u8_inj h1 h3 h.1, map_u8_inj l s h2 h4 h.2]
theorem prefix_eq (l s : List Int) (hl : isBytes l) (hs : isBytes s) : strings_HasPrefix.f (strOfNums l) (strOfNums s) = some (s.isPrefixOf l) := by
  unfold strings_HasPrefix.f stringslite_HasPrefix.f
  rw [str_size, str_size]
  by_cases h1 : (l.length : Int) ≥ (s.length : Int)
  · rw [if_pos h1, if_pos (by omega), if_pos h1]
    simp only [Option.bind_some]
    congr 1
    rw [ByteArray.toList_eq, ByteArray.toList_eq, ByteArray.data_extract, Array.toList_extract, List.extract_eq_take_drop, strOfNums_data, strOfNums_data]
    rw [show ((s.length : Int)).toNat - 0 = s.length by omega, List.drop_zero, Bool.eq_iff_iff, beq_iff_eq, List.isPrefixOf_iff_prefix, List.prefix_iff_eq_take, ← List.map_take]
    constructor
    · intro h
      exact (map_u8_inj _ _ (fun x hx => hl x (List.mem_of_mem_take hx)) hs h).symm
    · intro h
      rw [← h]
  · rw [if_neg h1]
    simp only [Option.bind_some]
    congr 1
    symm
    rw [← Bool.not_eq_true, List.isPrefixOf_iff_prefix]
    intro h
    have := h.length_le
    omega
theorem l0_round (k : Nat) (n : Int) (l : List Int) (q : List S79) (i m : Int) (s : List Int) (md : Int) (hl : isBytes l) (hs : isBytes s) (h0 : 0 ≤ i) (h1 : i < (q.length : Int)) (h9 : i < 100) (hq : rd_T79 q i = ⟨strOfNums s, md⟩) (hne : 0 < l.length) :
    iso2022_Get.l0 (k + 1) n l (strOfNums l) q (q.length : Int) i m 0 0 0 = if s.isPrefixOf l = true then some (0, (s.length : Int), 0, 0, 0, md, 0, 0, 0) else if l.isPrefixOf s = true then some (1, 0, 0, 0, 0, 0, 0, 0, 0) else if rd l 0 = 27 then iso2022_Get.l0 k n l (strOfNums l) q (q.length : Int) (i + 1) m 0 0 0 else iso2022_Get.j1 k n l m 0 0 0 := by
  simp only [iso2022_Get.l0]
  rw [if_pos h1, if_pos h0, if_pos h1, hq]
  simp only
  rw [prefix_eq l s hl hs, prefix_eq s l hs hl, str_size]
  simp only [Option.bind_some]
  rw [if_pos (show 0 < (l.length : Int) by omega), show wrap64 (i + 1) = i + 1 by unfold wrap64; omega]
/-- the sequences of JP -/
def jpSeq : List S79 := [⟨strOfNums [27, 40, 66], 0⟩, ⟨strOfNums [27, 40, 74], 1⟩, ⟨strOfNums [27, 36, 64], 2⟩, ⟨strOfNums [27, 36, 66], 2⟩]
theorem seq_jp (m : Int) : iso2022_sequences.f 83 m = some jpSeq := rfl
theorem seq_kr (m : Int) : iso2022_sequences.f 88 m = some [⟨strOfNums [27, 36, 41, 67], mx m 1⟩] := rfl
/-- what Get answers, in JP, of bytes that are there -/
theorem Get_jp (k : Nat) (m : Int) (l : List Int) (hf : isoFit m 0 0 0) (hl : isBytes l) (hne : 0 < l.length) : iso2022_Get.f (k + 7) 83 m 0 0 0 l =
    if [27, 40, 66].isPrefixOf l = true then some (0, 3, 0, 0, 0, 0, 0, 0, 0) else if l.isPrefixOf [27, 40, 66] = true then some (1, 0, 0, 0, 0, 0, 0, 0, 0) else if rd l 0 = 27 then
    (if [27, 40, 74].isPrefixOf l = true then some (0, 3, 0, 0, 0, 1, 0, 0, 0) else if l.isPrefixOf [27, 40, 74] = true then some (1, 0, 0, 0, 0, 0, 0, 0, 0) else
    (if [27, 36, 64].isPrefixOf l = true then some (0, 3, 0, 0, 0, 2, 0, 0, 0) else if l.isPrefixOf [27, 36, 64] = true then some (1, 0, 0, 0, 0, 0, 0, 0, 0) else
    (if [27, 36, 66].isPrefixOf l = true then some (0, 3, 0, 0, 0, 2, 0, 0, 0) else if l.isPrefixOf [27, 36, 66] = true then some (1, 0, 0, 0, 0, 0, 0, 0, 0) else some (10, 1, 0, 0, 0, m, 0, 0, 0)))) else iso2022_Get.j1 (k + 6) 83 l m 0 0 0 := by
  have b : ∀ x y z : Int, 0 ≤ x ∧ x < 256 → 0 ≤ y ∧ y < 256 → 0 ≤ z ∧ z < 256 → isBytes [x, y, z] := fun x y z hx hy hz w hw => by
    simp only [List.mem_cons, List.not_mem_nil, or_false] at hw
    rcases hw with rfl | rfl | rfl <;> assumption
  unfold iso2022_Get.f
  rw [iso_look_eq, isoLook_fit (.inl rfl) hf]
  simp only [Option.bind_some, if_true]
  rw [seq_jp]
  simp only [Option.bind_some]
  rw [l0_round (k + 6) 83 l jpSeq 0 m [27, 40, 66] 0 hl (b _ _ _ (by decide) (by decide) (by decide)) (by decide) (by decide) (by decide) rfl hne]
  rw [show (([27, 40, 66] : List Int).length : Int) = 3 from rfl]
  congr 2
  by_cases h : rd l 0 = 27
  · rw [if_pos h, if_pos h]
    rw [l0_round (k + 5) 83 l jpSeq (0 + 1) m [27, 40, 74] 1 hl (b _ _ _ (by decide) (by decide) (by decide)) (by decide) (by decide) (by decide) rfl hne, if_pos h]
    rw [l0_round (k + 4) 83 l jpSeq (0 + 1 + 1) m [27, 36, 64] 2 hl (b _ _ _ (by decide) (by decide) (by decide)) (by decide) (by decide) (by decide) rfl hne, if_pos h]
    rw [l0_round (k + 3) 83 l jpSeq (0 + 1 + 1 + 1) m [27, 36, 66] 2 hl (b _ _ _ (by decide) (by decide) (by decide)) (by decide) (by decide) (by decide) rfl hne, if_pos h]
    have hend : iso2022_Get.l0 (k + 3) 83 l (strOfNums l) jpSeq (jpSeq.length : Int) (0 + 1 + 1 + 1 + 1) m 0 0 0 = some (10, 1, 0, 0, 0, m, 0, 0, 0) := by
      simp only [iso2022_Get.l0]
      rw [if_neg (by decide)]
      simp only [iso2022_Get.j1]
      rw [if_pos (show 0 < (l.length : Int) by omega), if_pos h]
      simp only [iso2022_Get.j2, if_true]
    rw [hend]
    rfl
  · rw [if_neg h, if_neg h]
/-- what Get answers, in KR, of bytes that are there -/
theorem Get_kr (k : Nat) (m : Int) (l : List Int) (hf : isoFit m 0 0 0) (hl : isBytes l) (hne : 0 < l.length) : iso2022_Get.f (k + 4) 88 m 0 0 0 l =
    if [27, 36, 41, 67].isPrefixOf l = true then some (0, 4, 0, 0, 0, mx m 1, 0, 0, 0) else if l.isPrefixOf [27, 36, 41, 67] = true then some (1, 0, 0, 0, 0, 0, 0, 0, 0) else if rd l 0 = 27 then some (10, 1, 0, 0, 0, m, 0, 0, 0) else iso2022_Get.j1 (k + 3) 88 l m 0 0 0 := by
  unfold iso2022_Get.f
  rw [iso_look_eq, isoLook_fit (.inr rfl) hf]
  simp only [Option.bind_some, if_true]
  rw [seq_kr]
  simp only [Option.bind_some]
  rw [l0_round (k + 3) 88 l [⟨strOfNums [27, 36, 41, 67], mx m 1⟩] 0 m [27, 36, 41, 67] (mx m 1) hl (fun w hw => by
    simp only [List.mem_cons, List.not_mem_nil, or_false] at hw
    rcases hw with rfl | rfl | rfl | rfl <;> decide) (by decide) (by simp) (by decide) rfl hne]
  rw [show (([27, 36, 41, 67] : List Int).length : Int) = 4 from rfl]
  congr 2
  by_cases h : rd l 0 = 27
  · rw [if_pos h, if_pos h]
    simp only [iso2022_Get.l0]
    rw [if_neg (by simp)]
    simp only [iso2022_Get.j1]
    rw [if_pos (show 0 < (l.length : Int) by omega), if_pos h]
    simp only [iso2022_Get.j2, if_true]
  · rw [if_neg h, if_neg h]
theorem Get_esc_jp (k : Nat) (m : Int) (r : List Int) (hf : isoFit m 0 0 0) (hr : isBytes r) :
    iso2022_Get.f (k + 7) 83 m 0 0 0 (27 :: 40 :: 66 :: r) = some (0, 3, 0, 0, 0, 0, 0, 0, 0) ∧ iso2022_Get.f (k + 7) 83 m 0 0 0 (27 :: 40 :: 74 :: r) = some (0, 3, 0, 0, 0, 1, 0, 0, 0) ∧ iso2022_Get.f (k + 7) 83 m 0 0 0 (27 :: 36 :: 66 :: r) = some (0, 3, 0, 0, 0, 2, 0, 0, 0) := by
  have b : ∀ x y z : Int, 0 ≤ x ∧ x < 256 → 0 ≤ y ∧ y < 256 → 0 ≤ z ∧ z < 256 → isBytes (x :: y :: z :: r) := fun x y z hx hy hz w hw => by
    simp only [List.mem_cons] at hw
    rcases hw with rfl | rfl | rfl | hw
    · exact hx
    · exact hy
    · exact hz
    · exact hr w hw
  refine ⟨?_, ?_, ?_⟩
  · rw [Get_jp k m _ hf (b _ _ _ (by decide) (by decide) (by decide)) (by simp)]
    simp [List.isPrefixOf]
  · rw [Get_jp k m _ hf (b _ _ _ (by decide) (by decide) (by decide)) (by simp)]
    simp [List.isPrefixOf, rd]
  · rw [Get_jp k m _ hf (b _ _ _ (by decide) (by decide) (by decide)) (by simp)]
    simp [List.isPrefixOf, rd]
theorem Get_more_jp (k : Nat) (m : Int) (hf : isoFit m 0 0 0) :
    iso2022_Get.f (k + 7) 83 m 0 0 0 [27] = some (1, 0, 0, 0, 0, 0, 0, 0, 0) ∧ iso2022_Get.f (k + 7) 83 m 0 0 0 [27, 40] = some (1, 0, 0, 0, 0, 0, 0, 0, 0) ∧ iso2022_Get.f (k + 7) 83 m 0 0 0 [27, 36] = some (1, 0, 0, 0, 0, 0, 0, 0, 0) := by
  have b : ∀ l : List Int, (∀ x ∈ l, x = 27 ∨ x = 40 ∨ x = 36) → isBytes l := fun l h x hx => by have := h x hx; omega
  refine ⟨?_, ?_, ?_⟩
  · rw [Get_jp k m _ hf (b _ (by simp)) (by simp)]
    simp [List.isPrefixOf, rd]
  · rw [Get_jp k m _ hf (b _ (by simp)) (by simp)]
    simp [List.isPrefixOf, rd]
  · rw [Get_jp k m _ hf (b _ (by simp)) (by simp)]
    simp [List.isPrefixOf, rd]
theorem Get_esc_kr (k : Nat) (m : Int) (r : List Int) (hf : isoFit m 0 0 0) (hr : isBytes r) : iso2022_Get.f (k + 4) 88 m 0 0 0 (27 :: 36 :: 41 :: 67 :: r) = some (0, 4, 0, 0, 0, mx m 1, 0, 0, 0) := by
  rw [Get_kr k m _ hf (fun w hw => by
    simp only [List.mem_cons] at hw
    rcases hw with rfl | rfl | rfl | rfl | hw
    · decide
    · decide
    · decide
    · decide
    · exact hr w hw) (by simp)]
  simp [List.isPrefixOf]
theorem Get_more_kr (k : Nat) (m : Int) (hf : isoFit m 0 0 0) :
    iso2022_Get.f (k + 4) 88 m 0 0 0 [27] = some (1, 0, 0, 0, 0, 0, 0, 0, 0) ∧ iso2022_Get.f (k + 4) 88 m 0 0 0 [27, 36] = some (1, 0, 0, 0, 0, 0, 0, 0, 0) ∧ iso2022_Get.f (k + 4) 88 m 0 0 0 [27, 36, 41] = some (1, 0, 0, 0, 0, 0, 0, 0, 0) := by
  have b : ∀ l : List Int, (∀ x ∈ l, x = 27 ∨ x = 41 ∨ x = 36) → isBytes l := fun l h x hx => by have := h x hx; omega
  refine ⟨?_, ?_, ?_⟩
  · rw [Get_kr k m _ hf (b _ (by simp)) (by simp)]
    simp [List.isPrefixOf, rd]
  · rw [Get_kr k m _ hf (b _ (by simp)) (by simp)]
    simp [List.isPrefixOf, rd]
  · rw [Get_kr k m _ hf (b _ (by simp)) (by simp)]
    simp [List.isPrefixOf, rd]
/-- a first byte that is no escape: no sequence -/
theorem Get_jp_plain (k : Nat) (m c : Int) (r : List Int) (hf : isoFit m 0 0 0) (hc : 0 ≤ c ∧ c < 128) (h : c ≠ 27) (hr : isBytes r) : iso2022_Get.f (k + 7) 83 m 0 0 0 (c :: r) = iso2022_Get.j1 (k + 6) 83 (c :: r) m 0 0 0 := by
  have h' : ¬ 27 = c := fun e => h e.symm
  rw [Get_jp k m _ hf (fun w hw => by
    rcases List.mem_cons.1 hw with rfl | hw
    · omega
    · exact hr w hw) (by simp)]
  simp [List.isPrefixOf, rd, h, h']
theorem Get_kr_plain (k : Nat) (m c : Int) (r : List Int) (hf : isoFit m 0 0 0) (hc : 0 ≤ c ∧ c < 128) (h : c ≠ 27) (hr : isBytes r) : iso2022_Get.f (k + 4) 88 m 0 0 0 (c :: r) = iso2022_Get.j1 (k + 3) 88 (c :: r) m 0 0 0 := by
  have h' : ¬ 27 = c := fun e => h e.symm
  rw [Get_kr k m _ hf (fun w hw => by
    rcases List.mem_cons.1 hw with rfl | hw
    · omega
    · exact hr w hw) (by simp)]
  simp [List.isPrefixOf, rd, h, h']
end Go.Proofs.Ytenmanionddamaa.Q
