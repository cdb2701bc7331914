import Derived.Test.YtenmanionddamaaTabLists
import Derived.Deep.QuietTactic
import Derived.BigQuiet
import Derived.WalkSpells
import Derived.Lib.Hide
namespace Go.Proofs.Ytenmanionddamaa
open Go.RowKit Go.Proofs.YtenmanionddamaaW.PrintWords Go.Proofs.YtenmanionddamaaW.PrintLast Go.Proofs.YtenmanionddamaaW.PrintMore
set_option linter.unusedVariables false
set_option linter.unusedSimpArgs false
/-- a hexadecimal digit -/
def hexd (c : Int) : Int := if 65 ≤ c then ((c - 65) % 256) + 10 else (c - 48) % 256
/-- four digits of a text of digits -/
def hex4 (b0 b1 b2 b3 : Int) : Int := wrap32 (wrap32 (wrap32 (wrap32 (4096 * hexd b0) + wrap32 (256 * hexd b1)) + wrap32 (16 * hexd b2)) + hexd b3)
def byteAt (l : List UInt8) (i : Nat) : Int := (l.getD i 0).toNat
def hexOk : List UInt8 → List Int → Bool
  | a :: b :: c :: d :: l, v :: r => hex4 a.toNat b.toNat c.toNat d.toNat == v && hexOk l r
  | [], [] => true
  | _, _ => false
theorem hexOk_at : ∀ (c : Nat) {l : List UInt8} {r : List Int}, hexOk l r = true → c < r.length → hex4 (byteAt l (4 * c)) (byteAt l (4 * c + 1)) (byteAt l (4 * c + 2)) (byteAt l (4 * c + 3)) = r.getD c 0
  | n, a :: b :: c :: d :: l, v :: r, h, hn => by
    unfold hexOk at h
    rw [Bool.and_eq_true] at h
    obtain ⟨h1, h2⟩ := h
    match n with
    | 0 => exact by simpa [byteAt] using h1
    | n + 1 =>
      have := hexOk_at n h2 (by simpa using hn)
      simp only [byteAt, List.getD_cons_succ, show 4 * (n + 1) = 4 * n + 1 + 1 + 1 + 1 by omega, show 4 * n + 1 + 1 + 1 + 1 + 1 = (4 * n + 1) + 1 + 1 + 1 + 1 by omega, show 4 * n + 1 + 1 + 1 + 1 + 2 = (4 * n + 2) + 1 + 1 + 1 + 1 by omega, show 4 * n + 1 + 1 + 1 + 1 + 3 = (4 * n + 3) + 1 + 1 + 1 + 1 by omega]
      exact this
  | n, _, [], _, hn => absurd hn (by simp)
  | _, [], _ :: _, h, _ => by simp [hexOk] at h
  | _, [_], _ :: _, h, _ => by simp [hexOk] at h
  | _, [_, _], _ :: _, h, _ => by simp [hexOk] at h
  | _, [_, _, _], _ :: _, h, _ => by simp [hexOk] at h
theorem extract_bytes (l : List UInt8) (i : Nat) (hl : l.length = 376) (hi : i + 4 ≤ 376) (x : ByteArray) (hx : x = (⟨l.toArray⟩ : ByteArray).extract i (⟨l.toArray⟩ : ByteArray).size) :
    4 ≤ x.size ∧ (∀ h : 0 < x.size, ((x[0]'h).toNat : Int) = byteAt l i) ∧ (∀ h : 1 < x.size, ((x[1]'h).toNat : Int) = byteAt l (i + 1)) ∧ (∀ h : 2 < x.size, ((x[2]'h).toNat : Int) = byteAt l (i + 2)) ∧ (∀ h : 3 < x.size, ((x[3]'h).toNat : Int) = byteAt l (i + 3)) := by
  have hs : (⟨l.toArray⟩ : ByteArray).size = 376 := by simp [ByteArray.size, hl]
  have key : ∀ j (h : j < x.size), i + j < 376 → ((x[j]'h).toNat : Int) = byteAt l (i + j) := by
    intro j h hj
    subst hx
    have : ((⟨l.toArray⟩ : ByteArray).extract i (⟨l.toArray⟩ : ByteArray).size)[j]'h = l[i + j]'(by omega) := by
      rw [ByteArray.getElem_extract]
      rfl
    rw [this, byteAt, List.getD_eq_getElem?_getD, List.getElem?_eq_getElem (by omega)]
    rfl
  have hx4 : 4 ≤ x.size := by subst hx; rw [ByteArray.size_extract, hs]; omega
  exact ⟨hx4, fun h => key 0 h (by omega), fun h => key 1 h (by omega), fun h => key 2 h (by omega), fun h => key 3 h (by omega)⟩
theorem size_toArray (l : List UInt8) : (⟨l.toArray⟩ : ByteArray).size = l.length := by simp [ByteArray.size]
theorem toList_isEmpty (l : List UInt8) : (⟨l.toArray⟩ : ByteArray).toList.isEmpty = l.isEmpty := by
  cases l with
  | nil => rw [ByteArray.toList_eq]
  | cons a l =>
    have : (⟨(a :: l).toArray⟩ : ByteArray).toList ≠ [] := by
      intro h
      have h2 := congrArg List.length h
      rw [ByteArray.toList_eq] at h2
      simp at h2
    simp [this]
theorem ref14ok1 : ref14B1.length = 376 ∧ hexOk ref14B1 jisR1 = true := ⟨by decide +kernel, by decide +kernel⟩
theorem ref14ok2 : ref14B2.length = 376 ∧ hexOk ref14B2 jisR2 = true := ⟨by decide +kernel, by decide +kernel⟩
theorem ref14ok3 : ref14B3.length = 376 ∧ hexOk ref14B3 jisR3 = true := ⟨by decide +kernel, by decide +kernel⟩
theorem ref14ok4 : ref14B4.length = 376 ∧ hexOk ref14B4 jisR4 = true := ⟨by decide +kernel, by decide +kernel⟩
theorem ref14ok5 : ref14B5.length = 376 ∧ hexOk ref14B5 jisR5 = true := ⟨by decide +kernel, by decide +kernel⟩
theorem ref14ok6 : ref14B6.length = 376 ∧ hexOk ref14B6 jisR6 = true := ⟨by decide +kernel, by decide +kernel⟩
theorem ref14ok7 : ref14B7.length = 376 ∧ hexOk ref14B7 jisR7 = true := ⟨by decide +kernel, by decide +kernel⟩
theorem ref14ok8 : ref14B8.length = 376 ∧ hexOk ref14B8 jisR8 = true := ⟨by decide +kernel, by decide +kernel⟩
theorem ref14ok16 : ref14B16.length = 376 ∧ hexOk ref14B16 jisR16 = true := ⟨by decide +kernel, by decide +kernel⟩
theorem ref14L_none (a : Int) (h : jisRow a = []) : ref14L a = [] := by
  rcases jisRow_cases a with rfl | rfl | rfl | rfl | rfl | rfl | rfl | rfl | rfl | ⟨h1, h2, h3, h4, h5, h6, h7, h8, h16, hn⟩
  · rw [show jisRow 1 = jisR1 by simp [jisRow]] at h; cases h
  · rw [show jisRow 2 = jisR2 by simp [jisRow]] at h; cases h
  · rw [show jisRow 3 = jisR3 by simp [jisRow]] at h; cases h
  · rw [show jisRow 4 = jisR4 by simp [jisRow]] at h; cases h
  · rw [show jisRow 5 = jisR5 by simp [jisRow]] at h; cases h
  · rw [show jisRow 6 = jisR6 by simp [jisRow]] at h; cases h
  · rw [show jisRow 7 = jisR7 by simp [jisRow]] at h; cases h
  · rw [show jisRow 8 = jisR8 by simp [jisRow]] at h; cases h
  · rw [show jisRow 16 = jisR16 by simp [jisRow]] at h; cases h
  · simp [ref14L, h1, h2, h3, h4, h5, h6, h7, h8, h16]
theorem ref14L_some (a : Int) (h : jisRow a ≠ []) : (ref14L a).length = 376 ∧ hexOk (ref14L a) (jisRow a) = true := by
  rcases jisRow_cases a with rfl | rfl | rfl | rfl | rfl | rfl | rfl | rfl | rfl | ⟨h1, h2, h3, h4, h5, h6, h7, h8, h16, hn⟩
  · rw [show ref14L 1 = ref14B1 by simp [ref14L], show jisRow 1 = jisR1 by simp [jisRow]]; exact ref14ok1
  · rw [show ref14L 2 = ref14B2 by simp [ref14L], show jisRow 2 = jisR2 by simp [jisRow]]; exact ref14ok2
  · rw [show ref14L 3 = ref14B3 by simp [ref14L], show jisRow 3 = jisR3 by simp [jisRow]]; exact ref14ok3
  · rw [show ref14L 4 = ref14B4 by simp [ref14L], show jisRow 4 = jisR4 by simp [jisRow]]; exact ref14ok4
  · rw [show ref14L 5 = ref14B5 by simp [ref14L], show jisRow 5 = jisR5 by simp [jisRow]]; exact ref14ok5
  · rw [show ref14L 6 = ref14B6 by simp [ref14L], show jisRow 6 = jisR6 by simp [jisRow]]; exact ref14ok6
  · rw [show ref14L 7 = ref14B7 by simp [ref14L], show jisRow 7 = jisR7 by simp [jisRow]]; exact ref14ok7
  · rw [show ref14L 8 = ref14B8 by simp [ref14L], show jisRow 8 = jisR8 by simp [jisRow]]; exact ref14ok8
  · rw [show ref14L 16 = ref14B16 by simp [ref14L], show jisRow 16 = jisR16 by simp [jisRow]]; exact ref14ok16
  · exact absurd hn h
theorem ref14_digit_any (c : Int) (w : World) : Calls Try.prog 84 #[.int .u8 c] w fun e w' => e = .returned (.int .i32 (hexd c)) ∧ w' = w := by
  by_cases h : 65 ≤ c
  · have hd : hexd c = ((c - 65) % 256) + 10 := by rw [hexd, if_pos h]
    have HD := Lib.hid hd
    clear hd
    have c2b0 : decide (65 ≤ c) = true := decide_eq_true h
    clear h
    go_enter Try.func84, Try.ntmps84
    go_wp2
    go_ret
    exact ⟨by rw [HD.out]; rfl, rfl⟩
  · have hd : hexd c = (c - 48) % 256 := by rw [hexd, if_neg h]
    have HD := Lib.hid hd
    clear hd
    have c2b0 : decide (65 ≤ c) = false := decide_eq_false h
    clear h
    go_enter Try.func84, Try.ntmps84
    go_wp2
    go_ret
    exact ⟨by rw [HD.out]; rfl, rfl⟩
theorem ref14_none (a c : Int) (s : ByteArray) (w : World) (hs : dragomanref14_list.f a = some s) (hz : s.toList.isEmpty = true) : Calls Try.prog 60 #[.int .i64 a, .int .i64 c] w fun e w' => e = .returned (.tuple #[.int .i32 0, .bool false]) ∧ Drawn0 w w' := by
  have HS := Lib.hid hs
  clear hs
  go_enter Try.func60, Try.ntmps60
  go_wp2_with (go_at_call 81; refine (dragomanref14_list.calls _ s _ HS.out).mono ?_; rintro e w' ⟨rfl, ⟨nd, rfl⟩⟩)
  go_ret2
  exact ⟨rfl, ⟨_, rfl⟩⟩
theorem ref14_lo (a c : Int) (s : ByteArray) (w : World) (hs : dragomanref14_list.f a = some s) (hz : s.toList.isEmpty = false) (hc : c < 1) : Calls Try.prog 60 #[.int .i64 a, .int .i64 c] w fun e w' => e = .returned (.tuple #[.int .i32 0, .bool false]) ∧ Drawn0 w w' := by
  have HS := Lib.hid hs
  clear hs
  have d1 : decide (c < 1) = true := by simpa using hc
  go_enter Try.func60, Try.ntmps60
  go_wp2_with (go_at_call 81; refine (dragomanref14_list.calls _ s _ HS.out).mono ?_; rintro e w' ⟨rfl, ⟨nd, rfl⟩⟩)
  go_ret2
  exact ⟨rfl, ⟨_, rfl⟩⟩
theorem ref14_hi (a c : Int) (s : ByteArray) (w : World) (hs : dragomanref14_list.f a = some s) (hz : s.toList.isEmpty = false) (hc : ¬ c < 1) (hc2 : 94 < c) : Calls Try.prog 60 #[.int .i64 a, .int .i64 c] w fun e w' => e = .returned (.tuple #[.int .i32 0, .bool false]) ∧ Drawn0 w w' := by
  have HS := Lib.hid hs
  clear hs
  have d1 : decide (c < 1) = false := by simpa using hc
  have d2 : decide (94 < c) = true := by simpa using hc2
  go_enter Try.func60, Try.ntmps60
  go_wp2_with (go_at_call 81; refine (dragomanref14_list.calls _ s _ HS.out).mono ?_; rintro e w' ⟨rfl, ⟨nd, rfl⟩⟩)
  go_ret2
  exact ⟨rfl, ⟨_, rfl⟩⟩
set_option maxHeartbeats 2000000 in
theorem ref14_miss (a : Int) (c : Nat) (s : ByteArray) (w : World) (hs : dragomanref14_list.f a = some s) (hz0 : s.toList.isEmpty = false) (hz : s.size = 376) (hc : c < 94) (b0 b1 b2 b3 : Int) (hb : ∀ x : ByteArray, x = s.extract (4 * c) s.size → 4 ≤ x.size ∧ (∀ h : 0 < x.size, ((x[0]'h).toNat : Int) = b0) ∧ (∀ h : 1 < x.size, ((x[1]'h).toNat : Int) = b1) ∧ (∀ h : 2 < x.size, ((x[2]'h).toNat : Int) = b2) ∧ (∀ h : 3 < x.size, ((x[3]'h).toNat : Int) = b3)) (hv : hex4 b0 b1 b2 b3 = 65533) : Calls Try.prog 60 #[.int .i64 a, .int .i64 (c + 1)] w fun e w' => e = .returned (.tuple #[.int .i32 0, .bool false]) ∧ Drawn0 w w' := by
  have HS := Lib.hid hs
  have HF := Lib.hid hb
  unfold hex4 at hv
  have HV := Lib.hid hv
  clear hs hb hv
  have d1 : decide ((c : Int) + 1 < 1) = false := by simp; omega
  have d2 : decide (94 < (c : Int) + 1) = false := by simp; omega
  have hz1 : (s.size : Int) = 376 := by omega
  have hz2 : 376 ≤ s.size := by omega
  clear hz
  go_enter Try.func60, Try.ntmps60
  go_wp2_with (go_at_call 81; refine (dragomanref14_list.calls _ s _ HS.out).mono ?_; rintro e w' ⟨rfl, ⟨nd, rfl⟩⟩)
  generalize hx : s.extract (4 * c) s.size = x
  obtain ⟨x4, e0, e1, e2, e3⟩ := HF.out x hx.symm
  clear HF hx HS
  have x0 : 0 < x.size := by omega
  have x1 : 1 < x.size := by omega
  have x2 : 2 < x.size := by omega
  have x3 : 3 < x.size := by omega
  clear x4
  generalize hW : World.drewN w _ = W
  have HW : Aside0 (Drawn0 w W) := ⟨⟨⟨_, hW.symm⟩⟩⟩
  clear hW
  go_quiet ((go_at_call 84; exact Calls.quiet_of_same (ref14_digit_any _ _)))
  rw [HV.out]
  clear HV
  go_wp2
  go_ret2
  exact ⟨rfl, HW.out.step _⟩
set_option maxHeartbeats 2000000 in
theorem ref14_some (a : Int) (c : Nat) (s : ByteArray) (w : World) (hs : dragomanref14_list.f a = some s) (hz0 : s.toList.isEmpty = false) (hz : s.size = 376) (hc : c < 94) (b0 b1 b2 b3 : Int) (hb : ∀ x : ByteArray, x = s.extract (4 * c) s.size → 4 ≤ x.size ∧ (∀ h : 0 < x.size, ((x[0]'h).toNat : Int) = b0) ∧ (∀ h : 1 < x.size, ((x[1]'h).toNat : Int) = b1) ∧ (∀ h : 2 < x.size, ((x[2]'h).toNat : Int) = b2) ∧ (∀ h : 3 < x.size, ((x[3]'h).toNat : Int) = b3)) (v : Int) (hv : hex4 b0 b1 b2 b3 = v) (hv2 : (v == 65533) = false) : Calls Try.prog 60 #[.int .i64 a, .int .i64 (c + 1)] w fun e w' => e = .returned (.tuple #[.int .i32 v, .bool true]) ∧ Drawn0 w w' := by
  have HS := Lib.hid hs
  have HF := Lib.hid hb
  unfold hex4 at hv
  have HV := Lib.hid hv
  clear hs hb hv
  have d1 : decide ((c : Int) + 1 < 1) = false := by simp; omega
  have d2 : decide (94 < (c : Int) + 1) = false := by simp; omega
  have hz1 : (s.size : Int) = 376 := by omega
  have hz2 : 376 ≤ s.size := by omega
  clear hz
  go_enter Try.func60, Try.ntmps60
  go_wp2_with (go_at_call 81; refine (dragomanref14_list.calls _ s _ HS.out).mono ?_; rintro e w' ⟨rfl, ⟨nd, rfl⟩⟩)
  generalize hx : s.extract (4 * c) s.size = x
  obtain ⟨x4, e0, e1, e2, e3⟩ := HF.out x hx.symm
  clear HF hx HS
  have x0 : 0 < x.size := by omega
  have x1 : 1 < x.size := by omega
  have x2 : 2 < x.size := by omega
  have x3 : 3 < x.size := by omega
  clear x4
  generalize hW : World.drewN w _ = W
  have HW : Aside0 (Drawn0 w W) := ⟨⟨⟨_, hW.symm⟩⟩⟩
  clear hW
  go_quiet ((go_at_call 84; exact Calls.quiet_of_same (ref14_digit_any _ _)))
  rw [HV.out]
  clear HV
  go_wp2
  go_ret2
  exact ⟨rfl, HW.out.step _⟩
def dragomanref14_Scalar.f (a0 a1 : Int) : Option (Int × Bool) := some (scalarOf (jisRow a0) a1)
theorem dragomanref14_Scalar.calls (a0 a1 : Int) (r1 : Int) (r2 : Bool) (w : World) (h : dragomanref14_Scalar.f a0 a1 = some (r1, r2)) :
    Calls Try.prog 60 #[.int .i64 a0, .int .i64 a1] w fun e w' => e = .returned (.tuple #[.int .i32 r1, .bool r2]) ∧ Drawn0 w w' := by
  unfold dragomanref14_Scalar.f scalarOf at h
  by_cases h1 : jisRow a0 = []
  · rw [if_pos h1] at h; cases h; exact ref14_none a0 a1 _ w rfl (by rw [toList_isEmpty, ref14L_none a0 h1]; rfl)
  rw [if_neg h1] at h
  obtain ⟨hl, ho⟩ := ref14L_some a0 h1
  have hz : (⟨(ref14L a0).toArray⟩ : ByteArray).toList.isEmpty = false := by rw [toList_isEmpty]; cases e : ref14L a0 with | nil => rw [e] at hl; cases hl | cons _ _ => rfl
  by_cases h2 : a1 < 1
  · rw [if_pos h2] at h; cases h; exact ref14_lo a0 a1 _ w rfl hz h2
  rw [if_neg h2] at h
  by_cases h3 : 94 < a1
  · rw [if_pos h3] at h; cases h; exact ref14_hi a0 a1 _ w rfl hz h2 h3
  rw [if_neg h3] at h
  obtain ⟨c, rfl⟩ : ∃ c : Nat, a1 = c + 1 := ⟨(a1 - 1).toNat, by omega⟩
  rw [show ((c : Int) + 1 - 1).toNat = c by omega] at h
  have hv := hexOk_at c ho (by rw [jisRow_len a0 h1]; omega)
  have hb := extract_bytes (ref14L a0) (4 * c) hl (by omega)
  by_cases h4 : (jisRow a0).getD c 0 = 65533
  · rw [if_pos h4] at h; cases h
    exact ref14_miss a0 c _ w rfl hz (by rw [size_toArray, hl]) (by omega) _ _ _ _ hb (hv.trans h4)
  · rw [if_neg h4] at h; cases h
    exact ref14_some a0 c _ w rfl hz (by rw [size_toArray, hl]) (by omega) _ _ _ _ hb _ hv (beq_eq_false_iff_ne.mpr h4)
theorem ref15ok1 : ref15B1.length = 376 ∧ hexOk ref15B1 gbR1 = true := ⟨by decide +kernel, by decide +kernel⟩
theorem ref15ok2 : ref15B2.length = 376 ∧ hexOk ref15B2 gbR2 = true := ⟨by decide +kernel, by decide +kernel⟩
theorem ref15ok3 : ref15B3.length = 376 ∧ hexOk ref15B3 gbR3 = true := ⟨by decide +kernel, by decide +kernel⟩
theorem ref15ok4 : ref15B4.length = 376 ∧ hexOk ref15B4 gbR4 = true := ⟨by decide +kernel, by decide +kernel⟩
theorem ref15ok5 : ref15B5.length = 376 ∧ hexOk ref15B5 gbR5 = true := ⟨by decide +kernel, by decide +kernel⟩
theorem ref15ok6 : ref15B6.length = 376 ∧ hexOk ref15B6 gbR6 = true := ⟨by decide +kernel, by decide +kernel⟩
theorem ref15ok7 : ref15B7.length = 376 ∧ hexOk ref15B7 gbR7 = true := ⟨by decide +kernel, by decide +kernel⟩
theorem ref15ok8 : ref15B8.length = 376 ∧ hexOk ref15B8 gbR8 = true := ⟨by decide +kernel, by decide +kernel⟩
theorem ref15ok9 : ref15B9.length = 376 ∧ hexOk ref15B9 gbR9 = true := ⟨by decide +kernel, by decide +kernel⟩
theorem ref15ok16 : ref15B16.length = 376 ∧ hexOk ref15B16 gbR16 = true := ⟨by decide +kernel, by decide +kernel⟩
theorem ref15L_none (a : Int) (h : gbRow a = []) : ref15L a = [] := by
  rcases gbRow_cases a with rfl | rfl | rfl | rfl | rfl | rfl | rfl | rfl | rfl | rfl | ⟨h1, h2, h3, h4, h5, h6, h7, h8, h9, h16, hn⟩
  · rw [show gbRow 1 = gbR1 by simp [gbRow]] at h; cases h
  · rw [show gbRow 2 = gbR2 by simp [gbRow]] at h; cases h
  · rw [show gbRow 3 = gbR3 by simp [gbRow]] at h; cases h
  · rw [show gbRow 4 = gbR4 by simp [gbRow]] at h; cases h
  · rw [show gbRow 5 = gbR5 by simp [gbRow]] at h; cases h
  · rw [show gbRow 6 = gbR6 by simp [gbRow]] at h; cases h
  · rw [show gbRow 7 = gbR7 by simp [gbRow]] at h; cases h
  · rw [show gbRow 8 = gbR8 by simp [gbRow]] at h; cases h
  · rw [show gbRow 9 = gbR9 by simp [gbRow]] at h; cases h
  · rw [show gbRow 16 = gbR16 by simp [gbRow]] at h; cases h
  · simp [ref15L, h1, h2, h3, h4, h5, h6, h7, h8, h9, h16]
theorem ref15L_some (a : Int) (h : gbRow a ≠ []) : (ref15L a).length = 376 ∧ hexOk (ref15L a) (gbRow a) = true := by
  rcases gbRow_cases a with rfl | rfl | rfl | rfl | rfl | rfl | rfl | rfl | rfl | rfl | ⟨h1, h2, h3, h4, h5, h6, h7, h8, h9, h16, hn⟩
  · rw [show ref15L 1 = ref15B1 by simp [ref15L], show gbRow 1 = gbR1 by simp [gbRow]]; exact ref15ok1
  · rw [show ref15L 2 = ref15B2 by simp [ref15L], show gbRow 2 = gbR2 by simp [gbRow]]; exact ref15ok2
  · rw [show ref15L 3 = ref15B3 by simp [ref15L], show gbRow 3 = gbR3 by simp [gbRow]]; exact ref15ok3
  · rw [show ref15L 4 = ref15B4 by simp [ref15L], show gbRow 4 = gbR4 by simp [gbRow]]; exact ref15ok4
  · rw [show ref15L 5 = ref15B5 by simp [ref15L], show gbRow 5 = gbR5 by simp [gbRow]]; exact ref15ok5
  · rw [show ref15L 6 = ref15B6 by simp [ref15L], show gbRow 6 = gbR6 by simp [gbRow]]; exact ref15ok6
  · rw [show ref15L 7 = ref15B7 by simp [ref15L], show gbRow 7 = gbR7 by simp [gbRow]]; exact ref15ok7
  · rw [show ref15L 8 = ref15B8 by simp [ref15L], show gbRow 8 = gbR8 by simp [gbRow]]; exact ref15ok8
  · rw [show ref15L 9 = ref15B9 by simp [ref15L], show gbRow 9 = gbR9 by simp [gbRow]]; exact ref15ok9
  · rw [show ref15L 16 = ref15B16 by simp [ref15L], show gbRow 16 = gbR16 by simp [gbRow]]; exact ref15ok16
  · exact absurd hn h
theorem ref15_digit_any (c : Int) (w : World) : Calls Try.prog 93 #[.int .u8 c] w fun e w' => e = .returned (.int .i32 (hexd c)) ∧ w' = w := by
  by_cases h : 65 ≤ c
  · have hd : hexd c = ((c - 65) % 256) + 10 := by rw [hexd, if_pos h]
    have HD := Lib.hid hd
    clear hd
    have c2b0 : decide (65 ≤ c) = true := decide_eq_true h
    clear h
    go_enter Try.func93, Try.ntmps93
    go_wp2
    go_ret
    exact ⟨by rw [HD.out]; rfl, rfl⟩
  · have hd : hexd c = (c - 48) % 256 := by rw [hexd, if_neg h]
    have HD := Lib.hid hd
    clear hd
    have c2b0 : decide (65 ≤ c) = false := decide_eq_false h
    clear h
    go_enter Try.func93, Try.ntmps93
    go_wp2
    go_ret
    exact ⟨by rw [HD.out]; rfl, rfl⟩
theorem ref15_none (a c : Int) (s : ByteArray) (w : World) (hs : dragomanref15_list.f a = some s) (hz : s.toList.isEmpty = true) : Calls Try.prog 78 #[.int .i64 a, .int .i64 c] w fun e w' => e = .returned (.tuple #[.int .i32 0, .bool false]) ∧ Drawn0 w w' := by
  have HS := Lib.hid hs
  clear hs
  go_enter Try.func78, Try.ntmps78
  go_wp2_with (go_at_call 83; refine (dragomanref15_list.calls _ s _ HS.out).mono ?_; rintro e w' ⟨rfl, ⟨nd, rfl⟩⟩)
  go_ret2
  exact ⟨rfl, ⟨_, rfl⟩⟩
theorem ref15_lo (a c : Int) (s : ByteArray) (w : World) (hs : dragomanref15_list.f a = some s) (hz : s.toList.isEmpty = false) (hc : c < 1) : Calls Try.prog 78 #[.int .i64 a, .int .i64 c] w fun e w' => e = .returned (.tuple #[.int .i32 0, .bool false]) ∧ Drawn0 w w' := by
  have HS := Lib.hid hs
  clear hs
  have d1 : decide (c < 1) = true := by simpa using hc
  go_enter Try.func78, Try.ntmps78
  go_wp2_with (go_at_call 83; refine (dragomanref15_list.calls _ s _ HS.out).mono ?_; rintro e w' ⟨rfl, ⟨nd, rfl⟩⟩)
  go_ret2
  exact ⟨rfl, ⟨_, rfl⟩⟩
theorem ref15_hi (a c : Int) (s : ByteArray) (w : World) (hs : dragomanref15_list.f a = some s) (hz : s.toList.isEmpty = false) (hc : ¬ c < 1) (hc2 : 94 < c) : Calls Try.prog 78 #[.int .i64 a, .int .i64 c] w fun e w' => e = .returned (.tuple #[.int .i32 0, .bool false]) ∧ Drawn0 w w' := by
  have HS := Lib.hid hs
  clear hs
  have d1 : decide (c < 1) = false := by simpa using hc
  have d2 : decide (94 < c) = true := by simpa using hc2
  go_enter Try.func78, Try.ntmps78
  go_wp2_with (go_at_call 83; refine (dragomanref15_list.calls _ s _ HS.out).mono ?_; rintro e w' ⟨rfl, ⟨nd, rfl⟩⟩)
  go_ret2
  exact ⟨rfl, ⟨_, rfl⟩⟩
set_option maxHeartbeats 2000000 in
theorem ref15_miss (a : Int) (c : Nat) (s : ByteArray) (w : World) (hs : dragomanref15_list.f a = some s) (hz0 : s.toList.isEmpty = false) (hz : s.size = 376) (hc : c < 94) (b0 b1 b2 b3 : Int) (hb : ∀ x : ByteArray, x = s.extract (4 * c) s.size → 4 ≤ x.size ∧ (∀ h : 0 < x.size, ((x[0]'h).toNat : Int) = b0) ∧ (∀ h : 1 < x.size, ((x[1]'h).toNat : Int) = b1) ∧ (∀ h : 2 < x.size, ((x[2]'h).toNat : Int) = b2) ∧ (∀ h : 3 < x.size, ((x[3]'h).toNat : Int) = b3)) (hv : hex4 b0 b1 b2 b3 = 65533) : Calls Try.prog 78 #[.int .i64 a, .int .i64 (c + 1)] w fun e w' => e = .returned (.tuple #[.int .i32 0, .bool false]) ∧ Drawn0 w w' := by
  have HS := Lib.hid hs
  have HF := Lib.hid hb
  unfold hex4 at hv
  have HV := Lib.hid hv
  clear hs hb hv
  have d1 : decide ((c : Int) + 1 < 1) = false := by simp; omega
  have d2 : decide (94 < (c : Int) + 1) = false := by simp; omega
  have hz1 : (s.size : Int) = 376 := by omega
  have hz2 : 376 ≤ s.size := by omega
  clear hz
  go_enter Try.func78, Try.ntmps78
  go_wp2_with (go_at_call 83; refine (dragomanref15_list.calls _ s _ HS.out).mono ?_; rintro e w' ⟨rfl, ⟨nd, rfl⟩⟩)
  generalize hx : s.extract (4 * c) s.size = x
  obtain ⟨x4, e0, e1, e2, e3⟩ := HF.out x hx.symm
  clear HF hx HS
  have x0 : 0 < x.size := by omega
  have x1 : 1 < x.size := by omega
  have x2 : 2 < x.size := by omega
  have x3 : 3 < x.size := by omega
  clear x4
  generalize hW : World.drewN w _ = W
  have HW : Aside0 (Drawn0 w W) := ⟨⟨⟨_, hW.symm⟩⟩⟩
  clear hW
  go_quiet ((go_at_call 93; exact Calls.quiet_of_same (ref15_digit_any _ _)))
  rw [HV.out]
  clear HV
  go_wp2
  go_ret2
  exact ⟨rfl, HW.out.step _⟩
set_option maxHeartbeats 2000000 in
theorem ref15_some (a : Int) (c : Nat) (s : ByteArray) (w : World) (hs : dragomanref15_list.f a = some s) (hz0 : s.toList.isEmpty = false) (hz : s.size = 376) (hc : c < 94) (b0 b1 b2 b3 : Int) (hb : ∀ x : ByteArray, x = s.extract (4 * c) s.size → 4 ≤ x.size ∧ (∀ h : 0 < x.size, ((x[0]'h).toNat : Int) = b0) ∧ (∀ h : 1 < x.size, ((x[1]'h).toNat : Int) = b1) ∧ (∀ h : 2 < x.size, ((x[2]'h).toNat : Int) = b2) ∧ (∀ h : 3 < x.size, ((x[3]'h).toNat : Int) = b3)) (v : Int) (hv : hex4 b0 b1 b2 b3 = v) (hv2 : (v == 65533) = false) : Calls Try.prog 78 #[.int .i64 a, .int .i64 (c + 1)] w fun e w' => e = .returned (.tuple #[.int .i32 v, .bool true]) ∧ Drawn0 w w' := by
  have HS := Lib.hid hs
  have HF := Lib.hid hb
  unfold hex4 at hv
  have HV := Lib.hid hv
  clear hs hb hv
  have d1 : decide ((c : Int) + 1 < 1) = false := by simp; omega
  have d2 : decide (94 < (c : Int) + 1) = false := by simp; omega
  have hz1 : (s.size : Int) = 376 := by omega
  have hz2 : 376 ≤ s.size := by omega
  clear hz
  go_enter Try.func78, Try.ntmps78
  go_wp2_with (go_at_call 83; refine (dragomanref15_list.calls _ s _ HS.out).mono ?_; rintro e w' ⟨rfl, ⟨nd, rfl⟩⟩)
  generalize hx : s.extract (4 * c) s.size = x
  obtain ⟨x4, e0, e1, e2, e3⟩ := HF.out x hx.symm
  clear HF hx HS
  have x0 : 0 < x.size := by omega
  have x1 : 1 < x.size := by omega
  have x2 : 2 < x.size := by omega
  have x3 : 3 < x.size := by omega
  clear x4
  generalize hW : World.drewN w _ = W
  have HW : Aside0 (Drawn0 w W) := ⟨⟨⟨_, hW.symm⟩⟩⟩
  clear hW
  go_quiet ((go_at_call 93; exact Calls.quiet_of_same (ref15_digit_any _ _)))
  rw [HV.out]
  clear HV
  go_wp2
  go_ret2
  exact ⟨rfl, HW.out.step _⟩
def dragomanref15_Scalar.f (a0 a1 : Int) : Option (Int × Bool) := some (scalarOf (gbRow a0) a1)
theorem dragomanref15_Scalar.calls (a0 a1 : Int) (r1 : Int) (r2 : Bool) (w : World) (h : dragomanref15_Scalar.f a0 a1 = some (r1, r2)) :
    Calls Try.prog 78 #[.int .i64 a0, .int .i64 a1] w fun e w' => e = .returned (.tuple #[.int .i32 r1, .bool r2]) ∧ Drawn0 w w' := by
  unfold dragomanref15_Scalar.f scalarOf at h
  by_cases h1 : gbRow a0 = []
  · rw [if_pos h1] at h; cases h; exact ref15_none a0 a1 _ w rfl (by rw [toList_isEmpty, ref15L_none a0 h1]; rfl)
  rw [if_neg h1] at h
  obtain ⟨hl, ho⟩ := ref15L_some a0 h1
  have hz : (⟨(ref15L a0).toArray⟩ : ByteArray).toList.isEmpty = false := by rw [toList_isEmpty]; cases e : ref15L a0 with | nil => rw [e] at hl; cases hl | cons _ _ => rfl
  by_cases h2 : a1 < 1
  · rw [if_pos h2] at h; cases h; exact ref15_lo a0 a1 _ w rfl hz h2
  rw [if_neg h2] at h
  by_cases h3 : 94 < a1
  · rw [if_pos h3] at h; cases h; exact ref15_hi a0 a1 _ w rfl hz h2 h3
  rw [if_neg h3] at h
  obtain ⟨c, rfl⟩ : ∃ c : Nat, a1 = c + 1 := ⟨(a1 - 1).toNat, by omega⟩
  rw [show ((c : Int) + 1 - 1).toNat = c by omega] at h
  have hv := hexOk_at c ho (by rw [gbRow_len a0 h1]; omega)
  have hb := extract_bytes (ref15L a0) (4 * c) hl (by omega)
  by_cases h4 : (gbRow a0).getD c 0 = 65533
  · rw [if_pos h4] at h; cases h
    exact ref15_miss a0 c _ w rfl hz (by rw [size_toArray, hl]) (by omega) _ _ _ _ hb (hv.trans h4)
  · rw [if_neg h4] at h; cases h
    exact ref15_some a0 c _ w rfl hz (by rw [size_toArray, hl]) (by omega) _ _ _ _ hb _ hv (beq_eq_false_iff_ne.mpr h4)
theorem ref16ok1 : ref16B1.length = 376 ∧ hexOk ref16B1 kscR1 = true := ⟨by decide +kernel, by decide +kernel⟩
theorem ref16ok2 : ref16B2.length = 376 ∧ hexOk ref16B2 kscR2 = true := ⟨by decide +kernel, by decide +kernel⟩
theorem ref16ok3 : ref16B3.length = 376 ∧ hexOk ref16B3 kscR3 = true := ⟨by decide +kernel, by decide +kernel⟩
theorem ref16ok4 : ref16B4.length = 376 ∧ hexOk ref16B4 kscR4 = true := ⟨by decide +kernel, by decide +kernel⟩
theorem ref16ok5 : ref16B5.length = 376 ∧ hexOk ref16B5 kscR5 = true := ⟨by decide +kernel, by decide +kernel⟩
theorem ref16ok6 : ref16B6.length = 376 ∧ hexOk ref16B6 kscR6 = true := ⟨by decide +kernel, by decide +kernel⟩
theorem ref16ok7 : ref16B7.length = 376 ∧ hexOk ref16B7 kscR7 = true := ⟨by decide +kernel, by decide +kernel⟩
theorem ref16ok8 : ref16B8.length = 376 ∧ hexOk ref16B8 kscR8 = true := ⟨by decide +kernel, by decide +kernel⟩
theorem ref16ok9 : ref16B9.length = 376 ∧ hexOk ref16B9 kscR9 = true := ⟨by decide +kernel, by decide +kernel⟩
theorem ref16ok10 : ref16B10.length = 376 ∧ hexOk ref16B10 kscR10 = true := ⟨by decide +kernel, by decide +kernel⟩
theorem ref16ok11 : ref16B11.length = 376 ∧ hexOk ref16B11 kscR11 = true := ⟨by decide +kernel, by decide +kernel⟩
theorem ref16ok12 : ref16B12.length = 376 ∧ hexOk ref16B12 kscR12 = true := ⟨by decide +kernel, by decide +kernel⟩
theorem ref16ok16 : ref16B16.length = 376 ∧ hexOk ref16B16 kscR16 = true := ⟨by decide +kernel, by decide +kernel⟩
theorem ref16ok42 : ref16B42.length = 376 ∧ hexOk ref16B42 kscR42 = true := ⟨by decide +kernel, by decide +kernel⟩
theorem ref16L_none (a : Int) (h : kscRow a = []) : ref16L a = [] := by
  rcases kscRow_cases a with rfl | rfl | rfl | rfl | rfl | rfl | rfl | rfl | rfl | rfl | rfl | rfl | rfl | rfl | ⟨h1, h2, h3, h4, h5, h6, h7, h8, h9, h10, h11, h12, h16, h42, hn⟩
  · rw [show kscRow 1 = kscR1 by simp [kscRow]] at h; cases h
  · rw [show kscRow 2 = kscR2 by simp [kscRow]] at h; cases h
  · rw [show kscRow 3 = kscR3 by simp [kscRow]] at h; cases h
  · rw [show kscRow 4 = kscR4 by simp [kscRow]] at h; cases h
  · rw [show kscRow 5 = kscR5 by simp [kscRow]] at h; cases h
  · rw [show kscRow 6 = kscR6 by simp [kscRow]] at h; cases h
  · rw [show kscRow 7 = kscR7 by simp [kscRow]] at h; cases h
  · rw [show kscRow 8 = kscR8 by simp [kscRow]] at h; cases h
  · rw [show kscRow 9 = kscR9 by simp [kscRow]] at h; cases h
  · rw [show kscRow 10 = kscR10 by simp [kscRow]] at h; cases h
  · rw [show kscRow 11 = kscR11 by simp [kscRow]] at h; cases h
  · rw [show kscRow 12 = kscR12 by simp [kscRow]] at h; cases h
  · rw [show kscRow 16 = kscR16 by simp [kscRow]] at h; cases h
  · rw [show kscRow 42 = kscR42 by simp [kscRow]] at h; cases h
  · simp [ref16L, h1, h2, h3, h4, h5, h6, h7, h8, h9, h10, h11, h12, h16, h42]
theorem ref16L_some (a : Int) (h : kscRow a ≠ []) : (ref16L a).length = 376 ∧ hexOk (ref16L a) (kscRow a) = true := by
  rcases kscRow_cases a with rfl | rfl | rfl | rfl | rfl | rfl | rfl | rfl | rfl | rfl | rfl | rfl | rfl | rfl | ⟨h1, h2, h3, h4, h5, h6, h7, h8, h9, h10, h11, h12, h16, h42, hn⟩
  · rw [show ref16L 1 = ref16B1 by simp [ref16L], show kscRow 1 = kscR1 by simp [kscRow]]; exact ref16ok1
  · rw [show ref16L 2 = ref16B2 by simp [ref16L], show kscRow 2 = kscR2 by simp [kscRow]]; exact ref16ok2
  · rw [show ref16L 3 = ref16B3 by simp [ref16L], show kscRow 3 = kscR3 by simp [kscRow]]; exact ref16ok3
  · rw [show ref16L 4 = ref16B4 by simp [ref16L], show kscRow 4 = kscR4 by simp [kscRow]]; exact ref16ok4
  · rw [show ref16L 5 = ref16B5 by simp [ref16L], show kscRow 5 = kscR5 by simp [kscRow]]; exact ref16ok5
  · rw [show ref16L 6 = ref16B6 by simp [ref16L], show kscRow 6 = kscR6 by simp [kscRow]]; exact ref16ok6
  · rw [show ref16L 7 = ref16B7 by simp [ref16L], show kscRow 7 = kscR7 by simp [kscRow]]; exact ref16ok7
  · rw [show ref16L 8 = ref16B8 by simp [ref16L], show kscRow 8 = kscR8 by simp [kscRow]]; exact ref16ok8
  · rw [show ref16L 9 = ref16B9 by simp [ref16L], show kscRow 9 = kscR9 by simp [kscRow]]; exact ref16ok9
  · rw [show ref16L 10 = ref16B10 by simp [ref16L], show kscRow 10 = kscR10 by simp [kscRow]]; exact ref16ok10
  · rw [show ref16L 11 = ref16B11 by simp [ref16L], show kscRow 11 = kscR11 by simp [kscRow]]; exact ref16ok11
  · rw [show ref16L 12 = ref16B12 by simp [ref16L], show kscRow 12 = kscR12 by simp [kscRow]]; exact ref16ok12
  · rw [show ref16L 16 = ref16B16 by simp [ref16L], show kscRow 16 = kscR16 by simp [kscRow]]; exact ref16ok16
  · rw [show ref16L 42 = ref16B42 by simp [ref16L], show kscRow 42 = kscR42 by simp [kscRow]]; exact ref16ok42
  · exact absurd hn h
theorem ref16_digit_any (c : Int) (w : World) : Calls Try.prog 95 #[.int .u8 c] w fun e w' => e = .returned (.int .i32 (hexd c)) ∧ w' = w := by
  by_cases h : 65 ≤ c
  · have hd : hexd c = ((c - 65) % 256) + 10 := by rw [hexd, if_pos h]
    have HD := Lib.hid hd
    clear hd
    have c2b0 : decide (65 ≤ c) = true := decide_eq_true h
    clear h
    go_enter Try.func95, Try.ntmps95
    go_wp2
    go_ret
    exact ⟨by rw [HD.out]; rfl, rfl⟩
  · have hd : hexd c = (c - 48) % 256 := by rw [hexd, if_neg h]
    have HD := Lib.hid hd
    clear hd
    have c2b0 : decide (65 ≤ c) = false := decide_eq_false h
    clear h
    go_enter Try.func95, Try.ntmps95
    go_wp2
    go_ret
    exact ⟨by rw [HD.out]; rfl, rfl⟩
theorem ref16_none (a c : Int) (s : ByteArray) (w : World) (hs : dragomanref16_list.f a = some s) (hz : s.toList.isEmpty = true) : Calls Try.prog 79 #[.int .i64 a, .int .i64 c] w fun e w' => e = .returned (.tuple #[.int .i32 0, .bool false]) ∧ Drawn0 w w' := by
  have HS := Lib.hid hs
  clear hs
  go_enter Try.func79, Try.ntmps79
  go_wp2_with (go_at_call 94; refine (dragomanref16_list.calls _ s _ HS.out).mono ?_; rintro e w' ⟨rfl, ⟨nd, rfl⟩⟩)
  go_ret2
  exact ⟨rfl, ⟨_, rfl⟩⟩
theorem ref16_lo (a c : Int) (s : ByteArray) (w : World) (hs : dragomanref16_list.f a = some s) (hz : s.toList.isEmpty = false) (hc : c < 1) : Calls Try.prog 79 #[.int .i64 a, .int .i64 c] w fun e w' => e = .returned (.tuple #[.int .i32 0, .bool false]) ∧ Drawn0 w w' := by
  have HS := Lib.hid hs
  clear hs
  have d1 : decide (c < 1) = true := by simpa using hc
  go_enter Try.func79, Try.ntmps79
  go_wp2_with (go_at_call 94; refine (dragomanref16_list.calls _ s _ HS.out).mono ?_; rintro e w' ⟨rfl, ⟨nd, rfl⟩⟩)
  go_ret2
  exact ⟨rfl, ⟨_, rfl⟩⟩
theorem ref16_hi (a c : Int) (s : ByteArray) (w : World) (hs : dragomanref16_list.f a = some s) (hz : s.toList.isEmpty = false) (hc : ¬ c < 1) (hc2 : 94 < c) : Calls Try.prog 79 #[.int .i64 a, .int .i64 c] w fun e w' => e = .returned (.tuple #[.int .i32 0, .bool false]) ∧ Drawn0 w w' := by
  have HS := Lib.hid hs
  clear hs
  have d1 : decide (c < 1) = false := by simpa using hc
  have d2 : decide (94 < c) = true := by simpa using hc2
  go_enter Try.func79, Try.ntmps79
  go_wp2_with (go_at_call 94; refine (dragomanref16_list.calls _ s _ HS.out).mono ?_; rintro e w' ⟨rfl, ⟨nd, rfl⟩⟩)
  go_ret2
  exact ⟨rfl, ⟨_, rfl⟩⟩
set_option maxHeartbeats 2000000 in
theorem ref16_miss (a : Int) (c : Nat) (s : ByteArray) (w : World) (hs : dragomanref16_list.f a = some s) (hz0 : s.toList.isEmpty = false) (hz : s.size = 376) (hc : c < 94) (b0 b1 b2 b3 : Int) (hb : ∀ x : ByteArray, x = s.extract (4 * c) s.size → 4 ≤ x.size ∧ (∀ h : 0 < x.size, ((x[0]'h).toNat : Int) = b0) ∧ (∀ h : 1 < x.size, ((x[1]'h).toNat : Int) = b1) ∧ (∀ h : 2 < x.size, ((x[2]'h).toNat : Int) = b2) ∧ (∀ h : 3 < x.size, ((x[3]'h).toNat : Int) = b3)) (hv : hex4 b0 b1 b2 b3 = 65533) : Calls Try.prog 79 #[.int .i64 a, .int .i64 (c + 1)] w fun e w' => e = .returned (.tuple #[.int .i32 0, .bool false]) ∧ Drawn0 w w' := by
  have HS := Lib.hid hs
  have HF := Lib.hid hb
  unfold hex4 at hv
  have HV := Lib.hid hv
  clear hs hb hv
  have d1 : decide ((c : Int) + 1 < 1) = false := by simp; omega
  have d2 : decide (94 < (c : Int) + 1) = false := by simp; omega
  have hz1 : (s.size : Int) = 376 := by omega
  have hz2 : 376 ≤ s.size := by omega
  clear hz
  go_enter Try.func79, Try.ntmps79
  go_wp2_with (go_at_call 94; refine (dragomanref16_list.calls _ s _ HS.out).mono ?_; rintro e w' ⟨rfl, ⟨nd, rfl⟩⟩)
  generalize hx : s.extract (4 * c) s.size = x
  obtain ⟨x4, e0, e1, e2, e3⟩ := HF.out x hx.symm
  clear HF hx HS
  have x0 : 0 < x.size := by omega
  have x1 : 1 < x.size := by omega
  have x2 : 2 < x.size := by omega
  have x3 : 3 < x.size := by omega
  clear x4
  generalize hW : World.drewN w _ = W
  have HW : Aside0 (Drawn0 w W) := ⟨⟨⟨_, hW.symm⟩⟩⟩
  clear hW
  go_quiet ((go_at_call 95; exact Calls.quiet_of_same (ref16_digit_any _ _)))
  rw [HV.out]
  clear HV
  go_wp2
  go_ret2
  exact ⟨rfl, HW.out.step _⟩
set_option maxHeartbeats 2000000 in
theorem ref16_some (a : Int) (c : Nat) (s : ByteArray) (w : World) (hs : dragomanref16_list.f a = some s) (hz0 : s.toList.isEmpty = false) (hz : s.size = 376) (hc : c < 94) (b0 b1 b2 b3 : Int) (hb : ∀ x : ByteArray, x = s.extract (4 * c) s.size → 4 ≤ x.size ∧ (∀ h : 0 < x.size, ((x[0]'h).toNat : Int) = b0) ∧ (∀ h : 1 < x.size, ((x[1]'h).toNat : Int) = b1) ∧ (∀ h : 2 < x.size, ((x[2]'h).toNat : Int) = b2) ∧ (∀ h : 3 < x.size, ((x[3]'h).toNat : Int) = b3)) (v : Int) (hv : hex4 b0 b1 b2 b3 = v) (hv2 : (v == 65533) = false) : Calls Try.prog 79 #[.int .i64 a, .int .i64 (c + 1)] w fun e w' => e = .returned (.tuple #[.int .i32 v, .bool true]) ∧ Drawn0 w w' := by
  have HS := Lib.hid hs
  have HF := Lib.hid hb
  unfold hex4 at hv
  have HV := Lib.hid hv
  clear hs hb hv
  have d1 : decide ((c : Int) + 1 < 1) = false := by simp; omega
  have d2 : decide (94 < (c : Int) + 1) = false := by simp; omega
  have hz1 : (s.size : Int) = 376 := by omega
  have hz2 : 376 ≤ s.size := by omega
  clear hz
  go_enter Try.func79, Try.ntmps79
  go_wp2_with (go_at_call 94; refine (dragomanref16_list.calls _ s _ HS.out).mono ?_; rintro e w' ⟨rfl, ⟨nd, rfl⟩⟩)
  generalize hx : s.extract (4 * c) s.size = x
  obtain ⟨x4, e0, e1, e2, e3⟩ := HF.out x hx.symm
  clear HF hx HS
  have x0 : 0 < x.size := by omega
  have x1 : 1 < x.size := by omega
  have x2 : 2 < x.size := by omega
  have x3 : 3 < x.size := by omega
  clear x4
  generalize hW : World.drewN w _ = W
  have HW : Aside0 (Drawn0 w W) := ⟨⟨⟨_, hW.symm⟩⟩⟩
  clear hW
  go_quiet ((go_at_call 95; exact Calls.quiet_of_same (ref16_digit_any _ _)))
  rw [HV.out]
  clear HV
  go_wp2
  go_ret2
  exact ⟨rfl, HW.out.step _⟩
def dragomanref16_Scalar.f (a0 a1 : Int) : Option (Int × Bool) := some (scalarOf (kscRow a0) a1)
theorem dragomanref16_Scalar.calls (a0 a1 : Int) (r1 : Int) (r2 : Bool) (w : World) (h : dragomanref16_Scalar.f a0 a1 = some (r1, r2)) :
    Calls Try.prog 79 #[.int .i64 a0, .int .i64 a1] w fun e w' => e = .returned (.tuple #[.int .i32 r1, .bool r2]) ∧ Drawn0 w w' := by
  unfold dragomanref16_Scalar.f scalarOf at h
  by_cases h1 : kscRow a0 = []
  · rw [if_pos h1] at h; cases h; exact ref16_none a0 a1 _ w rfl (by rw [toList_isEmpty, ref16L_none a0 h1]; rfl)
  rw [if_neg h1] at h
  obtain ⟨hl, ho⟩ := ref16L_some a0 h1
  have hz : (⟨(ref16L a0).toArray⟩ : ByteArray).toList.isEmpty = false := by rw [toList_isEmpty]; cases e : ref16L a0 with | nil => rw [e] at hl; cases hl | cons _ _ => rfl
  by_cases h2 : a1 < 1
  · rw [if_pos h2] at h; cases h; exact ref16_lo a0 a1 _ w rfl hz h2
  rw [if_neg h2] at h
  by_cases h3 : 94 < a1
  · rw [if_pos h3] at h; cases h; exact ref16_hi a0 a1 _ w rfl hz h2 h3
  rw [if_neg h3] at h
  obtain ⟨c, rfl⟩ : ∃ c : Nat, a1 = c + 1 := ⟨(a1 - 1).toNat, by omega⟩
  rw [show ((c : Int) + 1 - 1).toNat = c by omega] at h
  have hv := hexOk_at c ho (by rw [kscRow_len a0 h1]; omega)
  have hb := extract_bytes (ref16L a0) (4 * c) hl (by omega)
  by_cases h4 : (kscRow a0).getD c 0 = 65533
  · rw [if_pos h4] at h; cases h
    exact ref16_miss a0 c _ w rfl hz (by rw [size_toArray, hl]) (by omega) _ _ _ _ hb (hv.trans h4)
  · rw [if_neg h4] at h; cases h
    exact ref16_some a0 c _ w rfl hz (by rw [size_toArray, hl]) (by omega) _ _ _ _ hb _ hv (beq_eq_false_iff_ne.mpr h4)
end Go.Proofs.Ytenmanionddamaa
