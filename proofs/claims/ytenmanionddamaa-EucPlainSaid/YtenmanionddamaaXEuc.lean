/- Contracts of euc.Get and euc.Set for the kinds that have rows (another kind: the plain function says nothing). Conditions: those that each theorem states. -/
import Derived.Test.YtenmanionddamaaQeuca
import Derived.Test.YtenmanionddamaaQeucb
import Derived.Test.YtenmanionddamaaQeucc
import Derived.Test.YtenmanionddamaaQeucd
namespace Go.Proofs.Ytenmanionddamaa.Q
open Go.RowKit Go.Proofs.YtenmanionddamaaW.PrintWords Go.Proofs.YtenmanionddamaaW.PrintLast Go.Proofs.YtenmanionddamaaW.PrintMore
set_option linter.unusedVariables false
def euc_Get.f (k : Nat) (a0 : Int) (l1 : List Int) : Option (Int × Int × Int × Int × Int × Int × Int × Int × Int) := if a0 = 81 then euc_Getjis.f k a0 l1 else if a0 = 84 then euc_Getgb.f k a0 l1 else if a0 = 86 then euc_Getksc.f k a0 l1 else none
theorem euc_Get.mono : ∀ a0 a1 k, LeO (euc_Get.f k a0 a1) (euc_Get.f (k + 1) a0 a1) := by
  intro a0 a1 k
  unfold euc_Get.f
  exact LeO.ite (euc_Getjis.mono _ _ _) (LeO.ite (euc_Getgb.mono _ _ _) (LeO.ite (euc_Getksc.mono _ _ _) (LeO.none _)))
theorem euc_Get.calls (k : Nat) (a0 : Int) (A1 : Option Addr) (c1 : Nat) (l1 : List Int) (r1 : Int) (r2 : Int) (r3 : Int) (r4 : Int) (r5 : Int) (r6 : Int) (r7 : Int) (r8 : Int) (r9 : Int) (w : World) (hr1 : Kd.C (Kd.int .u8) w A1 l1.length l1) (hc1 : l1.length ≤ c1) (h : euc_Get.f k a0 l1 = some (r1, r2, r3, r4, r5, r6, r7, r8, r9)) :
    Calls Try.prog 42 #[.int .i64 a0, .slice A1 l1.length c1] w fun e w' => e = .returned (.agg #[.int .i64 r1, .int .i64 r2, .int .i64 r3, .int .i32 r4, .int .i32 r5, .int .i64 r6, .int .i64 r7, .int .u32 r8, .int .i32 r9]) ∧ Below w.heap.size w w' := by
  unfold euc_Get.f at h
  by_cases c81 : a0 = 81
  · rw [if_pos c81] at h
    exact euc_Getjis.calls k a0 A1 c1 l1 r1 r2 r3 r4 r5 r6 r7 r8 r9 w hr1 hc1 ⟨c81⟩ h
  rw [if_neg c81] at h
  by_cases c84 : a0 = 84
  · rw [if_pos c84] at h
    exact euc_Getgb.calls k a0 A1 c1 l1 r1 r2 r3 r4 r5 r6 r7 r8 r9 w hr1 hc1 ⟨c84⟩ h
  rw [if_neg c84] at h
  by_cases c86 : a0 = 86
  · rw [if_pos c86] at h
    exact euc_Getksc.calls k a0 A1 c1 l1 r1 r2 r3 r4 r5 r6 r7 r8 r9 w hr1 hc1 ⟨c86⟩ h
  rw [if_neg c86] at h
  cases h
def euc_Set.f (k : Nat) (a0 : Int) (a1 : Int) : Option (Int × ByteArray × Int × Int × Int × Int) := if a0 = 81 then euc_Setjis.f k a0 a1 else if a0 = 84 then euc_Setgb.f k a0 a1 else if a0 = 86 then euc_Setksc.f k a0 a1 else none
theorem euc_Set.mono : ∀ a0 a1 k, LeO (euc_Set.f k a0 a1) (euc_Set.f (k + 1) a0 a1) := by
  intro a0 a1 k
  unfold euc_Set.f
  exact LeO.ite (euc_Setjis.mono _ _ _) (LeO.ite (euc_Setgb.mono _ _ _) (LeO.ite (euc_Setksc.mono _ _ _) (LeO.none _)))
theorem euc_Set.calls (k : Nat) (a0 : Int) (a1 : Int) (r1 : Int) (r2 : ByteArray) (r3 : Int) (r4 : Int) (r5 : Int) (r6 : Int) (w : World) (h : euc_Set.f k a0 a1 = some (r1, r2, r3, r4, r5, r6)) :
    Calls Try.prog 44 #[.int .i64 a0, .int .i32 a1] w fun e w' => e = .returned (.agg #[.int .i64 r1, .string r2, .int .i64 r3, .int .i64 r4, .int .u32 r5, .int .i32 r6]) ∧ Below w.heap.size w w' := by
  unfold euc_Set.f at h
  by_cases c81 : a0 = 81
  · rw [if_pos c81] at h
    exact euc_Setjis.calls k a0 a1 r1 r2 r3 r4 r5 r6 w ⟨c81⟩ h
  rw [if_neg c81] at h
  by_cases c84 : a0 = 84
  · rw [if_pos c84] at h
    exact euc_Setgb.calls k a0 a1 r1 r2 r3 r4 r5 r6 w ⟨c84⟩ h
  rw [if_neg c84] at h
  by_cases c86 : a0 = 86
  · rw [if_pos c86] at h
    exact euc_Setksc.calls k a0 a1 r1 r2 r3 r4 r5 r6 w ⟨c86⟩ h
  rw [if_neg c86] at h
  cases h
end Go.Proofs.Ytenmanionddamaa.Q
