/- Plain laws of euc: Get of a pair and of a low byte, Set in closed form, for the three kinds. Conditions: each theorem states its own. -/
import Derived.Test.YtenmanionddamaaXEuc
import Derived.Test.YtenmanionddamaaQdragomanlaw17a
import Derived.Test.YtenmanionddamaaLJis
import Derived.Test.YtenmanionddamaaLPlace
import Derived.Test.YtenmanionddamaaLBytes
namespace Go.Proofs.Ytenmanionddamaa.Q
open Go.RowKit Go.Proofs.YtenmanionddamaaW.PrintWords Go.Proofs.YtenmanionddamaaW.PrintLast
set_option linter.unusedVariables false
set_option linter.unusedSimpArgs false
theorem graphic_eq (c : Int) (hc : 161 ≤ c ∧ c ≤ 254) : euc_graphic.f c = some true := by
  unfold euc_graphic.f
  rw [if_pos (by omega), decide_eq_true (by omega)]
theorem getjis_pair (k : Nat) (c d : Int) (r : List Int) (hc : 161 ≤ c ∧ c ≤ 254) (hd : 161 ≤ d ∧ d ≤ 254) : euc_Get.f (k + 2) 81 (c :: d :: r) = some (if (scalarOf (jisRow (c - 160)) (d - 160)).2 = true then (0, 2, 1, (scalarOf (jisRow (c - 160)) (d - 160)).1, 0, 0, 0, 0, 0) else (10, 2, 0, 0, 0, 0, 0, 0, 0)) := by
  have hl : 1 < ((c :: d :: r).length : Int) := by simp <;> omega
  have hx : euc_Get.f (k + 2) 81 (c :: d :: r) = euc_Getjis.f (k + 2) 81 (c :: d :: r) := rfl
  have hr : euc_rowsOf.f 81 = some (57, 46, true, true) := rfl
  have e : (c == 142) = false := by simp; omega
  rw [hx]
  unfold euc_Getjis.f
  rw [hr]
  simp only [Option.bind_some, if_true, Bool.false_eq_true, if_false]
  rw [if_neg (by omega), if_pos (by omega), show rd (c :: d :: r) 0 = c from rfl, if_neg (by omega)]
  try rw [e]
  simp only [euc_Getjis.j0, Bool.false_eq_true, if_false]
  rw [if_pos (by omega), show rd (c :: d :: r) 0 = c from rfl, graphic_eq c hc]
  simp only [Option.bind_some, Bool.not_true, euc_Getjis.j1, Bool.false_eq_true, if_false]
  rw [if_neg (by omega), if_pos hl, show rd (c :: d :: r) 1 = d from rfl, graphic_eq d hd]
  simp only [Option.bind_some, if_true]
  rw [if_pos (by omega), show rd (c :: d :: r) 0 = c from rfl, w64 (x := c) (by omega) (by omega), w64 (x := d) (by omega) (by omega), w64 (x := c - 160) (by omega) (by omega), w64 (x := d - 160) (by omega) (by omega)]
  unfold jis_Scalar.f
  simp only [Option.bind_some]
  split <;> rfl
theorem getjis_low (k : Nat) (u : Int) (r : List Int) (h : 0 ≤ u ∧ u < 128) : euc_Get.f k 81 (u :: r) = some (0, 1, 1, u, 0, 0, 0, 0, 0) := by
  have hl : 0 < ((u :: r).length : Int) := by simp <;> omega
  have hx : euc_Get.f k 81 (u :: r) = euc_Getjis.f k 81 (u :: r) := rfl
  have hr : euc_rowsOf.f 81 = some (57, 46, true, true) := rfl
  rw [hx]
  unfold euc_Getjis.f
  rw [hr]
  simp only [Option.bind_some, if_true]
  rw [if_neg (by omega), if_pos hl, show rd (u :: r) 0 = u from rfl, if_pos (by omega), w32 (x := u) (by omega) (by omega)]
theorem setjis_low (k : Nat) (u : Int) (h : 0 ≤ u ∧ u < 128) : euc_Set.f (k + 1) 81 u = some (0, strOfNums [u % 256], 0, 0, 0, 0) := by
  have hx : euc_Set.f (k + 1) 81 u = euc_Setjis.f (k + 1) 81 u := rfl
  have hr : euc_rowsOf.f 81 = some (57, 46, true, true) := rfl
  rw [hx]
  unfold euc_Setjis.f
  rw [hr]
  simp only [Option.bind_some, if_true]
  rw [if_pos (by omega), decide_eq_true h.2]
  simp only [euc_Setjis.j0, if_true]
theorem setjis_else (k : Nat) (u : Int) (h0 : -2147483648 ≤ u) (h9 : u < 2147483648) (h : ¬ (0 ≤ u ∧ u < 128)) : euc_Set.f (k + 2) 81 u = some (if (placeOf jisRow u).2.2 = true then (0, strOfNums [(wrap64 (160 + (placeOf jisRow u).1)) % 256, (wrap64 (160 + (placeOf jisRow u).2.1)) % 256], 0, 0, 0, 0) else if (halfByteOf u).2 = true ∧ (halfByteOf u).1 > 128 then (0, strOfNums [142, (halfByteOf u).1], 0, 0, 0, 0) else (11, ⟨#[]⟩, 0, 0, 0, 0)) := by
  have hx : euc_Set.f (k + 2) 81 u = euc_Setjis.f (k + 2) 81 u := rfl
  have hr : euc_rowsOf.f 81 = some (57, 46, true, true) := rfl
  rw [hx]
  unfold euc_Setjis.f
  rw [hr]
  simp only [Option.bind_some, if_true]
  have hj : (if u ≥ 0 then euc_Setjis.j0 (k + 2) u (decide (u < 128)) 57 46 true else euc_Setjis.j0 (k + 2) u false 57 46 true) = euc_Setjis.j0 (k + 2) u false 57 46 true := by
    by_cases g : u ≥ 0
    · rw [if_pos g, decide_eq_false (by omega)]
    · rw [if_neg g]
  rw [hj]
  simp only [euc_Setjis.j0, Bool.false_eq_true, if_false]
  unfold jis_Place.f
  simp only [Option.bind_some]
  by_cases p : (placeOf jisRow u).2.2 = true
  · rw [if_pos p, if_pos p]
  rw [if_neg p, if_neg p, jis_HalfByte_eq k u h0 h9]
  simp only [Option.bind_some, if_true]
  by_cases q : (halfByteOf u).2 = true
  · rw [if_pos q]
    by_cases s : (halfByteOf u).1 > 128
    · rw [if_pos s, if_pos ⟨q, s⟩]
    · rw [if_neg s, if_neg (fun x => s x.2)]
  · rw [if_neg q, if_neg (fun x => q x.1)]
theorem getgb_pair (k : Nat) (c d : Int) (r : List Int) (hc : 161 ≤ c ∧ c ≤ 254) (hd : 161 ≤ d ∧ d ≤ 254) : euc_Get.f (k + 2) 84 (c :: d :: r) = some (if (scalarOf (gbRow (c - 160)) (d - 160)).2 = true then (0, 2, 1, (scalarOf (gbRow (c - 160)) (d - 160)).1, 0, 0, 0, 0, 0) else (10, 2, 0, 0, 0, 0, 0, 0, 0)) := by
  have hl : 1 < ((c :: d :: r).length : Int) := by simp <;> omega
  have hx : euc_Get.f (k + 2) 84 (c :: d :: r) = euc_Getgb.f (k + 2) 84 (c :: d :: r) := rfl
  have hr : euc_rowsOf.f 84 = some (61, 52, false, true) := rfl
  have e : (c == 142) = false := by simp; omega
  rw [hx]
  unfold euc_Getgb.f
  rw [hr]
  simp only [Option.bind_some, if_true, Bool.false_eq_true, if_false]
  rw [if_neg (by omega), if_pos (by omega), show rd (c :: d :: r) 0 = c from rfl, if_neg (by omega)]
  try rw [e]
  simp only [euc_Getgb.j0, Bool.false_eq_true, if_false]
  rw [if_pos (by omega), show rd (c :: d :: r) 0 = c from rfl, graphic_eq c hc]
  simp only [Option.bind_some, Bool.not_true, euc_Getgb.j1, Bool.false_eq_true, if_false]
  rw [if_neg (by omega), if_pos hl, show rd (c :: d :: r) 1 = d from rfl, graphic_eq d hd]
  simp only [Option.bind_some, if_true]
  rw [if_pos (by omega), show rd (c :: d :: r) 0 = c from rfl, w64 (x := c) (by omega) (by omega), w64 (x := d) (by omega) (by omega), w64 (x := c - 160) (by omega) (by omega), w64 (x := d - 160) (by omega) (by omega)]
  unfold gb_Scalar.f
  simp only [Option.bind_some]
  split <;> rfl
theorem getgb_low (k : Nat) (u : Int) (r : List Int) (h : 0 ≤ u ∧ u < 128) : euc_Get.f k 84 (u :: r) = some (0, 1, 1, u, 0, 0, 0, 0, 0) := by
  have hl : 0 < ((u :: r).length : Int) := by simp <;> omega
  have hx : euc_Get.f k 84 (u :: r) = euc_Getgb.f k 84 (u :: r) := rfl
  have hr : euc_rowsOf.f 84 = some (61, 52, false, true) := rfl
  rw [hx]
  unfold euc_Getgb.f
  rw [hr]
  simp only [Option.bind_some, if_true]
  rw [if_neg (by omega), if_pos hl, show rd (u :: r) 0 = u from rfl, if_pos (by omega), w32 (x := u) (by omega) (by omega)]
theorem setgb_low (k : Nat) (u : Int) (h : 0 ≤ u ∧ u < 128) : euc_Set.f (k + 1) 84 u = some (0, strOfNums [u % 256], 0, 0, 0, 0) := by
  have hx : euc_Set.f (k + 1) 84 u = euc_Setgb.f (k + 1) 84 u := rfl
  have hr : euc_rowsOf.f 84 = some (61, 52, false, true) := rfl
  rw [hx]
  unfold euc_Setgb.f
  rw [hr]
  simp only [Option.bind_some, if_true]
  rw [if_pos (by omega), decide_eq_true h.2]
  simp only [euc_Setgb.j0, if_true]
theorem setgb_else (k : Nat) (u : Int) (h0 : -2147483648 ≤ u) (h9 : u < 2147483648) (h : ¬ (0 ≤ u ∧ u < 128)) : euc_Set.f (k + 2) 84 u = some (if (placeOf gbRow u).2.2 = true then (0, strOfNums [(wrap64 (160 + (placeOf gbRow u).1)) % 256, (wrap64 (160 + (placeOf gbRow u).2.1)) % 256], 0, 0, 0, 0) else (11, ⟨#[]⟩, 0, 0, 0, 0)) := by
  have hx : euc_Set.f (k + 2) 84 u = euc_Setgb.f (k + 2) 84 u := rfl
  have hr : euc_rowsOf.f 84 = some (61, 52, false, true) := rfl
  rw [hx]
  unfold euc_Setgb.f
  rw [hr]
  simp only [Option.bind_some, if_true]
  have hj : (if u ≥ 0 then euc_Setgb.j0 (k + 2) u (decide (u < 128)) 61 52 false else euc_Setgb.j0 (k + 2) u false 61 52 false) = euc_Setgb.j0 (k + 2) u false 61 52 false := by
    by_cases g : u ≥ 0
    · rw [if_pos g, decide_eq_false (by omega)]
    · rw [if_neg g]
  rw [hj]
  simp only [euc_Setgb.j0, Bool.false_eq_true, if_false]
  unfold gb_Place.f
  simp only [Option.bind_some]
  by_cases p : (placeOf gbRow u).2.2 = true
  · rw [if_pos p, if_pos p]
  rw [if_neg p, if_neg p, jis_HalfByte_eq k u h0 h9]
  simp only [Option.bind_some, Bool.false_eq_true, if_false]
theorem getksc_pair (k : Nat) (c d : Int) (r : List Int) (hc : 161 ≤ c ∧ c ≤ 254) (hd : 161 ≤ d ∧ d ≤ 254) : euc_Get.f (k + 2) 86 (c :: d :: r) = some (if (scalarOf (kscRow (c - 160)) (d - 160)).2 = true then (0, 2, 1, (scalarOf (kscRow (c - 160)) (d - 160)).1, 0, 0, 0, 0, 0) else (10, 2, 0, 0, 0, 0, 0, 0, 0)) := by
  have hl : 1 < ((c :: d :: r).length : Int) := by simp <;> omega
  have hx : euc_Get.f (k + 2) 86 (c :: d :: r) = euc_Getksc.f (k + 2) 86 (c :: d :: r) := rfl
  have hr : euc_rowsOf.f 86 = some (87, 91, false, true) := rfl
  have e : (c == 142) = false := by simp; omega
  rw [hx]
  unfold euc_Getksc.f
  rw [hr]
  simp only [Option.bind_some, if_true, Bool.false_eq_true, if_false]
  rw [if_neg (by omega), if_pos (by omega), show rd (c :: d :: r) 0 = c from rfl, if_neg (by omega)]
  try rw [e]
  simp only [euc_Getksc.j0, Bool.false_eq_true, if_false]
  rw [if_pos (by omega), show rd (c :: d :: r) 0 = c from rfl, graphic_eq c hc]
  simp only [Option.bind_some, Bool.not_true, euc_Getksc.j1, Bool.false_eq_true, if_false]
  rw [if_neg (by omega), if_pos hl, show rd (c :: d :: r) 1 = d from rfl, graphic_eq d hd]
  simp only [Option.bind_some, if_true]
  rw [if_pos (by omega), show rd (c :: d :: r) 0 = c from rfl, w64 (x := c) (by omega) (by omega), w64 (x := d) (by omega) (by omega), w64 (x := c - 160) (by omega) (by omega), w64 (x := d - 160) (by omega) (by omega)]
  unfold ksc_Scalar.f
  simp only [Option.bind_some]
  split <;> rfl
theorem getksc_low (k : Nat) (u : Int) (r : List Int) (h : 0 ≤ u ∧ u < 128) : euc_Get.f k 86 (u :: r) = some (0, 1, 1, u, 0, 0, 0, 0, 0) := by
  have hl : 0 < ((u :: r).length : Int) := by simp <;> omega
  have hx : euc_Get.f k 86 (u :: r) = euc_Getksc.f k 86 (u :: r) := rfl
  have hr : euc_rowsOf.f 86 = some (87, 91, false, true) := rfl
  rw [hx]
  unfold euc_Getksc.f
  rw [hr]
  simp only [Option.bind_some, if_true]
  rw [if_neg (by omega), if_pos hl, show rd (u :: r) 0 = u from rfl, if_pos (by omega), w32 (x := u) (by omega) (by omega)]
theorem setksc_low (k : Nat) (u : Int) (h : 0 ≤ u ∧ u < 128) : euc_Set.f (k + 1) 86 u = some (0, strOfNums [u % 256], 0, 0, 0, 0) := by
  have hx : euc_Set.f (k + 1) 86 u = euc_Setksc.f (k + 1) 86 u := rfl
  have hr : euc_rowsOf.f 86 = some (87, 91, false, true) := rfl
  rw [hx]
  unfold euc_Setksc.f
  rw [hr]
  simp only [Option.bind_some, if_true]
  rw [if_pos (by omega), decide_eq_true h.2]
  simp only [euc_Setksc.j0, if_true]
theorem setksc_else (k : Nat) (u : Int) (h0 : -2147483648 ≤ u) (h9 : u < 2147483648) (h : ¬ (0 ≤ u ∧ u < 128)) : euc_Set.f (k + 2) 86 u = some (if (placeOf kscRow u).2.2 = true then (0, strOfNums [(wrap64 (160 + (placeOf kscRow u).1)) % 256, (wrap64 (160 + (placeOf kscRow u).2.1)) % 256], 0, 0, 0, 0) else (11, ⟨#[]⟩, 0, 0, 0, 0)) := by
  have hx : euc_Set.f (k + 2) 86 u = euc_Setksc.f (k + 2) 86 u := rfl
  have hr : euc_rowsOf.f 86 = some (87, 91, false, true) := rfl
  rw [hx]
  unfold euc_Setksc.f
  rw [hr]
  simp only [Option.bind_some, if_true]
  have hj : (if u ≥ 0 then euc_Setksc.j0 (k + 2) u (decide (u < 128)) 87 91 false else euc_Setksc.j0 (k + 2) u false 87 91 false) = euc_Setksc.j0 (k + 2) u false 87 91 false := by
    by_cases g : u ≥ 0
    · rw [if_pos g, decide_eq_false (by omega)]
    · rw [if_neg g]
  rw [hj]
  simp only [euc_Setksc.j0, Bool.false_eq_true, if_false]
  unfold ksc_Place.f
  simp only [Option.bind_some]
  by_cases p : (placeOf kscRow u).2.2 = true
  · rw [if_pos p, if_pos p]
  rw [if_neg p, if_neg p, jis_HalfByte_eq k u h0 h9]
  simp only [Option.bind_some, Bool.false_eq_true, if_false]
theorem works17 (k : Nat) : dragomanlaw17_works.f (k + 2) = some true := by
  unfold dragomanlaw17_works.f
  rw [getjis_pair k 164 162 [] (by decide) (by decide), setksc_else k 44032 (by decide) (by decide) (by decide), getgb_pair k 254 254 [] (by decide) (by decide)]
  have h1 : scalarOf (jisRow (164 - 160)) (162 - 160) = (12354, true) := by decide +kernel
  have h2 : placeOf kscRow 44032 = (16, 1, true) := by decide +kernel
  have h3 : (scalarOf (gbRow (254 - 160)) (254 - 160)).2 = false := by decide +kernel
  rw [h1, h2, h3]
  simp only [Option.bind_some, if_true, Bool.false_eq_true, if_false]
  rw [show strOfNums [wrap64 (160 + 16) % 256, wrap64 (160 + 1) % 256] = ⟨#[176, 161]⟩ by decide +kernel, ByteArray.toList_eq]
  rfl
end Go.Proofs.Ytenmanionddamaa.Q
