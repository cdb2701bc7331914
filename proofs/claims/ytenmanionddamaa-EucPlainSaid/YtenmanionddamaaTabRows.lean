import Derived.Test.YtenmanionddamaaProg
import Derived.Test.YtenmanionddamaaTabs
import Derived.Great.BuildSlice
import Derived.Great.Ranges
import Derived.Great.Walk
import Derived.Below
import Derived.WalkKit
import Derived.OwnWalk
import Derived.KernelRfl
namespace Go.Proofs.Ytenmanionddamaa
open Go.RowKit Go.Great
set_option linter.unusedVariables false
set_option linter.unusedSimpArgs false
theorem s90 : (Try.prog.info? 90).map (·.size) = some 1 := by kernel_rfl
/-- a row's block -/
def rowBlock (zs : List Int) (t : TypeId) : Obj := .cells (zs.map (Value.int .u16)).toArray t
section
attribute [local irreducible] wpList Code.wp

theorem u104 : Try.prog.underlying 104 = some (.array 94 90) := by kernel_rfl
theorem z104 : ((Try.prog.info? 104).bind (·.zero)).map (·.cells.size) = some 94 := by kernel_rfl
set_option maxRecDepth 100000 in
theorem jis_row1_calls (w : World) : Calls Try.prog 96 #[] w fun e w' => e = .returned (.pointer (some ⟨w.heap.size, 0, none⟩)) ∧ w' = w.alloc (rowBlock jisR1 104) := by
  refine calls_of_wp Try.func96 rfl ?_
  refine wp_anyFrame 3 (by as_aux_lemma => kernel_rfl) rfl fun a0 hs0 hd0 => ?_
  apply wp_seq_k; intro K0 hK0
  apply wp_region_lit
  refine wpList_runTo rfl _ rfl (.pointer none) w (by as_aux_lemma => kernel_rfl) ?_
  apply wpList_nil
  refine hK0 _ _ ?_
  refine wp_anyFrame 3 (by simp only [Act.size_put, hs0]) (by simp only [Act.defers_put', hd0]) fun a1 hs1 hd1 => ?_
  clear hK0 K0
  apply wp_seq_k; intro K1 hK1
  apply wp_region_lit
  refine wpList_buildFlatArrTo rfl 104 90 94 _ rfl .u16 jisR1 (some 1) rfl u104 s90 z104 (by as_aux_lemma => kernel_rfl) ?_
  refine wpList_boxTo rfl 104 (.tmp 1) rfl (some 2) rfl w.heap.size rfl ((jisR1.map (Value.int .u16)).toArray) ?_ ?_
  · rw [Act.eval_put_same _ 1 _ (by simp only [hs1]; omega)]; rfl
  refine wpList_runTo rfl (some 0) rfl (.pointer (some ⟨w.heap.size, 0, none⟩)) (w.alloc (.cells (jisR1.map (Value.int .u16)).toArray 104)) ?_ ?_
  · show Result.ok (Next.value (Act.eval _ (.tmp 2))) _ = _
    rw [Act.eval_put_same _ 2 _ (by simp only [Act.size_put, hs1]; omega)]
  apply wpList_nil
  refine hK1 _ _ ?_
  apply wp_ret
  refine bodyPost_ret (results_tmp rfl _ _ _) (by simp only [Act.defers_put', hd1]) ⟨?_, rfl⟩
  exact congrArg Ending.returned (Act.eval_put_same _ 0 _ (by simp only [Act.size_put, hs1]; omega))
set_option maxRecDepth 100000 in
theorem jis_row2_calls (w : World) : Calls Try.prog 97 #[] w fun e w' => e = .returned (.pointer (some ⟨w.heap.size, 0, none⟩)) ∧ w' = w.alloc (rowBlock jisR2 104) := by
  refine calls_of_wp Try.func97 rfl ?_
  refine wp_anyFrame 3 (by as_aux_lemma => kernel_rfl) rfl fun a0 hs0 hd0 => ?_
  apply wp_seq_k; intro K0 hK0
  apply wp_region_lit
  refine wpList_runTo rfl _ rfl (.pointer none) w (by as_aux_lemma => kernel_rfl) ?_
  apply wpList_nil
  refine hK0 _ _ ?_
  refine wp_anyFrame 3 (by simp only [Act.size_put, hs0]) (by simp only [Act.defers_put', hd0]) fun a1 hs1 hd1 => ?_
  clear hK0 K0
  apply wp_seq_k; intro K1 hK1
  apply wp_region_lit
  refine wpList_buildFlatArrTo rfl 104 90 94 _ rfl .u16 jisR2 (some 1) rfl u104 s90 z104 (by as_aux_lemma => kernel_rfl) ?_
  refine wpList_boxTo rfl 104 (.tmp 1) rfl (some 2) rfl w.heap.size rfl ((jisR2.map (Value.int .u16)).toArray) ?_ ?_
  · rw [Act.eval_put_same _ 1 _ (by simp only [hs1]; omega)]; rfl
  refine wpList_runTo rfl (some 0) rfl (.pointer (some ⟨w.heap.size, 0, none⟩)) (w.alloc (.cells (jisR2.map (Value.int .u16)).toArray 104)) ?_ ?_
  · show Result.ok (Next.value (Act.eval _ (.tmp 2))) _ = _
    rw [Act.eval_put_same _ 2 _ (by simp only [Act.size_put, hs1]; omega)]
  apply wpList_nil
  refine hK1 _ _ ?_
  apply wp_ret
  refine bodyPost_ret (results_tmp rfl _ _ _) (by simp only [Act.defers_put', hd1]) ⟨?_, rfl⟩
  exact congrArg Ending.returned (Act.eval_put_same _ 0 _ (by simp only [Act.size_put, hs1]; omega))
set_option maxRecDepth 100000 in
theorem jis_row3_calls (w : World) : Calls Try.prog 98 #[] w fun e w' => e = .returned (.pointer (some ⟨w.heap.size, 0, none⟩)) ∧ w' = w.alloc (rowBlock jisR3 104) := by
  refine calls_of_wp Try.func98 rfl ?_
  refine wp_anyFrame 3 (by as_aux_lemma => kernel_rfl) rfl fun a0 hs0 hd0 => ?_
  apply wp_seq_k; intro K0 hK0
  apply wp_region_lit
  refine wpList_runTo rfl _ rfl (.pointer none) w (by as_aux_lemma => kernel_rfl) ?_
  apply wpList_nil
  refine hK0 _ _ ?_
  refine wp_anyFrame 3 (by simp only [Act.size_put, hs0]) (by simp only [Act.defers_put', hd0]) fun a1 hs1 hd1 => ?_
  clear hK0 K0
  apply wp_seq_k; intro K1 hK1
  apply wp_region_lit
  refine wpList_buildFlatArrTo rfl 104 90 94 _ rfl .u16 jisR3 (some 1) rfl u104 s90 z104 (by as_aux_lemma => kernel_rfl) ?_
  refine wpList_boxTo rfl 104 (.tmp 1) rfl (some 2) rfl w.heap.size rfl ((jisR3.map (Value.int .u16)).toArray) ?_ ?_
  · rw [Act.eval_put_same _ 1 _ (by simp only [hs1]; omega)]; rfl
  refine wpList_runTo rfl (some 0) rfl (.pointer (some ⟨w.heap.size, 0, none⟩)) (w.alloc (.cells (jisR3.map (Value.int .u16)).toArray 104)) ?_ ?_
  · show Result.ok (Next.value (Act.eval _ (.tmp 2))) _ = _
    rw [Act.eval_put_same _ 2 _ (by simp only [Act.size_put, hs1]; omega)]
  apply wpList_nil
  refine hK1 _ _ ?_
  apply wp_ret
  refine bodyPost_ret (results_tmp rfl _ _ _) (by simp only [Act.defers_put', hd1]) ⟨?_, rfl⟩
  exact congrArg Ending.returned (Act.eval_put_same _ 0 _ (by simp only [Act.size_put, hs1]; omega))
set_option maxRecDepth 100000 in
theorem jis_row4_calls (w : World) : Calls Try.prog 99 #[] w fun e w' => e = .returned (.pointer (some ⟨w.heap.size, 0, none⟩)) ∧ w' = w.alloc (rowBlock jisR4 104) := by
  refine calls_of_wp Try.func99 rfl ?_
  refine wp_anyFrame 3 (by as_aux_lemma => kernel_rfl) rfl fun a0 hs0 hd0 => ?_
  apply wp_seq_k; intro K0 hK0
  apply wp_region_lit
  refine wpList_runTo rfl _ rfl (.pointer none) w (by as_aux_lemma => kernel_rfl) ?_
  apply wpList_nil
  refine hK0 _ _ ?_
  refine wp_anyFrame 3 (by simp only [Act.size_put, hs0]) (by simp only [Act.defers_put', hd0]) fun a1 hs1 hd1 => ?_
  clear hK0 K0
  apply wp_seq_k; intro K1 hK1
  apply wp_region_lit
  refine wpList_buildFlatArrTo rfl 104 90 94 _ rfl .u16 jisR4 (some 1) rfl u104 s90 z104 (by as_aux_lemma => kernel_rfl) ?_
  refine wpList_boxTo rfl 104 (.tmp 1) rfl (some 2) rfl w.heap.size rfl ((jisR4.map (Value.int .u16)).toArray) ?_ ?_
  · rw [Act.eval_put_same _ 1 _ (by simp only [hs1]; omega)]; rfl
  refine wpList_runTo rfl (some 0) rfl (.pointer (some ⟨w.heap.size, 0, none⟩)) (w.alloc (.cells (jisR4.map (Value.int .u16)).toArray 104)) ?_ ?_
  · show Result.ok (Next.value (Act.eval _ (.tmp 2))) _ = _
    rw [Act.eval_put_same _ 2 _ (by simp only [Act.size_put, hs1]; omega)]
  apply wpList_nil
  refine hK1 _ _ ?_
  apply wp_ret
  refine bodyPost_ret (results_tmp rfl _ _ _) (by simp only [Act.defers_put', hd1]) ⟨?_, rfl⟩
  exact congrArg Ending.returned (Act.eval_put_same _ 0 _ (by simp only [Act.size_put, hs1]; omega))
set_option maxRecDepth 100000 in
theorem jis_row5_calls (w : World) : Calls Try.prog 100 #[] w fun e w' => e = .returned (.pointer (some ⟨w.heap.size, 0, none⟩)) ∧ w' = w.alloc (rowBlock jisR5 104) := by
  refine calls_of_wp Try.func100 rfl ?_
  refine wp_anyFrame 3 (by as_aux_lemma => kernel_rfl) rfl fun a0 hs0 hd0 => ?_
  apply wp_seq_k; intro K0 hK0
  apply wp_region_lit
  refine wpList_runTo rfl _ rfl (.pointer none) w (by as_aux_lemma => kernel_rfl) ?_
  apply wpList_nil
  refine hK0 _ _ ?_
  refine wp_anyFrame 3 (by simp only [Act.size_put, hs0]) (by simp only [Act.defers_put', hd0]) fun a1 hs1 hd1 => ?_
  clear hK0 K0
  apply wp_seq_k; intro K1 hK1
  apply wp_region_lit
  refine wpList_buildFlatArrTo rfl 104 90 94 _ rfl .u16 jisR5 (some 1) rfl u104 s90 z104 (by as_aux_lemma => kernel_rfl) ?_
  refine wpList_boxTo rfl 104 (.tmp 1) rfl (some 2) rfl w.heap.size rfl ((jisR5.map (Value.int .u16)).toArray) ?_ ?_
  · rw [Act.eval_put_same _ 1 _ (by simp only [hs1]; omega)]; rfl
  refine wpList_runTo rfl (some 0) rfl (.pointer (some ⟨w.heap.size, 0, none⟩)) (w.alloc (.cells (jisR5.map (Value.int .u16)).toArray 104)) ?_ ?_
  · show Result.ok (Next.value (Act.eval _ (.tmp 2))) _ = _
    rw [Act.eval_put_same _ 2 _ (by simp only [Act.size_put, hs1]; omega)]
  apply wpList_nil
  refine hK1 _ _ ?_
  apply wp_ret
  refine bodyPost_ret (results_tmp rfl _ _ _) (by simp only [Act.defers_put', hd1]) ⟨?_, rfl⟩
  exact congrArg Ending.returned (Act.eval_put_same _ 0 _ (by simp only [Act.size_put, hs1]; omega))
set_option maxRecDepth 100000 in
theorem jis_row6_calls (w : World) : Calls Try.prog 101 #[] w fun e w' => e = .returned (.pointer (some ⟨w.heap.size, 0, none⟩)) ∧ w' = w.alloc (rowBlock jisR6 104) := by
  refine calls_of_wp Try.func101 rfl ?_
  refine wp_anyFrame 3 (by as_aux_lemma => kernel_rfl) rfl fun a0 hs0 hd0 => ?_
  apply wp_seq_k; intro K0 hK0
  apply wp_region_lit
  refine wpList_runTo rfl _ rfl (.pointer none) w (by as_aux_lemma => kernel_rfl) ?_
  apply wpList_nil
  refine hK0 _ _ ?_
  refine wp_anyFrame 3 (by simp only [Act.size_put, hs0]) (by simp only [Act.defers_put', hd0]) fun a1 hs1 hd1 => ?_
  clear hK0 K0
  apply wp_seq_k; intro K1 hK1
  apply wp_region_lit
  refine wpList_buildFlatArrTo rfl 104 90 94 _ rfl .u16 jisR6 (some 1) rfl u104 s90 z104 (by as_aux_lemma => kernel_rfl) ?_
  refine wpList_boxTo rfl 104 (.tmp 1) rfl (some 2) rfl w.heap.size rfl ((jisR6.map (Value.int .u16)).toArray) ?_ ?_
  · rw [Act.eval_put_same _ 1 _ (by simp only [hs1]; omega)]; rfl
  refine wpList_runTo rfl (some 0) rfl (.pointer (some ⟨w.heap.size, 0, none⟩)) (w.alloc (.cells (jisR6.map (Value.int .u16)).toArray 104)) ?_ ?_
  · show Result.ok (Next.value (Act.eval _ (.tmp 2))) _ = _
    rw [Act.eval_put_same _ 2 _ (by simp only [Act.size_put, hs1]; omega)]
  apply wpList_nil
  refine hK1 _ _ ?_
  apply wp_ret
  refine bodyPost_ret (results_tmp rfl _ _ _) (by simp only [Act.defers_put', hd1]) ⟨?_, rfl⟩
  exact congrArg Ending.returned (Act.eval_put_same _ 0 _ (by simp only [Act.size_put, hs1]; omega))
set_option maxRecDepth 100000 in
theorem jis_row7_calls (w : World) : Calls Try.prog 102 #[] w fun e w' => e = .returned (.pointer (some ⟨w.heap.size, 0, none⟩)) ∧ w' = w.alloc (rowBlock jisR7 104) := by
  refine calls_of_wp Try.func102 rfl ?_
  refine wp_anyFrame 3 (by as_aux_lemma => kernel_rfl) rfl fun a0 hs0 hd0 => ?_
  apply wp_seq_k; intro K0 hK0
  apply wp_region_lit
  refine wpList_runTo rfl _ rfl (.pointer none) w (by as_aux_lemma => kernel_rfl) ?_
  apply wpList_nil
  refine hK0 _ _ ?_
  refine wp_anyFrame 3 (by simp only [Act.size_put, hs0]) (by simp only [Act.defers_put', hd0]) fun a1 hs1 hd1 => ?_
  clear hK0 K0
  apply wp_seq_k; intro K1 hK1
  apply wp_region_lit
  refine wpList_buildFlatArrTo rfl 104 90 94 _ rfl .u16 jisR7 (some 1) rfl u104 s90 z104 (by as_aux_lemma => kernel_rfl) ?_
  refine wpList_boxTo rfl 104 (.tmp 1) rfl (some 2) rfl w.heap.size rfl ((jisR7.map (Value.int .u16)).toArray) ?_ ?_
  · rw [Act.eval_put_same _ 1 _ (by simp only [hs1]; omega)]; rfl
  refine wpList_runTo rfl (some 0) rfl (.pointer (some ⟨w.heap.size, 0, none⟩)) (w.alloc (.cells (jisR7.map (Value.int .u16)).toArray 104)) ?_ ?_
  · show Result.ok (Next.value (Act.eval _ (.tmp 2))) _ = _
    rw [Act.eval_put_same _ 2 _ (by simp only [Act.size_put, hs1]; omega)]
  apply wpList_nil
  refine hK1 _ _ ?_
  apply wp_ret
  refine bodyPost_ret (results_tmp rfl _ _ _) (by simp only [Act.defers_put', hd1]) ⟨?_, rfl⟩
  exact congrArg Ending.returned (Act.eval_put_same _ 0 _ (by simp only [Act.size_put, hs1]; omega))
set_option maxRecDepth 100000 in
theorem jis_row8_calls (w : World) : Calls Try.prog 103 #[] w fun e w' => e = .returned (.pointer (some ⟨w.heap.size, 0, none⟩)) ∧ w' = w.alloc (rowBlock jisR8 104) := by
  refine calls_of_wp Try.func103 rfl ?_
  refine wp_anyFrame 3 (by as_aux_lemma => kernel_rfl) rfl fun a0 hs0 hd0 => ?_
  apply wp_seq_k; intro K0 hK0
  apply wp_region_lit
  refine wpList_runTo rfl _ rfl (.pointer none) w (by as_aux_lemma => kernel_rfl) ?_
  apply wpList_nil
  refine hK0 _ _ ?_
  refine wp_anyFrame 3 (by simp only [Act.size_put, hs0]) (by simp only [Act.defers_put', hd0]) fun a1 hs1 hd1 => ?_
  clear hK0 K0
  apply wp_seq_k; intro K1 hK1
  apply wp_region_lit
  refine wpList_buildFlatArrTo rfl 104 90 94 _ rfl .u16 jisR8 (some 1) rfl u104 s90 z104 (by as_aux_lemma => kernel_rfl) ?_
  refine wpList_boxTo rfl 104 (.tmp 1) rfl (some 2) rfl w.heap.size rfl ((jisR8.map (Value.int .u16)).toArray) ?_ ?_
  · rw [Act.eval_put_same _ 1 _ (by simp only [hs1]; omega)]; rfl
  refine wpList_runTo rfl (some 0) rfl (.pointer (some ⟨w.heap.size, 0, none⟩)) (w.alloc (.cells (jisR8.map (Value.int .u16)).toArray 104)) ?_ ?_
  · show Result.ok (Next.value (Act.eval _ (.tmp 2))) _ = _
    rw [Act.eval_put_same _ 2 _ (by simp only [Act.size_put, hs1]; omega)]
  apply wpList_nil
  refine hK1 _ _ ?_
  apply wp_ret
  refine bodyPost_ret (results_tmp rfl _ _ _) (by simp only [Act.defers_put', hd1]) ⟨?_, rfl⟩
  exact congrArg Ending.returned (Act.eval_put_same _ 0 _ (by simp only [Act.size_put, hs1]; omega))
set_option maxRecDepth 100000 in
theorem jis_row16_calls (w : World) : Calls Try.prog 104 #[] w fun e w' => e = .returned (.pointer (some ⟨w.heap.size, 0, none⟩)) ∧ w' = w.alloc (rowBlock jisR16 104) := by
  refine calls_of_wp Try.func104 rfl ?_
  refine wp_anyFrame 3 (by as_aux_lemma => kernel_rfl) rfl fun a0 hs0 hd0 => ?_
  apply wp_seq_k; intro K0 hK0
  apply wp_region_lit
  refine wpList_runTo rfl _ rfl (.pointer none) w (by as_aux_lemma => kernel_rfl) ?_
  apply wpList_nil
  refine hK0 _ _ ?_
  refine wp_anyFrame 3 (by simp only [Act.size_put, hs0]) (by simp only [Act.defers_put', hd0]) fun a1 hs1 hd1 => ?_
  clear hK0 K0
  apply wp_seq_k; intro K1 hK1
  apply wp_region_lit
  refine wpList_buildFlatArrTo rfl 104 90 94 _ rfl .u16 jisR16 (some 1) rfl u104 s90 z104 (by as_aux_lemma => kernel_rfl) ?_
  refine wpList_boxTo rfl 104 (.tmp 1) rfl (some 2) rfl w.heap.size rfl ((jisR16.map (Value.int .u16)).toArray) ?_ ?_
  · rw [Act.eval_put_same _ 1 _ (by simp only [hs1]; omega)]; rfl
  refine wpList_runTo rfl (some 0) rfl (.pointer (some ⟨w.heap.size, 0, none⟩)) (w.alloc (.cells (jisR16.map (Value.int .u16)).toArray 104)) ?_ ?_
  · show Result.ok (Next.value (Act.eval _ (.tmp 2))) _ = _
    rw [Act.eval_put_same _ 2 _ (by simp only [Act.size_put, hs1]; omega)]
  apply wpList_nil
  refine hK1 _ _ ?_
  apply wp_ret
  refine bodyPost_ret (results_tmp rfl _ _ _) (by simp only [Act.defers_put', hd1]) ⟨?_, rfl⟩
  exact congrArg Ending.returned (Act.eval_put_same _ 0 _ (by simp only [Act.size_put, hs1]; omega))
theorem u105 : Try.prog.underlying 105 = some (.array 94 90) := by kernel_rfl
theorem z105 : ((Try.prog.info? 105).bind (·.zero)).map (·.cells.size) = some 94 := by kernel_rfl
set_option maxRecDepth 100000 in
theorem gb_row1_calls (w : World) : Calls Try.prog 105 #[] w fun e w' => e = .returned (.pointer (some ⟨w.heap.size, 0, none⟩)) ∧ w' = w.alloc (rowBlock gbR1 105) := by
  refine calls_of_wp Try.func105 rfl ?_
  refine wp_anyFrame 3 (by as_aux_lemma => kernel_rfl) rfl fun a0 hs0 hd0 => ?_
  apply wp_seq_k; intro K0 hK0
  apply wp_region_lit
  refine wpList_runTo rfl _ rfl (.pointer none) w (by as_aux_lemma => kernel_rfl) ?_
  apply wpList_nil
  refine hK0 _ _ ?_
  refine wp_anyFrame 3 (by simp only [Act.size_put, hs0]) (by simp only [Act.defers_put', hd0]) fun a1 hs1 hd1 => ?_
  clear hK0 K0
  apply wp_seq_k; intro K1 hK1
  apply wp_region_lit
  refine wpList_buildFlatArrTo rfl 105 90 94 _ rfl .u16 gbR1 (some 1) rfl u105 s90 z105 (by as_aux_lemma => kernel_rfl) ?_
  refine wpList_boxTo rfl 105 (.tmp 1) rfl (some 2) rfl w.heap.size rfl ((gbR1.map (Value.int .u16)).toArray) ?_ ?_
  · rw [Act.eval_put_same _ 1 _ (by simp only [hs1]; omega)]; rfl
  refine wpList_runTo rfl (some 0) rfl (.pointer (some ⟨w.heap.size, 0, none⟩)) (w.alloc (.cells (gbR1.map (Value.int .u16)).toArray 105)) ?_ ?_
  · show Result.ok (Next.value (Act.eval _ (.tmp 2))) _ = _
    rw [Act.eval_put_same _ 2 _ (by simp only [Act.size_put, hs1]; omega)]
  apply wpList_nil
  refine hK1 _ _ ?_
  apply wp_ret
  refine bodyPost_ret (results_tmp rfl _ _ _) (by simp only [Act.defers_put', hd1]) ⟨?_, rfl⟩
  exact congrArg Ending.returned (Act.eval_put_same _ 0 _ (by simp only [Act.size_put, hs1]; omega))
set_option maxRecDepth 100000 in
theorem gb_row2_calls (w : World) : Calls Try.prog 106 #[] w fun e w' => e = .returned (.pointer (some ⟨w.heap.size, 0, none⟩)) ∧ w' = w.alloc (rowBlock gbR2 105) := by
  refine calls_of_wp Try.func106 rfl ?_
  refine wp_anyFrame 3 (by as_aux_lemma => kernel_rfl) rfl fun a0 hs0 hd0 => ?_
  apply wp_seq_k; intro K0 hK0
  apply wp_region_lit
  refine wpList_runTo rfl _ rfl (.pointer none) w (by as_aux_lemma => kernel_rfl) ?_
  apply wpList_nil
  refine hK0 _ _ ?_
  refine wp_anyFrame 3 (by simp only [Act.size_put, hs0]) (by simp only [Act.defers_put', hd0]) fun a1 hs1 hd1 => ?_
  clear hK0 K0
  apply wp_seq_k; intro K1 hK1
  apply wp_region_lit
  refine wpList_buildFlatArrTo rfl 105 90 94 _ rfl .u16 gbR2 (some 1) rfl u105 s90 z105 (by as_aux_lemma => kernel_rfl) ?_
  refine wpList_boxTo rfl 105 (.tmp 1) rfl (some 2) rfl w.heap.size rfl ((gbR2.map (Value.int .u16)).toArray) ?_ ?_
  · rw [Act.eval_put_same _ 1 _ (by simp only [hs1]; omega)]; rfl
  refine wpList_runTo rfl (some 0) rfl (.pointer (some ⟨w.heap.size, 0, none⟩)) (w.alloc (.cells (gbR2.map (Value.int .u16)).toArray 105)) ?_ ?_
  · show Result.ok (Next.value (Act.eval _ (.tmp 2))) _ = _
    rw [Act.eval_put_same _ 2 _ (by simp only [Act.size_put, hs1]; omega)]
  apply wpList_nil
  refine hK1 _ _ ?_
  apply wp_ret
  refine bodyPost_ret (results_tmp rfl _ _ _) (by simp only [Act.defers_put', hd1]) ⟨?_, rfl⟩
  exact congrArg Ending.returned (Act.eval_put_same _ 0 _ (by simp only [Act.size_put, hs1]; omega))
set_option maxRecDepth 100000 in
theorem gb_row3_calls (w : World) : Calls Try.prog 107 #[] w fun e w' => e = .returned (.pointer (some ⟨w.heap.size, 0, none⟩)) ∧ w' = w.alloc (rowBlock gbR3 105) := by
  refine calls_of_wp Try.func107 rfl ?_
  refine wp_anyFrame 3 (by as_aux_lemma => kernel_rfl) rfl fun a0 hs0 hd0 => ?_
  apply wp_seq_k; intro K0 hK0
  apply wp_region_lit
  refine wpList_runTo rfl _ rfl (.pointer none) w (by as_aux_lemma => kernel_rfl) ?_
  apply wpList_nil
  refine hK0 _ _ ?_
  refine wp_anyFrame 3 (by simp only [Act.size_put, hs0]) (by simp only [Act.defers_put', hd0]) fun a1 hs1 hd1 => ?_
  clear hK0 K0
  apply wp_seq_k; intro K1 hK1
  apply wp_region_lit
  refine wpList_buildFlatArrTo rfl 105 90 94 _ rfl .u16 gbR3 (some 1) rfl u105 s90 z105 (by as_aux_lemma => kernel_rfl) ?_
  refine wpList_boxTo rfl 105 (.tmp 1) rfl (some 2) rfl w.heap.size rfl ((gbR3.map (Value.int .u16)).toArray) ?_ ?_
  · rw [Act.eval_put_same _ 1 _ (by simp only [hs1]; omega)]; rfl
  refine wpList_runTo rfl (some 0) rfl (.pointer (some ⟨w.heap.size, 0, none⟩)) (w.alloc (.cells (gbR3.map (Value.int .u16)).toArray 105)) ?_ ?_
  · show Result.ok (Next.value (Act.eval _ (.tmp 2))) _ = _
    rw [Act.eval_put_same _ 2 _ (by simp only [Act.size_put, hs1]; omega)]
  apply wpList_nil
  refine hK1 _ _ ?_
  apply wp_ret
  refine bodyPost_ret (results_tmp rfl _ _ _) (by simp only [Act.defers_put', hd1]) ⟨?_, rfl⟩
  exact congrArg Ending.returned (Act.eval_put_same _ 0 _ (by simp only [Act.size_put, hs1]; omega))
set_option maxRecDepth 100000 in
theorem gb_row4_calls (w : World) : Calls Try.prog 108 #[] w fun e w' => e = .returned (.pointer (some ⟨w.heap.size, 0, none⟩)) ∧ w' = w.alloc (rowBlock gbR4 105) := by
  refine calls_of_wp Try.func108 rfl ?_
  refine wp_anyFrame 3 (by as_aux_lemma => kernel_rfl) rfl fun a0 hs0 hd0 => ?_
  apply wp_seq_k; intro K0 hK0
  apply wp_region_lit
  refine wpList_runTo rfl _ rfl (.pointer none) w (by as_aux_lemma => kernel_rfl) ?_
  apply wpList_nil
  refine hK0 _ _ ?_
  refine wp_anyFrame 3 (by simp only [Act.size_put, hs0]) (by simp only [Act.defers_put', hd0]) fun a1 hs1 hd1 => ?_
  clear hK0 K0
  apply wp_seq_k; intro K1 hK1
  apply wp_region_lit
  refine wpList_buildFlatArrTo rfl 105 90 94 _ rfl .u16 gbR4 (some 1) rfl u105 s90 z105 (by as_aux_lemma => kernel_rfl) ?_
  refine wpList_boxTo rfl 105 (.tmp 1) rfl (some 2) rfl w.heap.size rfl ((gbR4.map (Value.int .u16)).toArray) ?_ ?_
  · rw [Act.eval_put_same _ 1 _ (by simp only [hs1]; omega)]; rfl
  refine wpList_runTo rfl (some 0) rfl (.pointer (some ⟨w.heap.size, 0, none⟩)) (w.alloc (.cells (gbR4.map (Value.int .u16)).toArray 105)) ?_ ?_
  · show Result.ok (Next.value (Act.eval _ (.tmp 2))) _ = _
    rw [Act.eval_put_same _ 2 _ (by simp only [Act.size_put, hs1]; omega)]
  apply wpList_nil
  refine hK1 _ _ ?_
  apply wp_ret
  refine bodyPost_ret (results_tmp rfl _ _ _) (by simp only [Act.defers_put', hd1]) ⟨?_, rfl⟩
  exact congrArg Ending.returned (Act.eval_put_same _ 0 _ (by simp only [Act.size_put, hs1]; omega))
set_option maxRecDepth 100000 in
theorem gb_row5_calls (w : World) : Calls Try.prog 109 #[] w fun e w' => e = .returned (.pointer (some ⟨w.heap.size, 0, none⟩)) ∧ w' = w.alloc (rowBlock gbR5 105) := by
  refine calls_of_wp Try.func109 rfl ?_
  refine wp_anyFrame 3 (by as_aux_lemma => kernel_rfl) rfl fun a0 hs0 hd0 => ?_
  apply wp_seq_k; intro K0 hK0
  apply wp_region_lit
  refine wpList_runTo rfl _ rfl (.pointer none) w (by as_aux_lemma => kernel_rfl) ?_
  apply wpList_nil
  refine hK0 _ _ ?_
  refine wp_anyFrame 3 (by simp only [Act.size_put, hs0]) (by simp only [Act.defers_put', hd0]) fun a1 hs1 hd1 => ?_
  clear hK0 K0
  apply wp_seq_k; intro K1 hK1
  apply wp_region_lit
  refine wpList_buildFlatArrTo rfl 105 90 94 _ rfl .u16 gbR5 (some 1) rfl u105 s90 z105 (by as_aux_lemma => kernel_rfl) ?_
  refine wpList_boxTo rfl 105 (.tmp 1) rfl (some 2) rfl w.heap.size rfl ((gbR5.map (Value.int .u16)).toArray) ?_ ?_
  · rw [Act.eval_put_same _ 1 _ (by simp only [hs1]; omega)]; rfl
  refine wpList_runTo rfl (some 0) rfl (.pointer (some ⟨w.heap.size, 0, none⟩)) (w.alloc (.cells (gbR5.map (Value.int .u16)).toArray 105)) ?_ ?_
  · show Result.ok (Next.value (Act.eval _ (.tmp 2))) _ = _
    rw [Act.eval_put_same _ 2 _ (by simp only [Act.size_put, hs1]; omega)]
  apply wpList_nil
  refine hK1 _ _ ?_
  apply wp_ret
  refine bodyPost_ret (results_tmp rfl _ _ _) (by simp only [Act.defers_put', hd1]) ⟨?_, rfl⟩
  exact congrArg Ending.returned (Act.eval_put_same _ 0 _ (by simp only [Act.size_put, hs1]; omega))
set_option maxRecDepth 100000 in
theorem gb_row6_calls (w : World) : Calls Try.prog 110 #[] w fun e w' => e = .returned (.pointer (some ⟨w.heap.size, 0, none⟩)) ∧ w' = w.alloc (rowBlock gbR6 105) := by
  refine calls_of_wp Try.func110 rfl ?_
  refine wp_anyFrame 3 (by as_aux_lemma => kernel_rfl) rfl fun a0 hs0 hd0 => ?_
  apply wp_seq_k; intro K0 hK0
  apply wp_region_lit
  refine wpList_runTo rfl _ rfl (.pointer none) w (by as_aux_lemma => kernel_rfl) ?_
  apply wpList_nil
  refine hK0 _ _ ?_
  refine wp_anyFrame 3 (by simp only [Act.size_put, hs0]) (by simp only [Act.defers_put', hd0]) fun a1 hs1 hd1 => ?_
  clear hK0 K0
  apply wp_seq_k; intro K1 hK1
  apply wp_region_lit
  refine wpList_buildFlatArrTo rfl 105 90 94 _ rfl .u16 gbR6 (some 1) rfl u105 s90 z105 (by as_aux_lemma => kernel_rfl) ?_
  refine wpList_boxTo rfl 105 (.tmp 1) rfl (some 2) rfl w.heap.size rfl ((gbR6.map (Value.int .u16)).toArray) ?_ ?_
  · rw [Act.eval_put_same _ 1 _ (by simp only [hs1]; omega)]; rfl
  refine wpList_runTo rfl (some 0) rfl (.pointer (some ⟨w.heap.size, 0, none⟩)) (w.alloc (.cells (gbR6.map (Value.int .u16)).toArray 105)) ?_ ?_
  · show Result.ok (Next.value (Act.eval _ (.tmp 2))) _ = _
    rw [Act.eval_put_same _ 2 _ (by simp only [Act.size_put, hs1]; omega)]
  apply wpList_nil
  refine hK1 _ _ ?_
  apply wp_ret
  refine bodyPost_ret (results_tmp rfl _ _ _) (by simp only [Act.defers_put', hd1]) ⟨?_, rfl⟩
  exact congrArg Ending.returned (Act.eval_put_same _ 0 _ (by simp only [Act.size_put, hs1]; omega))
set_option maxRecDepth 100000 in
theorem gb_row7_calls (w : World) : Calls Try.prog 111 #[] w fun e w' => e = .returned (.pointer (some ⟨w.heap.size, 0, none⟩)) ∧ w' = w.alloc (rowBlock gbR7 105) := by
  refine calls_of_wp Try.func111 rfl ?_
  refine wp_anyFrame 3 (by as_aux_lemma => kernel_rfl) rfl fun a0 hs0 hd0 => ?_
  apply wp_seq_k; intro K0 hK0
  apply wp_region_lit
  refine wpList_runTo rfl _ rfl (.pointer none) w (by as_aux_lemma => kernel_rfl) ?_
  apply wpList_nil
  refine hK0 _ _ ?_
  refine wp_anyFrame 3 (by simp only [Act.size_put, hs0]) (by simp only [Act.defers_put', hd0]) fun a1 hs1 hd1 => ?_
  clear hK0 K0
  apply wp_seq_k; intro K1 hK1
  apply wp_region_lit
  refine wpList_buildFlatArrTo rfl 105 90 94 _ rfl .u16 gbR7 (some 1) rfl u105 s90 z105 (by as_aux_lemma => kernel_rfl) ?_
  refine wpList_boxTo rfl 105 (.tmp 1) rfl (some 2) rfl w.heap.size rfl ((gbR7.map (Value.int .u16)).toArray) ?_ ?_
  · rw [Act.eval_put_same _ 1 _ (by simp only [hs1]; omega)]; rfl
  refine wpList_runTo rfl (some 0) rfl (.pointer (some ⟨w.heap.size, 0, none⟩)) (w.alloc (.cells (gbR7.map (Value.int .u16)).toArray 105)) ?_ ?_
  · show Result.ok (Next.value (Act.eval _ (.tmp 2))) _ = _
    rw [Act.eval_put_same _ 2 _ (by simp only [Act.size_put, hs1]; omega)]
  apply wpList_nil
  refine hK1 _ _ ?_
  apply wp_ret
  refine bodyPost_ret (results_tmp rfl _ _ _) (by simp only [Act.defers_put', hd1]) ⟨?_, rfl⟩
  exact congrArg Ending.returned (Act.eval_put_same _ 0 _ (by simp only [Act.size_put, hs1]; omega))
set_option maxRecDepth 100000 in
theorem gb_row8_calls (w : World) : Calls Try.prog 112 #[] w fun e w' => e = .returned (.pointer (some ⟨w.heap.size, 0, none⟩)) ∧ w' = w.alloc (rowBlock gbR8 105) := by
  refine calls_of_wp Try.func112 rfl ?_
  refine wp_anyFrame 3 (by as_aux_lemma => kernel_rfl) rfl fun a0 hs0 hd0 => ?_
  apply wp_seq_k; intro K0 hK0
  apply wp_region_lit
  refine wpList_runTo rfl _ rfl (.pointer none) w (by as_aux_lemma => kernel_rfl) ?_
  apply wpList_nil
  refine hK0 _ _ ?_
  refine wp_anyFrame 3 (by simp only [Act.size_put, hs0]) (by simp only [Act.defers_put', hd0]) fun a1 hs1 hd1 => ?_
  clear hK0 K0
  apply wp_seq_k; intro K1 hK1
  apply wp_region_lit
  refine wpList_buildFlatArrTo rfl 105 90 94 _ rfl .u16 gbR8 (some 1) rfl u105 s90 z105 (by as_aux_lemma => kernel_rfl) ?_
  refine wpList_boxTo rfl 105 (.tmp 1) rfl (some 2) rfl w.heap.size rfl ((gbR8.map (Value.int .u16)).toArray) ?_ ?_
  · rw [Act.eval_put_same _ 1 _ (by simp only [hs1]; omega)]; rfl
  refine wpList_runTo rfl (some 0) rfl (.pointer (some ⟨w.heap.size, 0, none⟩)) (w.alloc (.cells (gbR8.map (Value.int .u16)).toArray 105)) ?_ ?_
  · show Result.ok (Next.value (Act.eval _ (.tmp 2))) _ = _
    rw [Act.eval_put_same _ 2 _ (by simp only [Act.size_put, hs1]; omega)]
  apply wpList_nil
  refine hK1 _ _ ?_
  apply wp_ret
  refine bodyPost_ret (results_tmp rfl _ _ _) (by simp only [Act.defers_put', hd1]) ⟨?_, rfl⟩
  exact congrArg Ending.returned (Act.eval_put_same _ 0 _ (by simp only [Act.size_put, hs1]; omega))
set_option maxRecDepth 100000 in
theorem gb_row9_calls (w : World) : Calls Try.prog 113 #[] w fun e w' => e = .returned (.pointer (some ⟨w.heap.size, 0, none⟩)) ∧ w' = w.alloc (rowBlock gbR9 105) := by
  refine calls_of_wp Try.func113 rfl ?_
  refine wp_anyFrame 3 (by as_aux_lemma => kernel_rfl) rfl fun a0 hs0 hd0 => ?_
  apply wp_seq_k; intro K0 hK0
  apply wp_region_lit
  refine wpList_runTo rfl _ rfl (.pointer none) w (by as_aux_lemma => kernel_rfl) ?_
  apply wpList_nil
  refine hK0 _ _ ?_
  refine wp_anyFrame 3 (by simp only [Act.size_put, hs0]) (by simp only [Act.defers_put', hd0]) fun a1 hs1 hd1 => ?_
  clear hK0 K0
  apply wp_seq_k; intro K1 hK1
  apply wp_region_lit
  refine wpList_buildFlatArrTo rfl 105 90 94 _ rfl .u16 gbR9 (some 1) rfl u105 s90 z105 (by as_aux_lemma => kernel_rfl) ?_
  refine wpList_boxTo rfl 105 (.tmp 1) rfl (some 2) rfl w.heap.size rfl ((gbR9.map (Value.int .u16)).toArray) ?_ ?_
  · rw [Act.eval_put_same _ 1 _ (by simp only [hs1]; omega)]; rfl
  refine wpList_runTo rfl (some 0) rfl (.pointer (some ⟨w.heap.size, 0, none⟩)) (w.alloc (.cells (gbR9.map (Value.int .u16)).toArray 105)) ?_ ?_
  · show Result.ok (Next.value (Act.eval _ (.tmp 2))) _ = _
    rw [Act.eval_put_same _ 2 _ (by simp only [Act.size_put, hs1]; omega)]
  apply wpList_nil
  refine hK1 _ _ ?_
  apply wp_ret
  refine bodyPost_ret (results_tmp rfl _ _ _) (by simp only [Act.defers_put', hd1]) ⟨?_, rfl⟩
  exact congrArg Ending.returned (Act.eval_put_same _ 0 _ (by simp only [Act.size_put, hs1]; omega))
set_option maxRecDepth 100000 in
theorem gb_row16_calls (w : World) : Calls Try.prog 114 #[] w fun e w' => e = .returned (.pointer (some ⟨w.heap.size, 0, none⟩)) ∧ w' = w.alloc (rowBlock gbR16 105) := by
  refine calls_of_wp Try.func114 rfl ?_
  refine wp_anyFrame 3 (by as_aux_lemma => kernel_rfl) rfl fun a0 hs0 hd0 => ?_
  apply wp_seq_k; intro K0 hK0
  apply wp_region_lit
  refine wpList_runTo rfl _ rfl (.pointer none) w (by as_aux_lemma => kernel_rfl) ?_
  apply wpList_nil
  refine hK0 _ _ ?_
  refine wp_anyFrame 3 (by simp only [Act.size_put, hs0]) (by simp only [Act.defers_put', hd0]) fun a1 hs1 hd1 => ?_
  clear hK0 K0
  apply wp_seq_k; intro K1 hK1
  apply wp_region_lit
  refine wpList_buildFlatArrTo rfl 105 90 94 _ rfl .u16 gbR16 (some 1) rfl u105 s90 z105 (by as_aux_lemma => kernel_rfl) ?_
  refine wpList_boxTo rfl 105 (.tmp 1) rfl (some 2) rfl w.heap.size rfl ((gbR16.map (Value.int .u16)).toArray) ?_ ?_
  · rw [Act.eval_put_same _ 1 _ (by simp only [hs1]; omega)]; rfl
  refine wpList_runTo rfl (some 0) rfl (.pointer (some ⟨w.heap.size, 0, none⟩)) (w.alloc (.cells (gbR16.map (Value.int .u16)).toArray 105)) ?_ ?_
  · show Result.ok (Next.value (Act.eval _ (.tmp 2))) _ = _
    rw [Act.eval_put_same _ 2 _ (by simp only [Act.size_put, hs1]; omega)]
  apply wpList_nil
  refine hK1 _ _ ?_
  apply wp_ret
  refine bodyPost_ret (results_tmp rfl _ _ _) (by simp only [Act.defers_put', hd1]) ⟨?_, rfl⟩
  exact congrArg Ending.returned (Act.eval_put_same _ 0 _ (by simp only [Act.size_put, hs1]; omega))
theorem u107 : Try.prog.underlying 107 = some (.array 94 90) := by kernel_rfl
theorem z107 : ((Try.prog.info? 107).bind (·.zero)).map (·.cells.size) = some 94 := by kernel_rfl
set_option maxRecDepth 100000 in
theorem ksc_row1_calls (w : World) : Calls Try.prog 116 #[] w fun e w' => e = .returned (.pointer (some ⟨w.heap.size, 0, none⟩)) ∧ w' = w.alloc (rowBlock kscR1 107) := by
  refine calls_of_wp Try.func116 rfl ?_
  refine wp_anyFrame 3 (by as_aux_lemma => kernel_rfl) rfl fun a0 hs0 hd0 => ?_
  apply wp_seq_k; intro K0 hK0
  apply wp_region_lit
  refine wpList_runTo rfl _ rfl (.pointer none) w (by as_aux_lemma => kernel_rfl) ?_
  apply wpList_nil
  refine hK0 _ _ ?_
  refine wp_anyFrame 3 (by simp only [Act.size_put, hs0]) (by simp only [Act.defers_put', hd0]) fun a1 hs1 hd1 => ?_
  clear hK0 K0
  apply wp_seq_k; intro K1 hK1
  apply wp_region_lit
  refine wpList_buildFlatArrTo rfl 107 90 94 _ rfl .u16 kscR1 (some 1) rfl u107 s90 z107 (by as_aux_lemma => kernel_rfl) ?_
  refine wpList_boxTo rfl 107 (.tmp 1) rfl (some 2) rfl w.heap.size rfl ((kscR1.map (Value.int .u16)).toArray) ?_ ?_
  · rw [Act.eval_put_same _ 1 _ (by simp only [hs1]; omega)]; rfl
  refine wpList_runTo rfl (some 0) rfl (.pointer (some ⟨w.heap.size, 0, none⟩)) (w.alloc (.cells (kscR1.map (Value.int .u16)).toArray 107)) ?_ ?_
  · show Result.ok (Next.value (Act.eval _ (.tmp 2))) _ = _
    rw [Act.eval_put_same _ 2 _ (by simp only [Act.size_put, hs1]; omega)]
  apply wpList_nil
  refine hK1 _ _ ?_
  apply wp_ret
  refine bodyPost_ret (results_tmp rfl _ _ _) (by simp only [Act.defers_put', hd1]) ⟨?_, rfl⟩
  exact congrArg Ending.returned (Act.eval_put_same _ 0 _ (by simp only [Act.size_put, hs1]; omega))
set_option maxRecDepth 100000 in
theorem ksc_row2_calls (w : World) : Calls Try.prog 117 #[] w fun e w' => e = .returned (.pointer (some ⟨w.heap.size, 0, none⟩)) ∧ w' = w.alloc (rowBlock kscR2 107) := by
  refine calls_of_wp Try.func117 rfl ?_
  refine wp_anyFrame 3 (by as_aux_lemma => kernel_rfl) rfl fun a0 hs0 hd0 => ?_
  apply wp_seq_k; intro K0 hK0
  apply wp_region_lit
  refine wpList_runTo rfl _ rfl (.pointer none) w (by as_aux_lemma => kernel_rfl) ?_
  apply wpList_nil
  refine hK0 _ _ ?_
  refine wp_anyFrame 3 (by simp only [Act.size_put, hs0]) (by simp only [Act.defers_put', hd0]) fun a1 hs1 hd1 => ?_
  clear hK0 K0
  apply wp_seq_k; intro K1 hK1
  apply wp_region_lit
  refine wpList_buildFlatArrTo rfl 107 90 94 _ rfl .u16 kscR2 (some 1) rfl u107 s90 z107 (by as_aux_lemma => kernel_rfl) ?_
  refine wpList_boxTo rfl 107 (.tmp 1) rfl (some 2) rfl w.heap.size rfl ((kscR2.map (Value.int .u16)).toArray) ?_ ?_
  · rw [Act.eval_put_same _ 1 _ (by simp only [hs1]; omega)]; rfl
  refine wpList_runTo rfl (some 0) rfl (.pointer (some ⟨w.heap.size, 0, none⟩)) (w.alloc (.cells (kscR2.map (Value.int .u16)).toArray 107)) ?_ ?_
  · show Result.ok (Next.value (Act.eval _ (.tmp 2))) _ = _
    rw [Act.eval_put_same _ 2 _ (by simp only [Act.size_put, hs1]; omega)]
  apply wpList_nil
  refine hK1 _ _ ?_
  apply wp_ret
  refine bodyPost_ret (results_tmp rfl _ _ _) (by simp only [Act.defers_put', hd1]) ⟨?_, rfl⟩
  exact congrArg Ending.returned (Act.eval_put_same _ 0 _ (by simp only [Act.size_put, hs1]; omega))
set_option maxRecDepth 100000 in
theorem ksc_row3_calls (w : World) : Calls Try.prog 118 #[] w fun e w' => e = .returned (.pointer (some ⟨w.heap.size, 0, none⟩)) ∧ w' = w.alloc (rowBlock kscR3 107) := by
  refine calls_of_wp Try.func118 rfl ?_
  refine wp_anyFrame 3 (by as_aux_lemma => kernel_rfl) rfl fun a0 hs0 hd0 => ?_
  apply wp_seq_k; intro K0 hK0
  apply wp_region_lit
  refine wpList_runTo rfl _ rfl (.pointer none) w (by as_aux_lemma => kernel_rfl) ?_
  apply wpList_nil
  refine hK0 _ _ ?_
  refine wp_anyFrame 3 (by simp only [Act.size_put, hs0]) (by simp only [Act.defers_put', hd0]) fun a1 hs1 hd1 => ?_
  clear hK0 K0
  apply wp_seq_k; intro K1 hK1
  apply wp_region_lit
  refine wpList_buildFlatArrTo rfl 107 90 94 _ rfl .u16 kscR3 (some 1) rfl u107 s90 z107 (by as_aux_lemma => kernel_rfl) ?_
  refine wpList_boxTo rfl 107 (.tmp 1) rfl (some 2) rfl w.heap.size rfl ((kscR3.map (Value.int .u16)).toArray) ?_ ?_
  · rw [Act.eval_put_same _ 1 _ (by simp only [hs1]; omega)]; rfl
  refine wpList_runTo rfl (some 0) rfl (.pointer (some ⟨w.heap.size, 0, none⟩)) (w.alloc (.cells (kscR3.map (Value.int .u16)).toArray 107)) ?_ ?_
  · show Result.ok (Next.value (Act.eval _ (.tmp 2))) _ = _
    rw [Act.eval_put_same _ 2 _ (by simp only [Act.size_put, hs1]; omega)]
  apply wpList_nil
  refine hK1 _ _ ?_
  apply wp_ret
  refine bodyPost_ret (results_tmp rfl _ _ _) (by simp only [Act.defers_put', hd1]) ⟨?_, rfl⟩
  exact congrArg Ending.returned (Act.eval_put_same _ 0 _ (by simp only [Act.size_put, hs1]; omega))
set_option maxRecDepth 100000 in
theorem ksc_row4_calls (w : World) : Calls Try.prog 119 #[] w fun e w' => e = .returned (.pointer (some ⟨w.heap.size, 0, none⟩)) ∧ w' = w.alloc (rowBlock kscR4 107) := by
  refine calls_of_wp Try.func119 rfl ?_
  refine wp_anyFrame 3 (by as_aux_lemma => kernel_rfl) rfl fun a0 hs0 hd0 => ?_
  apply wp_seq_k; intro K0 hK0
  apply wp_region_lit
  refine wpList_runTo rfl _ rfl (.pointer none) w (by as_aux_lemma => kernel_rfl) ?_
  apply wpList_nil
  refine hK0 _ _ ?_
  refine wp_anyFrame 3 (by simp only [Act.size_put, hs0]) (by simp only [Act.defers_put', hd0]) fun a1 hs1 hd1 => ?_
  clear hK0 K0
  apply wp_seq_k; intro K1 hK1
  apply wp_region_lit
  refine wpList_buildFlatArrTo rfl 107 90 94 _ rfl .u16 kscR4 (some 1) rfl u107 s90 z107 (by as_aux_lemma => kernel_rfl) ?_
  refine wpList_boxTo rfl 107 (.tmp 1) rfl (some 2) rfl w.heap.size rfl ((kscR4.map (Value.int .u16)).toArray) ?_ ?_
  · rw [Act.eval_put_same _ 1 _ (by simp only [hs1]; omega)]; rfl
  refine wpList_runTo rfl (some 0) rfl (.pointer (some ⟨w.heap.size, 0, none⟩)) (w.alloc (.cells (kscR4.map (Value.int .u16)).toArray 107)) ?_ ?_
  · show Result.ok (Next.value (Act.eval _ (.tmp 2))) _ = _
    rw [Act.eval_put_same _ 2 _ (by simp only [Act.size_put, hs1]; omega)]
  apply wpList_nil
  refine hK1 _ _ ?_
  apply wp_ret
  refine bodyPost_ret (results_tmp rfl _ _ _) (by simp only [Act.defers_put', hd1]) ⟨?_, rfl⟩
  exact congrArg Ending.returned (Act.eval_put_same _ 0 _ (by simp only [Act.size_put, hs1]; omega))
set_option maxRecDepth 100000 in
theorem ksc_row5_calls (w : World) : Calls Try.prog 120 #[] w fun e w' => e = .returned (.pointer (some ⟨w.heap.size, 0, none⟩)) ∧ w' = w.alloc (rowBlock kscR5 107) := by
  refine calls_of_wp Try.func120 rfl ?_
  refine wp_anyFrame 3 (by as_aux_lemma => kernel_rfl) rfl fun a0 hs0 hd0 => ?_
  apply wp_seq_k; intro K0 hK0
  apply wp_region_lit
  refine wpList_runTo rfl _ rfl (.pointer none) w (by as_aux_lemma => kernel_rfl) ?_
  apply wpList_nil
  refine hK0 _ _ ?_
  refine wp_anyFrame 3 (by simp only [Act.size_put, hs0]) (by simp only [Act.defers_put', hd0]) fun a1 hs1 hd1 => ?_
  clear hK0 K0
  apply wp_seq_k; intro K1 hK1
  apply wp_region_lit
  refine wpList_buildFlatArrTo rfl 107 90 94 _ rfl .u16 kscR5 (some 1) rfl u107 s90 z107 (by as_aux_lemma => kernel_rfl) ?_
  refine wpList_boxTo rfl 107 (.tmp 1) rfl (some 2) rfl w.heap.size rfl ((kscR5.map (Value.int .u16)).toArray) ?_ ?_
  · rw [Act.eval_put_same _ 1 _ (by simp only [hs1]; omega)]; rfl
  refine wpList_runTo rfl (some 0) rfl (.pointer (some ⟨w.heap.size, 0, none⟩)) (w.alloc (.cells (kscR5.map (Value.int .u16)).toArray 107)) ?_ ?_
  · show Result.ok (Next.value (Act.eval _ (.tmp 2))) _ = _
    rw [Act.eval_put_same _ 2 _ (by simp only [Act.size_put, hs1]; omega)]
  apply wpList_nil
  refine hK1 _ _ ?_
  apply wp_ret
  refine bodyPost_ret (results_tmp rfl _ _ _) (by simp only [Act.defers_put', hd1]) ⟨?_, rfl⟩
  exact congrArg Ending.returned (Act.eval_put_same _ 0 _ (by simp only [Act.size_put, hs1]; omega))
set_option maxRecDepth 100000 in
theorem ksc_row6_calls (w : World) : Calls Try.prog 121 #[] w fun e w' => e = .returned (.pointer (some ⟨w.heap.size, 0, none⟩)) ∧ w' = w.alloc (rowBlock kscR6 107) := by
  refine calls_of_wp Try.func121 rfl ?_
  refine wp_anyFrame 3 (by as_aux_lemma => kernel_rfl) rfl fun a0 hs0 hd0 => ?_
  apply wp_seq_k; intro K0 hK0
  apply wp_region_lit
  refine wpList_runTo rfl _ rfl (.pointer none) w (by as_aux_lemma => kernel_rfl) ?_
  apply wpList_nil
  refine hK0 _ _ ?_
  refine wp_anyFrame 3 (by simp only [Act.size_put, hs0]) (by simp only [Act.defers_put', hd0]) fun a1 hs1 hd1 => ?_
  clear hK0 K0
  apply wp_seq_k; intro K1 hK1
  apply wp_region_lit
  refine wpList_buildFlatArrTo rfl 107 90 94 _ rfl .u16 kscR6 (some 1) rfl u107 s90 z107 (by as_aux_lemma => kernel_rfl) ?_
  refine wpList_boxTo rfl 107 (.tmp 1) rfl (some 2) rfl w.heap.size rfl ((kscR6.map (Value.int .u16)).toArray) ?_ ?_
  · rw [Act.eval_put_same _ 1 _ (by simp only [hs1]; omega)]; rfl
  refine wpList_runTo rfl (some 0) rfl (.pointer (some ⟨w.heap.size, 0, none⟩)) (w.alloc (.cells (kscR6.map (Value.int .u16)).toArray 107)) ?_ ?_
  · show Result.ok (Next.value (Act.eval _ (.tmp 2))) _ = _
    rw [Act.eval_put_same _ 2 _ (by simp only [Act.size_put, hs1]; omega)]
  apply wpList_nil
  refine hK1 _ _ ?_
  apply wp_ret
  refine bodyPost_ret (results_tmp rfl _ _ _) (by simp only [Act.defers_put', hd1]) ⟨?_, rfl⟩
  exact congrArg Ending.returned (Act.eval_put_same _ 0 _ (by simp only [Act.size_put, hs1]; omega))
set_option maxRecDepth 100000 in
theorem ksc_row7_calls (w : World) : Calls Try.prog 122 #[] w fun e w' => e = .returned (.pointer (some ⟨w.heap.size, 0, none⟩)) ∧ w' = w.alloc (rowBlock kscR7 107) := by
  refine calls_of_wp Try.func122 rfl ?_
  refine wp_anyFrame 3 (by as_aux_lemma => kernel_rfl) rfl fun a0 hs0 hd0 => ?_
  apply wp_seq_k; intro K0 hK0
  apply wp_region_lit
  refine wpList_runTo rfl _ rfl (.pointer none) w (by as_aux_lemma => kernel_rfl) ?_
  apply wpList_nil
  refine hK0 _ _ ?_
  refine wp_anyFrame 3 (by simp only [Act.size_put, hs0]) (by simp only [Act.defers_put', hd0]) fun a1 hs1 hd1 => ?_
  clear hK0 K0
  apply wp_seq_k; intro K1 hK1
  apply wp_region_lit
  refine wpList_buildFlatArrTo rfl 107 90 94 _ rfl .u16 kscR7 (some 1) rfl u107 s90 z107 (by as_aux_lemma => kernel_rfl) ?_
  refine wpList_boxTo rfl 107 (.tmp 1) rfl (some 2) rfl w.heap.size rfl ((kscR7.map (Value.int .u16)).toArray) ?_ ?_
  · rw [Act.eval_put_same _ 1 _ (by simp only [hs1]; omega)]; rfl
  refine wpList_runTo rfl (some 0) rfl (.pointer (some ⟨w.heap.size, 0, none⟩)) (w.alloc (.cells (kscR7.map (Value.int .u16)).toArray 107)) ?_ ?_
  · show Result.ok (Next.value (Act.eval _ (.tmp 2))) _ = _
    rw [Act.eval_put_same _ 2 _ (by simp only [Act.size_put, hs1]; omega)]
  apply wpList_nil
  refine hK1 _ _ ?_
  apply wp_ret
  refine bodyPost_ret (results_tmp rfl _ _ _) (by simp only [Act.defers_put', hd1]) ⟨?_, rfl⟩
  exact congrArg Ending.returned (Act.eval_put_same _ 0 _ (by simp only [Act.size_put, hs1]; omega))
set_option maxRecDepth 100000 in
theorem ksc_row8_calls (w : World) : Calls Try.prog 123 #[] w fun e w' => e = .returned (.pointer (some ⟨w.heap.size, 0, none⟩)) ∧ w' = w.alloc (rowBlock kscR8 107) := by
  refine calls_of_wp Try.func123 rfl ?_
  refine wp_anyFrame 3 (by as_aux_lemma => kernel_rfl) rfl fun a0 hs0 hd0 => ?_
  apply wp_seq_k; intro K0 hK0
  apply wp_region_lit
  refine wpList_runTo rfl _ rfl (.pointer none) w (by as_aux_lemma => kernel_rfl) ?_
  apply wpList_nil
  refine hK0 _ _ ?_
  refine wp_anyFrame 3 (by simp only [Act.size_put, hs0]) (by simp only [Act.defers_put', hd0]) fun a1 hs1 hd1 => ?_
  clear hK0 K0
  apply wp_seq_k; intro K1 hK1
  apply wp_region_lit
  refine wpList_buildFlatArrTo rfl 107 90 94 _ rfl .u16 kscR8 (some 1) rfl u107 s90 z107 (by as_aux_lemma => kernel_rfl) ?_
  refine wpList_boxTo rfl 107 (.tmp 1) rfl (some 2) rfl w.heap.size rfl ((kscR8.map (Value.int .u16)).toArray) ?_ ?_
  · rw [Act.eval_put_same _ 1 _ (by simp only [hs1]; omega)]; rfl
  refine wpList_runTo rfl (some 0) rfl (.pointer (some ⟨w.heap.size, 0, none⟩)) (w.alloc (.cells (kscR8.map (Value.int .u16)).toArray 107)) ?_ ?_
  · show Result.ok (Next.value (Act.eval _ (.tmp 2))) _ = _
    rw [Act.eval_put_same _ 2 _ (by simp only [Act.size_put, hs1]; omega)]
  apply wpList_nil
  refine hK1 _ _ ?_
  apply wp_ret
  refine bodyPost_ret (results_tmp rfl _ _ _) (by simp only [Act.defers_put', hd1]) ⟨?_, rfl⟩
  exact congrArg Ending.returned (Act.eval_put_same _ 0 _ (by simp only [Act.size_put, hs1]; omega))
set_option maxRecDepth 100000 in
theorem ksc_row9_calls (w : World) : Calls Try.prog 124 #[] w fun e w' => e = .returned (.pointer (some ⟨w.heap.size, 0, none⟩)) ∧ w' = w.alloc (rowBlock kscR9 107) := by
  refine calls_of_wp Try.func124 rfl ?_
  refine wp_anyFrame 3 (by as_aux_lemma => kernel_rfl) rfl fun a0 hs0 hd0 => ?_
  apply wp_seq_k; intro K0 hK0
  apply wp_region_lit
  refine wpList_runTo rfl _ rfl (.pointer none) w (by as_aux_lemma => kernel_rfl) ?_
  apply wpList_nil
  refine hK0 _ _ ?_
  refine wp_anyFrame 3 (by simp only [Act.size_put, hs0]) (by simp only [Act.defers_put', hd0]) fun a1 hs1 hd1 => ?_
  clear hK0 K0
  apply wp_seq_k; intro K1 hK1
  apply wp_region_lit
  refine wpList_buildFlatArrTo rfl 107 90 94 _ rfl .u16 kscR9 (some 1) rfl u107 s90 z107 (by as_aux_lemma => kernel_rfl) ?_
  refine wpList_boxTo rfl 107 (.tmp 1) rfl (some 2) rfl w.heap.size rfl ((kscR9.map (Value.int .u16)).toArray) ?_ ?_
  · rw [Act.eval_put_same _ 1 _ (by simp only [hs1]; omega)]; rfl
  refine wpList_runTo rfl (some 0) rfl (.pointer (some ⟨w.heap.size, 0, none⟩)) (w.alloc (.cells (kscR9.map (Value.int .u16)).toArray 107)) ?_ ?_
  · show Result.ok (Next.value (Act.eval _ (.tmp 2))) _ = _
    rw [Act.eval_put_same _ 2 _ (by simp only [Act.size_put, hs1]; omega)]
  apply wpList_nil
  refine hK1 _ _ ?_
  apply wp_ret
  refine bodyPost_ret (results_tmp rfl _ _ _) (by simp only [Act.defers_put', hd1]) ⟨?_, rfl⟩
  exact congrArg Ending.returned (Act.eval_put_same _ 0 _ (by simp only [Act.size_put, hs1]; omega))
set_option maxRecDepth 100000 in
theorem ksc_row10_calls (w : World) : Calls Try.prog 125 #[] w fun e w' => e = .returned (.pointer (some ⟨w.heap.size, 0, none⟩)) ∧ w' = w.alloc (rowBlock kscR10 107) := by
  refine calls_of_wp Try.func125 rfl ?_
  refine wp_anyFrame 3 (by as_aux_lemma => kernel_rfl) rfl fun a0 hs0 hd0 => ?_
  apply wp_seq_k; intro K0 hK0
  apply wp_region_lit
  refine wpList_runTo rfl _ rfl (.pointer none) w (by as_aux_lemma => kernel_rfl) ?_
  apply wpList_nil
  refine hK0 _ _ ?_
  refine wp_anyFrame 3 (by simp only [Act.size_put, hs0]) (by simp only [Act.defers_put', hd0]) fun a1 hs1 hd1 => ?_
  clear hK0 K0
  apply wp_seq_k; intro K1 hK1
  apply wp_region_lit
  refine wpList_buildFlatArrTo rfl 107 90 94 _ rfl .u16 kscR10 (some 1) rfl u107 s90 z107 (by as_aux_lemma => kernel_rfl) ?_
  refine wpList_boxTo rfl 107 (.tmp 1) rfl (some 2) rfl w.heap.size rfl ((kscR10.map (Value.int .u16)).toArray) ?_ ?_
  · rw [Act.eval_put_same _ 1 _ (by simp only [hs1]; omega)]; rfl
  refine wpList_runTo rfl (some 0) rfl (.pointer (some ⟨w.heap.size, 0, none⟩)) (w.alloc (.cells (kscR10.map (Value.int .u16)).toArray 107)) ?_ ?_
  · show Result.ok (Next.value (Act.eval _ (.tmp 2))) _ = _
    rw [Act.eval_put_same _ 2 _ (by simp only [Act.size_put, hs1]; omega)]
  apply wpList_nil
  refine hK1 _ _ ?_
  apply wp_ret
  refine bodyPost_ret (results_tmp rfl _ _ _) (by simp only [Act.defers_put', hd1]) ⟨?_, rfl⟩
  exact congrArg Ending.returned (Act.eval_put_same _ 0 _ (by simp only [Act.size_put, hs1]; omega))
set_option maxRecDepth 100000 in
theorem ksc_row11_calls (w : World) : Calls Try.prog 126 #[] w fun e w' => e = .returned (.pointer (some ⟨w.heap.size, 0, none⟩)) ∧ w' = w.alloc (rowBlock kscR11 107) := by
  refine calls_of_wp Try.func126 rfl ?_
  refine wp_anyFrame 3 (by as_aux_lemma => kernel_rfl) rfl fun a0 hs0 hd0 => ?_
  apply wp_seq_k; intro K0 hK0
  apply wp_region_lit
  refine wpList_runTo rfl _ rfl (.pointer none) w (by as_aux_lemma => kernel_rfl) ?_
  apply wpList_nil
  refine hK0 _ _ ?_
  refine wp_anyFrame 3 (by simp only [Act.size_put, hs0]) (by simp only [Act.defers_put', hd0]) fun a1 hs1 hd1 => ?_
  clear hK0 K0
  apply wp_seq_k; intro K1 hK1
  apply wp_region_lit
  refine wpList_buildFlatArrTo rfl 107 90 94 _ rfl .u16 kscR11 (some 1) rfl u107 s90 z107 (by as_aux_lemma => kernel_rfl) ?_
  refine wpList_boxTo rfl 107 (.tmp 1) rfl (some 2) rfl w.heap.size rfl ((kscR11.map (Value.int .u16)).toArray) ?_ ?_
  · rw [Act.eval_put_same _ 1 _ (by simp only [hs1]; omega)]; rfl
  refine wpList_runTo rfl (some 0) rfl (.pointer (some ⟨w.heap.size, 0, none⟩)) (w.alloc (.cells (kscR11.map (Value.int .u16)).toArray 107)) ?_ ?_
  · show Result.ok (Next.value (Act.eval _ (.tmp 2))) _ = _
    rw [Act.eval_put_same _ 2 _ (by simp only [Act.size_put, hs1]; omega)]
  apply wpList_nil
  refine hK1 _ _ ?_
  apply wp_ret
  refine bodyPost_ret (results_tmp rfl _ _ _) (by simp only [Act.defers_put', hd1]) ⟨?_, rfl⟩
  exact congrArg Ending.returned (Act.eval_put_same _ 0 _ (by simp only [Act.size_put, hs1]; omega))
set_option maxRecDepth 100000 in
theorem ksc_row12_calls (w : World) : Calls Try.prog 127 #[] w fun e w' => e = .returned (.pointer (some ⟨w.heap.size, 0, none⟩)) ∧ w' = w.alloc (rowBlock kscR12 107) := by
  refine calls_of_wp Try.func127 rfl ?_
  refine wp_anyFrame 3 (by as_aux_lemma => kernel_rfl) rfl fun a0 hs0 hd0 => ?_
  apply wp_seq_k; intro K0 hK0
  apply wp_region_lit
  refine wpList_runTo rfl _ rfl (.pointer none) w (by as_aux_lemma => kernel_rfl) ?_
  apply wpList_nil
  refine hK0 _ _ ?_
  refine wp_anyFrame 3 (by simp only [Act.size_put, hs0]) (by simp only [Act.defers_put', hd0]) fun a1 hs1 hd1 => ?_
  clear hK0 K0
  apply wp_seq_k; intro K1 hK1
  apply wp_region_lit
  refine wpList_buildFlatArrTo rfl 107 90 94 _ rfl .u16 kscR12 (some 1) rfl u107 s90 z107 (by as_aux_lemma => kernel_rfl) ?_
  refine wpList_boxTo rfl 107 (.tmp 1) rfl (some 2) rfl w.heap.size rfl ((kscR12.map (Value.int .u16)).toArray) ?_ ?_
  · rw [Act.eval_put_same _ 1 _ (by simp only [hs1]; omega)]; rfl
  refine wpList_runTo rfl (some 0) rfl (.pointer (some ⟨w.heap.size, 0, none⟩)) (w.alloc (.cells (kscR12.map (Value.int .u16)).toArray 107)) ?_ ?_
  · show Result.ok (Next.value (Act.eval _ (.tmp 2))) _ = _
    rw [Act.eval_put_same _ 2 _ (by simp only [Act.size_put, hs1]; omega)]
  apply wpList_nil
  refine hK1 _ _ ?_
  apply wp_ret
  refine bodyPost_ret (results_tmp rfl _ _ _) (by simp only [Act.defers_put', hd1]) ⟨?_, rfl⟩
  exact congrArg Ending.returned (Act.eval_put_same _ 0 _ (by simp only [Act.size_put, hs1]; omega))
set_option maxRecDepth 100000 in
theorem ksc_row16_calls (w : World) : Calls Try.prog 128 #[] w fun e w' => e = .returned (.pointer (some ⟨w.heap.size, 0, none⟩)) ∧ w' = w.alloc (rowBlock kscR16 107) := by
  refine calls_of_wp Try.func128 rfl ?_
  refine wp_anyFrame 3 (by as_aux_lemma => kernel_rfl) rfl fun a0 hs0 hd0 => ?_
  apply wp_seq_k; intro K0 hK0
  apply wp_region_lit
  refine wpList_runTo rfl _ rfl (.pointer none) w (by as_aux_lemma => kernel_rfl) ?_
  apply wpList_nil
  refine hK0 _ _ ?_
  refine wp_anyFrame 3 (by simp only [Act.size_put, hs0]) (by simp only [Act.defers_put', hd0]) fun a1 hs1 hd1 => ?_
  clear hK0 K0
  apply wp_seq_k; intro K1 hK1
  apply wp_region_lit
  refine wpList_buildFlatArrTo rfl 107 90 94 _ rfl .u16 kscR16 (some 1) rfl u107 s90 z107 (by as_aux_lemma => kernel_rfl) ?_
  refine wpList_boxTo rfl 107 (.tmp 1) rfl (some 2) rfl w.heap.size rfl ((kscR16.map (Value.int .u16)).toArray) ?_ ?_
  · rw [Act.eval_put_same _ 1 _ (by simp only [hs1]; omega)]; rfl
  refine wpList_runTo rfl (some 0) rfl (.pointer (some ⟨w.heap.size, 0, none⟩)) (w.alloc (.cells (kscR16.map (Value.int .u16)).toArray 107)) ?_ ?_
  · show Result.ok (Next.value (Act.eval _ (.tmp 2))) _ = _
    rw [Act.eval_put_same _ 2 _ (by simp only [Act.size_put, hs1]; omega)]
  apply wpList_nil
  refine hK1 _ _ ?_
  apply wp_ret
  refine bodyPost_ret (results_tmp rfl _ _ _) (by simp only [Act.defers_put', hd1]) ⟨?_, rfl⟩
  exact congrArg Ending.returned (Act.eval_put_same _ 0 _ (by simp only [Act.size_put, hs1]; omega))
set_option maxRecDepth 100000 in
theorem ksc_row42_calls (w : World) : Calls Try.prog 129 #[] w fun e w' => e = .returned (.pointer (some ⟨w.heap.size, 0, none⟩)) ∧ w' = w.alloc (rowBlock kscR42 107) := by
  refine calls_of_wp Try.func129 rfl ?_
  refine wp_anyFrame 3 (by as_aux_lemma => kernel_rfl) rfl fun a0 hs0 hd0 => ?_
  apply wp_seq_k; intro K0 hK0
  apply wp_region_lit
  refine wpList_runTo rfl _ rfl (.pointer none) w (by as_aux_lemma => kernel_rfl) ?_
  apply wpList_nil
  refine hK0 _ _ ?_
  refine wp_anyFrame 3 (by simp only [Act.size_put, hs0]) (by simp only [Act.defers_put', hd0]) fun a1 hs1 hd1 => ?_
  clear hK0 K0
  apply wp_seq_k; intro K1 hK1
  apply wp_region_lit
  refine wpList_buildFlatArrTo rfl 107 90 94 _ rfl .u16 kscR42 (some 1) rfl u107 s90 z107 (by as_aux_lemma => kernel_rfl) ?_
  refine wpList_boxTo rfl 107 (.tmp 1) rfl (some 2) rfl w.heap.size rfl ((kscR42.map (Value.int .u16)).toArray) ?_ ?_
  · rw [Act.eval_put_same _ 1 _ (by simp only [hs1]; omega)]; rfl
  refine wpList_runTo rfl (some 0) rfl (.pointer (some ⟨w.heap.size, 0, none⟩)) (w.alloc (.cells (kscR42.map (Value.int .u16)).toArray 107)) ?_ ?_
  · show Result.ok (Next.value (Act.eval _ (.tmp 2))) _ = _
    rw [Act.eval_put_same _ 2 _ (by simp only [Act.size_put, hs1]; omega)]
  apply wpList_nil
  refine hK1 _ _ ?_
  apply wp_ret
  refine bodyPost_ret (results_tmp rfl _ _ _) (by simp only [Act.defers_put', hd1]) ⟨?_, rfl⟩
  exact congrArg Ending.returned (Act.eval_put_same _ 0 _ (by simp only [Act.size_put, hs1]; omega))
end

theorem rowBlock_cell (w : World) (zs : List Int) (t : TypeId) (i : Nat) (h : i < zs.length) : (w.alloc (rowBlock zs t)).cell? ⟨w.heap.size, i, none⟩ = some (.int .u16 (zs.getD i 0)) := by
  have e : (w.alloc (rowBlock zs t)).heap[w.heap.size]? = some (.cells (zs.map (Value.int .u16)).toArray t (0, 0)) := heap_alloc_new w _
  rw [cell_of_row _ _ _ _ _ _ e]
  simp [List.getElem?_eq_getElem h]

theorem jisRow_cases (a : Int) : a = 1 ∨ a = 2 ∨ a = 3 ∨ a = 4 ∨ a = 5 ∨ a = 6 ∨ a = 7 ∨ a = 8 ∨ a = 16 ∨ (a ≠ 1 ∧ a ≠ 2 ∧ a ≠ 3 ∧ a ≠ 4 ∧ a ≠ 5 ∧ a ≠ 6 ∧ a ≠ 7 ∧ a ≠ 8 ∧ a ≠ 16 ∧ jisRow a = []) := by
  by_cases h1 : a = 1
  · subst h1; simp
  by_cases h2 : a = 2
  · subst h2; simp
  by_cases h3 : a = 3
  · subst h3; simp
  by_cases h4 : a = 4
  · subst h4; simp
  by_cases h5 : a = 5
  · subst h5; simp
  by_cases h6 : a = 6
  · subst h6; simp
  by_cases h7 : a = 7
  · subst h7; simp
  by_cases h8 : a = 8
  · subst h8; simp
  by_cases h16 : a = 16
  · subst h16; simp
  have hn : jisRow a = [] := by unfold jisRow; rw [if_neg h1, if_neg h2, if_neg h3, if_neg h4, if_neg h5, if_neg h6, if_neg h7, if_neg h8, if_neg h16]
  simp [h1, h2, h3, h4, h5, h6, h7, h8, h16, hn]
theorem jisRow_len (a : Int) (h : jisRow a ≠ []) : (jisRow a).length = 94 := by
  rcases jisRow_cases a with rfl | rfl | rfl | rfl | rfl | rfl | rfl | rfl | rfl | ⟨_, _, _, _, _, _, _, _, _, hn⟩
  iterate 9 (rfl)
  exact absurd hn h
set_option maxHeartbeats 1000000 in
theorem jis_listOf_some (a : Int) (w : World) (h : jisRow a ≠ []) : Calls Try.prog 80 #[.int .i64 a] w fun e w' => e = .returned (.pointer (some ⟨w.heap.size, 0, none⟩)) ∧ w' = w.alloc (rowBlock (jisRow a) 104) := by
  rcases jisRow_cases a with rfl | rfl | rfl | rfl | rfl | rfl | rfl | rfl | rfl | ⟨_, _, _, _, _, _, _, _, _, hn⟩
  · clear h; rw [show jisRow 1 = jisR1 from rfl]; go_enter Try.func80, Try.ntmps80; go_wp2_with (go_at_call 96; refine (jis_row1_calls _).mono ?_; rintro e w' ⟨rfl, rfl⟩); go_ret; exact ⟨rfl, rfl⟩
  · clear h; rw [show jisRow 2 = jisR2 from rfl]; go_enter Try.func80, Try.ntmps80; go_wp2_with (go_at_call 97; refine (jis_row2_calls _).mono ?_; rintro e w' ⟨rfl, rfl⟩); go_ret; exact ⟨rfl, rfl⟩
  · clear h; rw [show jisRow 3 = jisR3 from rfl]; go_enter Try.func80, Try.ntmps80; go_wp2_with (go_at_call 98; refine (jis_row3_calls _).mono ?_; rintro e w' ⟨rfl, rfl⟩); go_ret; exact ⟨rfl, rfl⟩
  · clear h; rw [show jisRow 4 = jisR4 from rfl]; go_enter Try.func80, Try.ntmps80; go_wp2_with (go_at_call 99; refine (jis_row4_calls _).mono ?_; rintro e w' ⟨rfl, rfl⟩); go_ret; exact ⟨rfl, rfl⟩
  · clear h; rw [show jisRow 5 = jisR5 from rfl]; go_enter Try.func80, Try.ntmps80; go_wp2_with (go_at_call 100; refine (jis_row5_calls _).mono ?_; rintro e w' ⟨rfl, rfl⟩); go_ret; exact ⟨rfl, rfl⟩
  · clear h; rw [show jisRow 6 = jisR6 from rfl]; go_enter Try.func80, Try.ntmps80; go_wp2_with (go_at_call 101; refine (jis_row6_calls _).mono ?_; rintro e w' ⟨rfl, rfl⟩); go_ret; exact ⟨rfl, rfl⟩
  · clear h; rw [show jisRow 7 = jisR7 from rfl]; go_enter Try.func80, Try.ntmps80; go_wp2_with (go_at_call 102; refine (jis_row7_calls _).mono ?_; rintro e w' ⟨rfl, rfl⟩); go_ret; exact ⟨rfl, rfl⟩
  · clear h; rw [show jisRow 8 = jisR8 from rfl]; go_enter Try.func80, Try.ntmps80; go_wp2_with (go_at_call 103; refine (jis_row8_calls _).mono ?_; rintro e w' ⟨rfl, rfl⟩); go_ret; exact ⟨rfl, rfl⟩
  · clear h; rw [show jisRow 16 = jisR16 from rfl]; go_enter Try.func80, Try.ntmps80; go_wp2_with (go_at_call 104; refine (jis_row16_calls _).mono ?_; rintro e w' ⟨rfl, rfl⟩); go_ret; exact ⟨rfl, rfl⟩
  · simp [hn] at h
theorem jis_listOf_none (a : Int) (w : World) (h : jisRow a = []) : Calls Try.prog 80 #[.int .i64 a] w fun e w' => e = .returned (.pointer none) ∧ w' = w := by
  rcases jisRow_cases a with rfl | rfl | rfl | rfl | rfl | rfl | rfl | rfl | rfl | ⟨h1, h2, h3, h4, h5, h6, h7, h8, h16, _⟩
  iterate 9 (exact absurd h (by simp [jisRow]; first | done | exact List.cons_ne_nil _ _ | decide))
  have b1 : (a == 1) = false := beq_eq_false_iff_ne.mpr h1
  have b2 : (a == 2) = false := beq_eq_false_iff_ne.mpr h2
  have b3 : (a == 3) = false := beq_eq_false_iff_ne.mpr h3
  have b4 : (a == 4) = false := beq_eq_false_iff_ne.mpr h4
  have b5 : (a == 5) = false := beq_eq_false_iff_ne.mpr h5
  have b6 : (a == 6) = false := beq_eq_false_iff_ne.mpr h6
  have b7 : (a == 7) = false := beq_eq_false_iff_ne.mpr h7
  have b8 : (a == 8) = false := beq_eq_false_iff_ne.mpr h8
  have b16 : (a == 16) = false := beq_eq_false_iff_ne.mpr h16
  clear h h1 h2 h3 h4 h5 h6 h7 h8 h16
  go_enter Try.func80, Try.ntmps80
  go_wp2
  go_ret
  exact ⟨rfl, rfl⟩
theorem gbRow_cases (a : Int) : a = 1 ∨ a = 2 ∨ a = 3 ∨ a = 4 ∨ a = 5 ∨ a = 6 ∨ a = 7 ∨ a = 8 ∨ a = 9 ∨ a = 16 ∨ (a ≠ 1 ∧ a ≠ 2 ∧ a ≠ 3 ∧ a ≠ 4 ∧ a ≠ 5 ∧ a ≠ 6 ∧ a ≠ 7 ∧ a ≠ 8 ∧ a ≠ 9 ∧ a ≠ 16 ∧ gbRow a = []) := by
  by_cases h1 : a = 1
  · subst h1; simp
  by_cases h2 : a = 2
  · subst h2; simp
  by_cases h3 : a = 3
  · subst h3; simp
  by_cases h4 : a = 4
  · subst h4; simp
  by_cases h5 : a = 5
  · subst h5; simp
  by_cases h6 : a = 6
  · subst h6; simp
  by_cases h7 : a = 7
  · subst h7; simp
  by_cases h8 : a = 8
  · subst h8; simp
  by_cases h9 : a = 9
  · subst h9; simp
  by_cases h16 : a = 16
  · subst h16; simp
  have hn : gbRow a = [] := by unfold gbRow; rw [if_neg h1, if_neg h2, if_neg h3, if_neg h4, if_neg h5, if_neg h6, if_neg h7, if_neg h8, if_neg h9, if_neg h16]
  simp [h1, h2, h3, h4, h5, h6, h7, h8, h9, h16, hn]
theorem gbRow_len (a : Int) (h : gbRow a ≠ []) : (gbRow a).length = 94 := by
  rcases gbRow_cases a with rfl | rfl | rfl | rfl | rfl | rfl | rfl | rfl | rfl | rfl | ⟨_, _, _, _, _, _, _, _, _, _, hn⟩
  iterate 10 (rfl)
  exact absurd hn h
set_option maxHeartbeats 1000000 in
theorem gb_listOf_some (a : Int) (w : World) (h : gbRow a ≠ []) : Calls Try.prog 82 #[.int .i64 a] w fun e w' => e = .returned (.pointer (some ⟨w.heap.size, 0, none⟩)) ∧ w' = w.alloc (rowBlock (gbRow a) 105) := by
  rcases gbRow_cases a with rfl | rfl | rfl | rfl | rfl | rfl | rfl | rfl | rfl | rfl | ⟨_, _, _, _, _, _, _, _, _, _, hn⟩
  · clear h; rw [show gbRow 1 = gbR1 from rfl]; go_enter Try.func82, Try.ntmps82; go_wp2_with (go_at_call 105; refine (gb_row1_calls _).mono ?_; rintro e w' ⟨rfl, rfl⟩); go_ret; exact ⟨rfl, rfl⟩
  · clear h; rw [show gbRow 2 = gbR2 from rfl]; go_enter Try.func82, Try.ntmps82; go_wp2_with (go_at_call 106; refine (gb_row2_calls _).mono ?_; rintro e w' ⟨rfl, rfl⟩); go_ret; exact ⟨rfl, rfl⟩
  · clear h; rw [show gbRow 3 = gbR3 from rfl]; go_enter Try.func82, Try.ntmps82; go_wp2_with (go_at_call 107; refine (gb_row3_calls _).mono ?_; rintro e w' ⟨rfl, rfl⟩); go_ret; exact ⟨rfl, rfl⟩
  · clear h; rw [show gbRow 4 = gbR4 from rfl]; go_enter Try.func82, Try.ntmps82; go_wp2_with (go_at_call 108; refine (gb_row4_calls _).mono ?_; rintro e w' ⟨rfl, rfl⟩); go_ret; exact ⟨rfl, rfl⟩
  · clear h; rw [show gbRow 5 = gbR5 from rfl]; go_enter Try.func82, Try.ntmps82; go_wp2_with (go_at_call 109; refine (gb_row5_calls _).mono ?_; rintro e w' ⟨rfl, rfl⟩); go_ret; exact ⟨rfl, rfl⟩
  · clear h; rw [show gbRow 6 = gbR6 from rfl]; go_enter Try.func82, Try.ntmps82; go_wp2_with (go_at_call 110; refine (gb_row6_calls _).mono ?_; rintro e w' ⟨rfl, rfl⟩); go_ret; exact ⟨rfl, rfl⟩
  · clear h; rw [show gbRow 7 = gbR7 from rfl]; go_enter Try.func82, Try.ntmps82; go_wp2_with (go_at_call 111; refine (gb_row7_calls _).mono ?_; rintro e w' ⟨rfl, rfl⟩); go_ret; exact ⟨rfl, rfl⟩
  · clear h; rw [show gbRow 8 = gbR8 from rfl]; go_enter Try.func82, Try.ntmps82; go_wp2_with (go_at_call 112; refine (gb_row8_calls _).mono ?_; rintro e w' ⟨rfl, rfl⟩); go_ret; exact ⟨rfl, rfl⟩
  · clear h; rw [show gbRow 9 = gbR9 from rfl]; go_enter Try.func82, Try.ntmps82; go_wp2_with (go_at_call 113; refine (gb_row9_calls _).mono ?_; rintro e w' ⟨rfl, rfl⟩); go_ret; exact ⟨rfl, rfl⟩
  · clear h; rw [show gbRow 16 = gbR16 from rfl]; go_enter Try.func82, Try.ntmps82; go_wp2_with (go_at_call 114; refine (gb_row16_calls _).mono ?_; rintro e w' ⟨rfl, rfl⟩); go_ret; exact ⟨rfl, rfl⟩
  · simp [hn] at h
theorem gb_listOf_none (a : Int) (w : World) (h : gbRow a = []) : Calls Try.prog 82 #[.int .i64 a] w fun e w' => e = .returned (.pointer none) ∧ w' = w := by
  rcases gbRow_cases a with rfl | rfl | rfl | rfl | rfl | rfl | rfl | rfl | rfl | rfl | ⟨h1, h2, h3, h4, h5, h6, h7, h8, h9, h16, _⟩
  iterate 10 (exact absurd h (by simp [gbRow]; first | done | exact List.cons_ne_nil _ _ | decide))
  have b1 : (a == 1) = false := beq_eq_false_iff_ne.mpr h1
  have b2 : (a == 2) = false := beq_eq_false_iff_ne.mpr h2
  have b3 : (a == 3) = false := beq_eq_false_iff_ne.mpr h3
  have b4 : (a == 4) = false := beq_eq_false_iff_ne.mpr h4
  have b5 : (a == 5) = false := beq_eq_false_iff_ne.mpr h5
  have b6 : (a == 6) = false := beq_eq_false_iff_ne.mpr h6
  have b7 : (a == 7) = false := beq_eq_false_iff_ne.mpr h7
  have b8 : (a == 8) = false := beq_eq_false_iff_ne.mpr h8
  have b9 : (a == 9) = false := beq_eq_false_iff_ne.mpr h9
  have b16 : (a == 16) = false := beq_eq_false_iff_ne.mpr h16
  clear h h1 h2 h3 h4 h5 h6 h7 h8 h9 h16
  go_enter Try.func82, Try.ntmps82
  go_wp2
  go_ret
  exact ⟨rfl, rfl⟩
theorem kscRow_cases (a : Int) : a = 1 ∨ a = 2 ∨ a = 3 ∨ a = 4 ∨ a = 5 ∨ a = 6 ∨ a = 7 ∨ a = 8 ∨ a = 9 ∨ a = 10 ∨ a = 11 ∨ a = 12 ∨ a = 16 ∨ a = 42 ∨ (a ≠ 1 ∧ a ≠ 2 ∧ a ≠ 3 ∧ a ≠ 4 ∧ a ≠ 5 ∧ a ≠ 6 ∧ a ≠ 7 ∧ a ≠ 8 ∧ a ≠ 9 ∧ a ≠ 10 ∧ a ≠ 11 ∧ a ≠ 12 ∧ a ≠ 16 ∧ a ≠ 42 ∧ kscRow a = []) := by
  by_cases h1 : a = 1
  · subst h1; simp
  by_cases h2 : a = 2
  · subst h2; simp
  by_cases h3 : a = 3
  · subst h3; simp
  by_cases h4 : a = 4
  · subst h4; simp
  by_cases h5 : a = 5
  · subst h5; simp
  by_cases h6 : a = 6
  · subst h6; simp
  by_cases h7 : a = 7
  · subst h7; simp
  by_cases h8 : a = 8
  · subst h8; simp
  by_cases h9 : a = 9
  · subst h9; simp
  by_cases h10 : a = 10
  · subst h10; simp
  by_cases h11 : a = 11
  · subst h11; simp
  by_cases h12 : a = 12
  · subst h12; simp
  by_cases h16 : a = 16
  · subst h16; simp
  by_cases h42 : a = 42
  · subst h42; simp
  have hn : kscRow a = [] := by unfold kscRow; rw [if_neg h1, if_neg h2, if_neg h3, if_neg h4, if_neg h5, if_neg h6, if_neg h7, if_neg h8, if_neg h9, if_neg h10, if_neg h11, if_neg h12, if_neg h16, if_neg h42]
  simp [h1, h2, h3, h4, h5, h6, h7, h8, h9, h10, h11, h12, h16, h42, hn]
theorem kscRow_len (a : Int) (h : kscRow a ≠ []) : (kscRow a).length = 94 := by
  rcases kscRow_cases a with rfl | rfl | rfl | rfl | rfl | rfl | rfl | rfl | rfl | rfl | rfl | rfl | rfl | rfl | ⟨_, _, _, _, _, _, _, _, _, _, _, _, _, _, hn⟩
  iterate 14 (rfl)
  exact absurd hn h
set_option maxHeartbeats 1000000 in
theorem ksc_listOf_some (a : Int) (w : World) (h : kscRow a ≠ []) : Calls Try.prog 115 #[.int .i64 a] w fun e w' => e = .returned (.pointer (some ⟨w.heap.size, 0, none⟩)) ∧ w' = w.alloc (rowBlock (kscRow a) 107) := by
  rcases kscRow_cases a with rfl | rfl | rfl | rfl | rfl | rfl | rfl | rfl | rfl | rfl | rfl | rfl | rfl | rfl | ⟨_, _, _, _, _, _, _, _, _, _, _, _, _, _, hn⟩
  · clear h; rw [show kscRow 1 = kscR1 from rfl]; go_enter Try.func115, Try.ntmps115; go_wp2_with (go_at_call 116; refine (ksc_row1_calls _).mono ?_; rintro e w' ⟨rfl, rfl⟩); go_ret; exact ⟨rfl, rfl⟩
  · clear h; rw [show kscRow 2 = kscR2 from rfl]; go_enter Try.func115, Try.ntmps115; go_wp2_with (go_at_call 117; refine (ksc_row2_calls _).mono ?_; rintro e w' ⟨rfl, rfl⟩); go_ret; exact ⟨rfl, rfl⟩
  · clear h; rw [show kscRow 3 = kscR3 from rfl]; go_enter Try.func115, Try.ntmps115; go_wp2_with (go_at_call 118; refine (ksc_row3_calls _).mono ?_; rintro e w' ⟨rfl, rfl⟩); go_ret; exact ⟨rfl, rfl⟩
  · clear h; rw [show kscRow 4 = kscR4 from rfl]; go_enter Try.func115, Try.ntmps115; go_wp2_with (go_at_call 119; refine (ksc_row4_calls _).mono ?_; rintro e w' ⟨rfl, rfl⟩); go_ret; exact ⟨rfl, rfl⟩
  · clear h; rw [show kscRow 5 = kscR5 from rfl]; go_enter Try.func115, Try.ntmps115; go_wp2_with (go_at_call 120; refine (ksc_row5_calls _).mono ?_; rintro e w' ⟨rfl, rfl⟩); go_ret; exact ⟨rfl, rfl⟩
  · clear h; rw [show kscRow 6 = kscR6 from rfl]; go_enter Try.func115, Try.ntmps115; go_wp2_with (go_at_call 121; refine (ksc_row6_calls _).mono ?_; rintro e w' ⟨rfl, rfl⟩); go_ret; exact ⟨rfl, rfl⟩
  · clear h; rw [show kscRow 7 = kscR7 from rfl]; go_enter Try.func115, Try.ntmps115; go_wp2_with (go_at_call 122; refine (ksc_row7_calls _).mono ?_; rintro e w' ⟨rfl, rfl⟩); go_ret; exact ⟨rfl, rfl⟩
  · clear h; rw [show kscRow 8 = kscR8 from rfl]; go_enter Try.func115, Try.ntmps115; go_wp2_with (go_at_call 123; refine (ksc_row8_calls _).mono ?_; rintro e w' ⟨rfl, rfl⟩); go_ret; exact ⟨rfl, rfl⟩
  · clear h; rw [show kscRow 9 = kscR9 from rfl]; go_enter Try.func115, Try.ntmps115; go_wp2_with (go_at_call 124; refine (ksc_row9_calls _).mono ?_; rintro e w' ⟨rfl, rfl⟩); go_ret; exact ⟨rfl, rfl⟩
  · clear h; rw [show kscRow 10 = kscR10 from rfl]; go_enter Try.func115, Try.ntmps115; go_wp2_with (go_at_call 125; refine (ksc_row10_calls _).mono ?_; rintro e w' ⟨rfl, rfl⟩); go_ret; exact ⟨rfl, rfl⟩
  · clear h; rw [show kscRow 11 = kscR11 from rfl]; go_enter Try.func115, Try.ntmps115; go_wp2_with (go_at_call 126; refine (ksc_row11_calls _).mono ?_; rintro e w' ⟨rfl, rfl⟩); go_ret; exact ⟨rfl, rfl⟩
  · clear h; rw [show kscRow 12 = kscR12 from rfl]; go_enter Try.func115, Try.ntmps115; go_wp2_with (go_at_call 127; refine (ksc_row12_calls _).mono ?_; rintro e w' ⟨rfl, rfl⟩); go_ret; exact ⟨rfl, rfl⟩
  · clear h; rw [show kscRow 16 = kscR16 from rfl]; go_enter Try.func115, Try.ntmps115; go_wp2_with (go_at_call 128; refine (ksc_row16_calls _).mono ?_; rintro e w' ⟨rfl, rfl⟩); go_ret; exact ⟨rfl, rfl⟩
  · clear h; rw [show kscRow 42 = kscR42 from rfl]; go_enter Try.func115, Try.ntmps115; go_wp2_with (go_at_call 129; refine (ksc_row42_calls _).mono ?_; rintro e w' ⟨rfl, rfl⟩); go_ret; exact ⟨rfl, rfl⟩
  · simp [hn] at h
theorem ksc_listOf_none (a : Int) (w : World) (h : kscRow a = []) : Calls Try.prog 115 #[.int .i64 a] w fun e w' => e = .returned (.pointer none) ∧ w' = w := by
  rcases kscRow_cases a with rfl | rfl | rfl | rfl | rfl | rfl | rfl | rfl | rfl | rfl | rfl | rfl | rfl | rfl | ⟨h1, h2, h3, h4, h5, h6, h7, h8, h9, h10, h11, h12, h16, h42, _⟩
  iterate 14 (exact absurd h (by simp [kscRow]; first | done | exact List.cons_ne_nil _ _ | decide))
  have b1 : (a == 1) = false := beq_eq_false_iff_ne.mpr h1
  have b2 : (a == 2) = false := beq_eq_false_iff_ne.mpr h2
  have b3 : (a == 3) = false := beq_eq_false_iff_ne.mpr h3
  have b4 : (a == 4) = false := beq_eq_false_iff_ne.mpr h4
  have b5 : (a == 5) = false := beq_eq_false_iff_ne.mpr h5
  have b6 : (a == 6) = false := beq_eq_false_iff_ne.mpr h6
  have b7 : (a == 7) = false := beq_eq_false_iff_ne.mpr h7
  have b8 : (a == 8) = false := beq_eq_false_iff_ne.mpr h8
  have b9 : (a == 9) = false := beq_eq_false_iff_ne.mpr h9
  have b10 : (a == 10) = false := beq_eq_false_iff_ne.mpr h10
  have b11 : (a == 11) = false := beq_eq_false_iff_ne.mpr h11
  have b12 : (a == 12) = false := beq_eq_false_iff_ne.mpr h12
  have b16 : (a == 16) = false := beq_eq_false_iff_ne.mpr h16
  have b42 : (a == 42) = false := beq_eq_false_iff_ne.mpr h42
  clear h h1 h2 h3 h4 h5 h6 h7 h8 h9 h10 h11 h12 h16 h42
  go_enter Try.func115, Try.ntmps115
  go_wp2
  go_ret
  exact ⟨rfl, rfl⟩
end Go.Proofs.Ytenmanionddamaa
