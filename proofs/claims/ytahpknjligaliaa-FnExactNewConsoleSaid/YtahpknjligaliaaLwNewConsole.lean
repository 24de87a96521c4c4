/- The walk of the law NewConsole: for every Bench it returns true and turns nothing that was there. -/
import Derived.Test.YtahpknjligaliaaCons2
import Derived.Test.YtahpknjligaliaaBench4
namespace Go.Proofs.Ytahpknjligaliaa
open Go.RowKit
set_option linter.unusedVariables false
set_option maxRecDepth 100000
theorem FnExactNewConsole_walk (v : Value) (b : List Int) (w : World) (hv : v = aggI b ∧ b.length = 19) : Calls Try.prog 3 #[v] w fun e w' => e = .returned (.bool true) ∧ Below w.heap.size w w' := by
  obtain ⟨rfl, hb⟩ := hv
  have r0 := range_new w (ints b) 24
  have hb0 := below_one (w := w) (.cells (ints b).toArray 24)
  have hc : (ncB b).length = 19 := by unfold ncB; split <;> simp [hb, zeroI]
  have HV : Hid (ncV b = .tuple #[.agg (csC (ncB b) ByteArray.empty ByteArray.empty 0).toArray, .bool (goodB b)]) := rfl
  unfold aggI
  generalize ncB b = c at *
  go_enter Try.func3, Try.ntmps3
  go_wp2_with (refine wpList_loadBL rfl _ rfl _ rfl b r0 hb ?_)
  refine (toBench_c b _ hb).mono ?_
  rintro e w1 ⟨rfl, hb1⟩
  have r1 := range_below r0 hb1
  have hb2 := Below.chain hb0 hb1
  clear r0 hb0 hb1
  go_wp2_with fail
  refine (sNewConsole_c b _ hb).mono ?_
  rintro e w2 ⟨rfl, hb3⟩
  rw [HV.out]
  have r2 := range_below r1 hb3
  have hb4 := Below.chain hb2 hb3
  clear r1 hb2 hb3
  have t2 := there_new w2 zCA 29 (n := 22) (by decide)
  have k2 := World.rangeAt_setCells_same (w2.alloc (.cells zCA 29)) w2.heap.size 0 (csC c ByteArray.empty ByteArray.empty 0) (by rw [csC_len hc]; exact t2)
  have r3 := World.rangeAt_setCells_apart (World.rangeAt_alloc r2 (.cells zCA 29)) w2.heap.size 0 (csC c ByteArray.empty ByteArray.empty 0) (.inl (by have := hb4.size; have := World.block_lt_of_cell? _ _ (cell18 r2 (j := 0) (by omega)); simp at this; omega))
  have hb5 := below_cells (csC c ByteArray.empty ByteArray.empty 0) _ w2.heap.size 0 (Below.alc hb4 (.cells zCA 29)) hb4.size
  unfold zCA at *
  go_wp2_with (first | (refine wpList_storeC rfl _ _ rfl _ c ByteArray.empty ByteArray.empty 0 rfl rfl t2 hc ?_) | (refine wpList_loadBL rfl _ rfl _ rfl b r3 hb ?_))
  clear r2 hb4 t2
  have hb3 : w2.heap.size < ((w2.alloc (.cells #[.int .i64 0, .int .i64 0, .int .i64 0, .int .i64 0, .int .i64 0, .int .i64 0, .int .i64 0, .int .i64 0, .int .i64 0, .int .i64 0, .int .i64 0, .int .i64 0, .int .i64 0, .int .i64 0, .int .i64 0, .int .i64 0, .int .i64 0, .int .i64 0, .int .i64 0, .string (ByteArray.mk #[]), .string (ByteArray.mk #[]), .int .i64 0] 29)).setCells w2.heap.size 0 (csC c ByteArray.empty ByteArray.empty 0)).heap.size := by
    have := World.block_lt_of_cell? _ _ (k2 0 (.int .i64 (bg c 0)) (by have := ints_get (b := c) (j := 0) (by omega); unfold csC; rw [List.getElem?_append_left (by simp; omega)]; simpa using this))
    simpa using this
  generalize (w2.alloc (.cells #[.int .i64 0, .int .i64 0, .int .i64 0, .int .i64 0, .int .i64 0, .int .i64 0, .int .i64 0, .int .i64 0, .int .i64 0, .int .i64 0, .int .i64 0, .int .i64 0, .int .i64 0, .int .i64 0, .int .i64 0, .int .i64 0, .int .i64 0, .int .i64 0, .int .i64 0, .string (ByteArray.mk #[]), .string (ByteArray.mk #[]), .int .i64 0] 29)).setCells w2.heap.size 0 (csC c ByteArray.empty ByteArray.empty 0) = w3 at *
  refine (toBench_c b _ hb).mono ?_
  rintro e w4 ⟨rfl, hb6⟩
  have hb7 := Below.chain hb5 hb6
  have k4 := range_below k2 hb6
  have z4 := hb6.size
  clear r3 hb5 hb6 k2
  go_wp2_with fail
  refine (NewConsole_c b _ hb).mono ?_
  rintro e w5 ⟨rfl, hb6⟩
  rw [HV.out]
  have hb8 := Below.chain hb7 hb6
  have k5 := range_below k4 hb6
  have z5 := hb6.size
  clear hb7 hb6 k4
  have t5 := there_new w5 zCA 29 (n := 22) (by decide)
  have k6 := World.rangeAt_setCells_same (w5.alloc (.cells zCA 29)) w5.heap.size 0 (csC c ByteArray.empty ByteArray.empty 0) (by rw [csC_len hc]; exact t5)
  have k7 := World.rangeAt_setCells_apart (World.rangeAt_alloc k5 (.cells zCA 29)) w5.heap.size 0 (csC c ByteArray.empty ByteArray.empty 0) (.inl (by omega))
  have hb9 := below_cells (csC c ByteArray.empty ByteArray.empty 0) _ w5.heap.size 0 (Below.alc hb8 (.cells zCA 29)) hb8.size
  unfold zCA at *
  go_wp2_with (first | (refine wpList_storeC rfl _ _ rfl _ c ByteArray.empty ByteArray.empty 0 rfl rfl t5 hc ?_) | (refine wpList_loadC rfl _ rfl _ rfl c ByteArray.empty ByteArray.empty 0 k6 hc ?_) | (refine wpList_loadC rfl _ rfl _ rfl c ByteArray.empty ByteArray.empty 0 k7 hc ?_))
  refine (eqConsole_c c _ _ _ _ hc).mono ?_
  rintro e w6 ⟨rfl, hb10⟩
  have hb11 := Below.chain hb9 hb10
  have hqq : (goodB b != goodB b) = false := by simp
  go_wp2
  go_ret
  exact ⟨rfl, hb11⟩
end Go.Proofs.Ytahpknjligaliaa
