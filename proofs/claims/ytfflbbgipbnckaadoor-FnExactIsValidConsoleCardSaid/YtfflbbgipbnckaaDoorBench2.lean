/- Walks of the laws' copies and comparisons of a Bench. -/
import Derived.Test.YtfflbbgipbnckaaDoorBench
namespace Go.Proofs.YtfflbbgipbnckaaDoor
open Go.RowKit
set_option linter.unusedVariables false
set_option maxRecDepth 100000
theorem len6 {b : List Int} (h : b.length = 6) : ∃ x0 x1 x2 x3 x4 x5, b = [x0, x1, x2, x3, x4, x5] := by
  match b, h with
  | [x0, x1, x2, x3, x4, x5], _ => exact ⟨x0, x1, x2, x3, x4, x5, rfl⟩
theorem toIntA6_c (b : List Int) (w : World) (hb : b.length = 6) : Calls Tryd.prog 70 #[aggI b] w fun e w' => e = .returned (aggI b) ∧ Below w.heap.size w w' := by
  obtain ⟨x0, x1, x2, x3, x4, x5, rfl⟩ := len6 hb
  simp only [aggI, ints, List.map_cons, List.map_nil]
  go_enter Tryd.func70, Tryd.ntmps70
  go_wp2
  refine wp_loop_rounds 7 ?_
  rw [rounds_succ]
  go_wp2
  rw [rounds_succ]
  go_wp2
  rw [rounds_succ]
  go_wp2
  rw [rounds_succ]
  go_wp2
  rw [rounds_succ]
  go_wp2
  rw [rounds_succ]
  go_wp2
  rw [rounds_succ]
  go_wp2
  exact bodyPost_ret (v := .agg #[.int .i64 x0, .int .i64 x1, .int .i64 x2, .int .i64 x3, .int .i64 x4, .int .i64 x5]) (by simp [results, Tryd.results70, go_sem]) rfl ⟨rfl, by (repeat (first | exact Below.refl _ _ | exact (Below.refl _ _).drew | assumption | exact below_one _ | refine Below.chain ?_ (by assumption) | refine Below.drew ?_ | refine Below.alc ?_ _ | refine below_drewN ?_ | (refine Below.setCell ?_ ?_ _) | exact Nat.le_refl _ | (simp; done) | (simp; omega)))⟩
/-- six of the ints -/
def pt (b : List Int) (o : Nat) : List Int := (b.drop o).take 6
theorem part6 {w : World} {g : Nat} {b : List Int} (h : w.rangeAt g 0 (ints b)) (o : Nat) : w.rangeAt g o (ints (pt b o)) := by
  have := range_sub h o 6
  rw [Nat.zero_add] at this
  simpa [ints, pt, List.map_take, List.map_drop] using this
theorem part6_len {b : List Int} (h : b.length = 19) {o : Nat} (ho : o ≤ 12) : (pt b o).length = 6 := by simp [pt, h]; omega
theorem cell18 {w : World} {g : Nat} {b : List Int} (h : w.rangeAt g 0 (ints b)) {j : Nat} (hj : j < b.length) : w.cell? ⟨g, j, none⟩ = some (.int .i64 (bg b j)) := by
  have := h j (.int .i64 (bg b j)) (by have := ints_get hj; simpa using this)
  rwa [Nat.zero_add] at this
theorem pt_join {b : List Int} (h : b.length = 19) : ints b = ((ints (pt b 0) ++ ints (pt b 6)) ++ ints (pt b 12)) ++ [.int .i64 (bg b 18)] := by
  have : b = ((pt b 0 ++ pt b 6) ++ pt b 12) ++ [bg b 18] := by
    match b, h with
    | [_, _, _, _, _, _, _, _, _, _, _, _, _, _, _, _, _, _, _], _ => rfl
  conv => lhs; rw [this]
  simp [ints]
/-- a new Bench -/
def zB : Obj := .cells #[.int .i64 0, .int .i64 0, .int .i64 0, .int .i64 0, .int .i64 0, .int .i64 0, .int .i64 0, .int .i64 0, .int .i64 0, .int .i64 0, .int .i64 0, .int .i64 0, .int .i64 0, .int .i64 0, .int .i64 0, .int .i64 0, .int .i64 0, .int .i64 0, .int .i64 0] 60
set_option maxHeartbeats 1600000 in
theorem toBench_c (b : List Int) (w : World) (hb : b.length = 19) : Calls Tryd.prog 51 #[aggI b] w fun e w' => e = .returned (aggI b) ∧ Below w.heap.size w w' := by
  have r0 := World.rangeAt_alloc (World.rangeAt_alloc (range_new w (ints b) 55) zB) zB
  have t1 := World.there_alloc (there_new (w.alloc (.cells (ints b).toArray 55)) _ 60 (n := 19) (show 19 ≤ (#[.int .i64 0, .int .i64 0, .int .i64 0, .int .i64 0, .int .i64 0, .int .i64 0, .int .i64 0, .int .i64 0, .int .i64 0, .int .i64 0, .int .i64 0, .int .i64 0, .int .i64 0, .int .i64 0, .int .i64 0, .int .i64 0, .int .i64 0, .int .i64 0, .int .i64 0] : Array Value).size by decide)) zB
  have t2 := there_new ((w.alloc (.cells (ints b).toArray 55)).alloc zB) _ 60 (n := 19) (show 19 ≤ (#[.int .i64 0, .int .i64 0, .int .i64 0, .int .i64 0, .int .i64 0, .int .i64 0, .int .i64 0, .int .i64 0, .int .i64 0, .int .i64 0, .int .i64 0, .int .i64 0, .int .i64 0, .int .i64 0, .int .i64 0, .int .i64 0, .int .i64 0, .int .i64 0, .int .i64 0] : Array Value).size by decide)
  have hb0 : Below w.heap.size w (((w.alloc (.cells (ints b).toArray 55)).alloc zB).alloc zB) := by (repeat (first | exact Below.refl _ _ | exact (Below.refl _ _).drew | assumption | exact below_one _ | refine Below.chain ?_ (by assumption) | refine Below.drew ?_ | refine Below.alc ?_ _ | refine below_drewN ?_ | (refine Below.setCell ?_ ?_ _) | exact Nat.le_refl _ | (simp; done) | (simp; omega)))
  simp only [World.size_alloc] at t1 t2
  have p0 := part6 r0 0
  have p1 := part6_len hb (o := 0) (by decide)
  have p2 := part6_len hb (o := 6) (by decide)
  have p3 := part6_len hb (o := 12) (by decide)
  unfold aggI
  unfold zB at *
  go_enter Tryd.func51, Tryd.ntmps51
  go_wp2_with (refine wpList_load6 rfl _ rfl _ _ rfl _ p0 p1 ?_)
  refine (toIntA6_c _ _ p1).mono ?_
  rintro e w1 ⟨rfl, hb1⟩
  have q1 := there_below t1 hb1
  have q2 := there_below t2 hb1
  have hB1 := below_cells (ints (pt b 0)) _ (w.heap.size + 1 + 1) 0 (Below.chain hb0 hb1) (by omega)
  have r1 := World.rangeAt_setCells_apart (range_below r0 hb1) (w.heap.size + 1 + 1) 0 (ints (pt b 0)) (.inl (by omega))
  have u1 := World.there_setCells q1 (w.heap.size + 1 + 1) 0 (ints (pt b 0))
  have v1 := World.there_setCells q2 (w.heap.size + 1 + 1) 0 (ints (pt b 0))
  have c1 := World.rangeAt_setCells_same w1 (w.heap.size + 1 + 1) 0 (ints (pt b 0)) (there_sub q2 (by omega) (by simp [p1]))
  have qs := there_sub q2 (o' := 0) (n' := 6) (by omega) (by omega)
  have p6 := part6 r1 6
  clear r0 t1 t2 hb0 p0 hb1 q1 q2
  go_wp2_with (first | (refine wpList_store6 rfl _ _ rfl _ _ (pt b 0) rfl rfl qs p1 ?_) | (refine wpList_load6 rfl _ rfl _ _ rfl _ p6 p2 ?_))
  refine (toIntA6_c _ _ p2).mono ?_
  rintro e w2 ⟨rfl, hb2⟩
  have q1 := there_below u1 hb2
  have q2 := there_below v1 hb2
  have hB2 := below_cells (ints (pt b 6)) _ (w.heap.size + 1 + 1) 6 (Below.chain hB1 hb2) (by omega)
  have r2 := World.rangeAt_setCells_apart (range_below r1 hb2) (w.heap.size + 1 + 1) 6 (ints (pt b 6)) (.inl (by omega))
  have u2 := World.there_setCells q1 (w.heap.size + 1 + 1) 6 (ints (pt b 6))
  have v2 := World.there_setCells q2 (w.heap.size + 1 + 1) 6 (ints (pt b 6))
  have c2 := range_grow (range_below c1 hb2) (ys := ints (pt b 6)) (there_sub q2 (by simp [p1]) (by simp [p1, p2]))
  rw [show (ints (pt b 0)).length = 6 by simp [p1]] at c2
  have qs2 := there_sub q2 (o' := 6) (n' := 6) (by omega) (by omega)
  have p12 := part6 r2 12
  clear r1 u1 v1 c1 qs p6 hB1 hb2 q1 q2
  go_wp2_with (first | (refine wpList_store6 rfl _ _ rfl _ _ (pt b 6) rfl rfl qs2 p2 ?_) | (refine wpList_load6 rfl _ rfl _ _ rfl _ p12 p3 ?_))
  refine (toIntA6_c _ _ p3).mono ?_
  rintro e w3 ⟨rfl, hb3⟩
  have q1 := there_below u2 hb3
  have q2 := there_below v2 hb3
  have hB3 := below_cells (ints (pt b 12)) _ (w.heap.size + 1 + 1) 12 (Below.chain hB2 hb3) (by omega)
  have r3 := World.rangeAt_setCells_apart (range_below r2 hb3) (w.heap.size + 1 + 1) 12 (ints (pt b 12)) (.inl (by omega))
  have u3 := World.there_setCells q1 (w.heap.size + 1 + 1) 12 (ints (pt b 12))
  have v3 := World.there_setCells q2 (w.heap.size + 1 + 1) 12 (ints (pt b 12))
  have c3 := range_grow (range_below c2 hb3) (ys := ints (pt b 12)) (there_sub q2 (by simp [p1, p2]) (by simp [p1, p2, p3]))
  rw [show (ints (pt b 0) ++ ints (pt b 6)).length = 12 by simp [p1, p2]] at c3
  have qs3 := there_sub q2 (o' := 12) (n' := 6) (by omega) (by omega)
  have g18 := cell18 r3 (j := 18) (by omega)
  clear r2 u2 v2 c2 qs2 p12 hB2 hb3 q1 q2
  have hk := range_grow c3 (ys := [.int .i64 (bg b 18)]) (there_sub v3 (by simp [p1, p2, p3]) (by simp [p1, p2, p3]))
  rw [← pt_join hb, show ((ints (pt b 0) ++ ints (pt b 6)) ++ ints (pt b 12)).length = 18 by simp [p1, p2, p3]] at hk
  have e18 := v3 18 (by omega)
  obtain ⟨z18, hz18⟩ := Option.isSome_iff_exists.1 e18.1
  have f18 := e18.2
  rw [Nat.zero_add] at hz18 f18
  have u4 := World.there_setCells u3 (w.heap.size + 1 + 1) 18 [.int .i64 (bg b 18)]
  have hB4 := below_cells [.int .i64 (bg b 18)] _ (w.heap.size + 1 + 1) 18 hB3 (by omega)
  simp only [World.setCells] at hk u4 hB4
  have hk2 := World.rangeAt_setCells_same _ (w.heap.size + 1) 0 (ints b) (by simpa [hb] using u4)
  have hB5 := below_cells (ints b) _ (w.heap.size + 1) 0 hB4 (by omega)
  have hld := loadVarB hk2 hb
  clear c3 u3 v3 e18 r3
  go_wp2_with (first | (refine wpList_store6 rfl _ _ rfl _ _ (pt b 12) rfl rfl qs3 p3 ?_) | (refine wpList_loadB rfl _ rfl _ rfl b hk hb ?_) | (refine wpList_storeB rfl _ _ rfl _ b rfl rfl u4 hb ?_))
  exact bodyPost_ret (v := aggI b) (res_cell Tryd.results51 rfl hld) rfl ⟨rfl, hB5⟩
end Go.Proofs.YtfflbbgipbnckaaDoor
