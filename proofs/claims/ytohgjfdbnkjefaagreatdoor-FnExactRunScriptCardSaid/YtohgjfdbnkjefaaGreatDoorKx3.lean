/- Texts of this claim, gathered: Bench2, ShownRow, Bench3, Cons, OpenC, Str, Rec, OpenL, Ck, Num. -/
import Derived.Test.YtohgjfdbnkjefaaGreatDoorKx2
import Derived.Deep.AppendLies
import Derived.Lib.SliceRun
import Derived.Test.YtohgjfdbnkjefaaGreatDoorSf
import Derived.Lib.IndexAny
import Derived.Lib.ItoaNum
import Derived.Deep.RegionHeld3
import Derived.Lib.ItoaLen
namespace Go.Proofs.YtohgjfdbnkjefaaGreatDoor
open Go.RowKit
set_option linter.unusedVariables false
set_option maxRecDepth 100000
theorem len6 {b : List Int} (h : b.length = 6) : ∃ x0 x1 x2 x3 x4 x5, b = [x0, x1, x2, x3, x4, x5] := by
 match b, h with
 | [x0, x1, x2, x3, x4, x5], _ => exact ⟨x0, x1, x2, x3, x4, x5, rfl⟩
theorem toIntA6_c (b : List Int) (w : World) (hb : b.length = 6) : Calls Tryz.prog 69 #[aggI b] w fun e w' => e = .returned (aggI b) ∧ Below w.heap.size w w' := by
 obtain ⟨x0, x1, x2, x3, x4, x5, rfl⟩ := len6 hb
 simp only [aggI, ints, List.map_cons, List.map_nil]
 go_enter Tryz.func69, Tryz.ntmps69
 go_wp2
 refine wp_loop_rounds 7 ?_
 rw [rounds_succ]
 go_wp2
 rw [rounds_succ]
 go_wp2
 rw [rounds_succ]
 go_wp2
 rw [rounds_succ]
 go_wp2
 rw [rounds_succ]
 go_wp2
 rw [rounds_succ]
 go_wp2
 rw [rounds_succ]
 go_wp2
 exact bodyPost_ret (v := .agg #[.int .i64 x0, .int .i64 x1, .int .i64 x2, .int .i64 x3, .int .i64 x4, .int .i64 x5]) (by simp [results, Tryz.results69, go_sem]) rfl ⟨rfl, by (repeat (first | exact Below.refl _ _ | exact (Below.refl _ _).drew | assumption | exact below_one _ | refine Below.chain ?_ (by assumption) | refine Below.drew ?_ | refine Below.alc ?_ _ | refine below_drewN ?_ | (refine Below.setCell ?_ ?_ _) | exact Nat.le_refl _ | (simp; done) | (simp; omega)))⟩
theorem eqIntA6_c (b : List Int) (w : World) (hb : b.length = 6) : Calls Tryz.prog 132 #[aggI b, aggI b] w fun e w' => e = .returned (.bool true) ∧ Below w.heap.size w w' := by
 obtain ⟨x0, x1, x2, x3, x4, x5, rfl⟩ := len6 hb
 simp only [aggI, ints, List.map_cons, List.map_nil]
 go_enter Tryz.func132, Tryz.ntmps132
 go_wp2
 refine wp_loop_rounds 7 ?_
 rw [rounds_succ]
 go_wp2
 go_quiet (fail)
 go_wp2
 rw [rounds_succ]
 go_wp2
 go_quiet (fail)
 go_wp2
 rw [rounds_succ]
 go_wp2
 go_quiet (fail)
 go_wp2
 rw [rounds_succ]
 go_wp2
 go_quiet (fail)
 go_wp2
 rw [rounds_succ]
 go_wp2
 go_quiet (fail)
 go_wp2
 rw [rounds_succ]
 go_wp2
 go_quiet (fail)
 go_wp2
 rw [rounds_succ]
 go_wp2
 go_ret
 exact ⟨rfl, by (repeat (first | exact Below.refl _ _ | exact (Below.refl _ _).drew | assumption | exact below_one _ | refine Below.chain ?_ (by assumption) | refine Below.drew ?_ | refine Below.alc ?_ _ | refine below_drewN ?_ | (refine Below.setCell ?_ ?_ _) | exact Nat.le_refl _ | (simp; done) | (simp; omega)))⟩
def pt (b : List Int) (o : Nat) : List Int := (b.drop o).take 6
theorem part6 {w : World} {g : Nat} {b : List Int} (h : w.rangeAt g 0 (ints b)) (o : Nat) : w.rangeAt g o (ints (pt b o)) := by
 have := range_sub h o 6
 rw [Nat.zero_add] at this
 simpa [ints, pt, List.map_take, List.map_drop] using this
theorem part6_len {b : List Int} (h : b.length = 19) {o : Nat} (ho : o ≤ 12) : (pt b o).length = 6 := by simp [pt, h]; omega
theorem cell18 {w : World} {g : Nat} {b : List Int} (h : w.rangeAt g 0 (ints b)) {j : Nat} (hj : j < b.length) : w.cell? ⟨g, j, none⟩ = some (.int .i64 (bg b j)) := by
 have := h j (.int .i64 (bg b j)) (by have := ints_get hj; simpa using this)
 rwa [Nat.zero_add] at this
theorem pt_join {b : List Int} (h : b.length = 19) : ints b = ((ints (pt b 0) ++ ints (pt b 6)) ++ ints (pt b 12)) ++ [.int .i64 (bg b 18)] := by
 have : b = ((pt b 0 ++ pt b 6) ++ pt b 12) ++ [bg b 18] := by
  match b, h with
  | [_, _, _, _, _, _, _, _, _, _, _, _, _, _, _, _, _, _, _], _ => rfl
 conv => lhs; rw [this]
 simp [ints]
theorem eqBench_c (b : List Int) (w : World) (hb : b.length = 19) : Calls Tryz.prog 74 #[aggI b, aggI b] w fun e w' => e = .returned (.bool true) ∧ Below w.heap.size w w' := by
 have r1 := World.rangeAt_alloc (range_new w (ints b) 26) (.cells (ints b).toArray 26)
 have r2 := range_new (w.alloc (.cells (ints b).toArray 26)) (ints b) 26
 have hb0 : Below w.heap.size w ((w.alloc (.cells (ints b).toArray 26)).alloc (.cells (ints b).toArray 26)) := by (repeat (first | exact Below.refl _ _ | exact (Below.refl _ _).drew | assumption | exact below_one _ | refine Below.chain ?_ (by assumption) | refine Below.drew ?_ | refine Below.alc ?_ _ | refine below_drewN ?_ | (refine Below.setCell ?_ ?_ _) | exact Nat.le_refl _ | (simp; done) | (simp; omega)))
 simp only [World.size_alloc] at r2
 unfold aggI
 go_enter Tryz.func74, Tryz.ntmps74
 go_wp2_with (first | (refine wpList_load6 rfl _ rfl _ _ rfl _ (part6 r1 0) (part6_len hb (by decide)) ?_) | (refine wpList_load6 rfl _ rfl _ _ rfl _ (part6 r2 0) (part6_len hb (by decide)) ?_))
 refine (eqIntA6_c _ _ (part6_len hb (by decide))).mono ?_
 rintro e w1 ⟨rfl, hb1⟩
 have r11 := range_below r1 hb1
 have r21 := range_below r2 hb1
 have hb2 := Below.chain hb0 hb1
 clear r1 r2 hb0 hb1
 go_wp2_with (first | (refine wpList_load6 rfl _ rfl _ _ rfl _ (part6 r11 6) (part6_len hb (by decide)) ?_) | (refine wpList_load6 rfl _ rfl _ _ rfl _ (part6 r21 6) (part6_len hb (by decide)) ?_))
 refine (eqIntA6_c _ _ (part6_len hb (by decide))).mono ?_
 rintro e w2 ⟨rfl, hb1⟩
 have r1 := range_below r11 hb1
 have r2 := range_below r21 hb1
 have hb0 := Below.chain hb2 hb1
 clear r11 r21 hb2 hb1
 go_wp2_with (first | (refine wpList_load6 rfl _ rfl _ _ rfl _ (part6 r1 12) (part6_len hb (by decide)) ?_) | (refine wpList_load6 rfl _ rfl _ _ rfl _ (part6 r2 12) (part6_len hb (by decide)) ?_))
 refine (eqIntA6_c _ _ (part6_len hb (by decide))).mono ?_
 rintro e w3 ⟨rfl, hb1⟩
 have g1 := cell18 (range_below r1 hb1) (j := 18) (by omega)
 have g2 := cell18 (range_below r2 hb1) (j := 18) (by omega)
 have hb2 := Below.chain hb0 hb1
 clear r1 r2 hb0 hb1
 have ht : (bg b 18 != bg b 18) = false := by simp
 go_wp2
 go_ret
 exact ⟨rfl, hb2⟩
def zB : Obj := .cells #[.int .i64 0, .int .i64 0, .int .i64 0, .int .i64 0, .int .i64 0, .int .i64 0, .int .i64 0, .int .i64 0, .int .i64 0, .int .i64 0, .int .i64 0, .int .i64 0, .int .i64 0, .int .i64 0, .int .i64 0, .int .i64 0, .int .i64 0, .int .i64 0, .int .i64 0] 26
set_option maxHeartbeats 1600000 in
theorem toBench_c (b : List Int) (w : World) (hb : b.length = 19) : Calls Tryz.prog 25 #[aggI b] w fun e w' => e = .returned (aggI b) ∧ Below w.heap.size w w' := by
 have r0 := World.rangeAt_alloc (World.rangeAt_alloc (range_new w (ints b) 51) zB) zB
 have t1 := World.there_alloc (there_new (w.alloc (.cells (ints b).toArray 51)) _ 26 (n := 19) (show 19 ≤ (#[.int .i64 0, .int .i64 0, .int .i64 0, .int .i64 0, .int .i64 0, .int .i64 0, .int .i64 0, .int .i64 0, .int .i64 0, .int .i64 0, .int .i64 0, .int .i64 0, .int .i64 0, .int .i64 0, .int .i64 0, .int .i64 0, .int .i64 0, .int .i64 0, .int .i64 0] : Array Value).size by decide)) zB
 have t2 := there_new ((w.alloc (.cells (ints b).toArray 51)).alloc zB) _ 26 (n := 19) (show 19 ≤ (#[.int .i64 0, .int .i64 0, .int .i64 0, .int .i64 0, .int .i64 0, .int .i64 0, .int .i64 0, .int .i64 0, .int .i64 0, .int .i64 0, .int .i64 0, .int .i64 0, .int .i64 0, .int .i64 0, .int .i64 0, .int .i64 0, .int .i64 0, .int .i64 0, .int .i64 0] : Array Value).size by decide)
 have hb0 : Below w.heap.size w (((w.alloc (.cells (ints b).toArray 51)).alloc zB).alloc zB) := by (repeat (first | exact Below.refl _ _ | exact (Below.refl _ _).drew | assumption | exact below_one _ | refine Below.chain ?_ (by assumption) | refine Below.drew ?_ | refine Below.alc ?_ _ | refine below_drewN ?_ | (refine Below.setCell ?_ ?_ _) | exact Nat.le_refl _ | (simp; done) | (simp; omega)))
 simp only [World.size_alloc] at t1 t2
 have p0 := part6 r0 0
 have p1 := part6_len hb (o := 0) (by decide)
 have p2 := part6_len hb (o := 6) (by decide)
 have p3 := part6_len hb (o := 12) (by decide)
 unfold aggI
 unfold zB at *
 go_enter Tryz.func25, Tryz.ntmps25
 go_wp2_with (refine wpList_load6 rfl _ rfl _ _ rfl _ p0 p1 ?_)
 refine (toIntA6_c _ _ p1).mono ?_
 rintro e w1 ⟨rfl, hb1⟩
 have q1 := there_below t1 hb1
 have q2 := there_below t2 hb1
 have hB1 := below_cells (ints (pt b 0)) _ (w.heap.size + 1 + 1) 0 (Below.chain hb0 hb1) (by omega)
 have r1 := World.rangeAt_setCells_apart (range_below r0 hb1) (w.heap.size + 1 + 1) 0 (ints (pt b 0)) (.inl (by omega))
 have u1 := World.there_setCells q1 (w.heap.size + 1 + 1) 0 (ints (pt b 0))
 have v1 := World.there_setCells q2 (w.heap.size + 1 + 1) 0 (ints (pt b 0))
 have c1 := World.rangeAt_setCells_same w1 (w.heap.size + 1 + 1) 0 (ints (pt b 0)) (there_sub q2 (by omega) (by simp [p1]))
 have qs := there_sub q2 (o' := 0) (n' := 6) (by omega) (by omega)
 have p6 := part6 r1 6
 clear r0 t1 t2 hb0 p0 hb1 q1 q2
 go_wp2_with (first | (refine wpList_store6 rfl _ _ rfl _ _ (pt b 0) rfl rfl qs p1 ?_) | (refine wpList_load6 rfl _ rfl _ _ rfl _ p6 p2 ?_))
 refine (toIntA6_c _ _ p2).mono ?_
 rintro e w2 ⟨rfl, hb2⟩
 have q1 := there_below u1 hb2
 have q2 := there_below v1 hb2
 have hB2 := below_cells (ints (pt b 6)) _ (w.heap.size + 1 + 1) 6 (Below.chain hB1 hb2) (by omega)
 have r2 := World.rangeAt_setCells_apart (range_below r1 hb2) (w.heap.size + 1 + 1) 6 (ints (pt b 6)) (.inl (by omega))
 have u2 := World.there_setCells q1 (w.heap.size + 1 + 1) 6 (ints (pt b 6))
 have v2 := World.there_setCells q2 (w.heap.size + 1 + 1) 6 (ints (pt b 6))
 have c2 := range_grow (range_below c1 hb2) (ys := ints (pt b 6)) (there_sub q2 (by simp [p1]) (by simp [p1, p2]))
 rw [show (ints (pt b 0)).length = 6 by simp [p1]] at c2
 have qs2 := there_sub q2 (o' := 6) (n' := 6) (by omega) (by omega)
 have p12 := part6 r2 12
 clear r1 u1 v1 c1 qs p6 hB1 hb2 q1 q2
 go_wp2_with (first | (refine wpList_store6 rfl _ _ rfl _ _ (pt b 6) rfl rfl qs2 p2 ?_) | (refine wpList_load6 rfl _ rfl _ _ rfl _ p12 p3 ?_))
 refine (toIntA6_c _ _ p3).mono ?_
 rintro e w3 ⟨rfl, hb3⟩
 have q1 := there_below u2 hb3
 have q2 := there_below v2 hb3
 have hB3 := below_cells (ints (pt b 12)) _ (w.heap.size + 1 + 1) 12 (Below.chain hB2 hb3) (by omega)
 have r3 := World.rangeAt_setCells_apart (range_below r2 hb3) (w.heap.size + 1 + 1) 12 (ints (pt b 12)) (.inl (by omega))
 have u3 := World.there_setCells q1 (w.heap.size + 1 + 1) 12 (ints (pt b 12))
 have v3 := World.there_setCells q2 (w.heap.size + 1 + 1) 12 (ints (pt b 12))
 have c3 := range_grow (range_below c2 hb3) (ys := ints (pt b 12)) (there_sub q2 (by simp [p1, p2]) (by simp [p1, p2, p3]))
 rw [show (ints (pt b 0) ++ ints (pt b 6)).length = 12 by simp [p1, p2]] at c3
 have qs3 := there_sub q2 (o' := 12) (n' := 6) (by omega) (by omega)
 have g18 := cell18 r3 (j := 18) (by omega)
 clear r2 u2 v2 c2 qs2 p12 hB2 hb3 q1 q2
 have hk := range_grow c3 (ys := [.int .i64 (bg b 18)]) (there_sub v3 (by simp [p1, p2, p3]) (by simp [p1, p2, p3]))
 rw [← pt_join hb, show ((ints (pt b 0) ++ ints (pt b 6)) ++ ints (pt b 12)).length = 18 by simp [p1, p2, p3]] at hk
 have e18 := v3 18 (by omega)
 obtain ⟨z18, hz18⟩ := Option.isSome_iff_exists.1 e18.1
 have f18 := e18.2
 rw [Nat.zero_add] at hz18 f18
 have u4 := World.there_setCells u3 (w.heap.size + 1 + 1) 18 [.int .i64 (bg b 18)]
 have hB4 := below_cells [.int .i64 (bg b 18)] _ (w.heap.size + 1 + 1) 18 hB3 (by omega)
 simp only [World.setCells] at hk u4 hB4
 have hk2 := World.rangeAt_setCells_same _ (w.heap.size + 1) 0 (ints b) (by simpa [hb] using u4)
 have hB5 := below_cells (ints b) _ (w.heap.size + 1) 0 hB4 (by omega)
 have hld := loadVarB hk2 hb
 clear c3 u3 v3 e18 r3
 go_wp2_with (first | (refine wpList_store6 rfl _ _ rfl _ _ (pt b 12) rfl rfl qs3 p3 ?_) | (refine wpList_loadB rfl _ rfl _ rfl b hk hb ?_) | (refine wpList_storeB rfl _ _ rfl _ b rfl rfl u4 hb ?_))
 exact bodyPost_ret (v := aggI b) (res_cell Tryz.results25 rfl hld) rfl ⟨rfl, hB5⟩
def IntsPost (w : World) (L : List Int) (b : Bool) (e : Ending) (w' : World) : Prop :=
 ∃ u, e = .returned (.tuple #[u, .bool b]) ∧ w'.ownsRow w.heap.size 3 1 u L.length (L.map (Value.int .i64)) ∧ Below w.heap.size w w'
theorem IntsPost.mk' {w w' : World} {L L' : List Int} {b b' : Bool} {u : Value} (hL : L = L') (hbb : b = b') (ho : w'.ownsRow w.heap.size 3 1 u L'.length (L'.map (Value.int .i64))) (hb : Below w.heap.size w w') : IntsPost w L b (.returned (.tuple #[u, .bool b'])) w' := by
 subst hL hbb; exact ⟨u, rfl, ho, hb⟩
def shAt (b : List Int) (k : Nat) : Int := shC (bF b k).1 (bF b k).2 (bg b k)
def shTo (b : List Int) (n : Nat) : List Int := (List.range n).map (shAt b)
theorem shTo_succ (b : List Int) (n : Nat) : shTo b (n + 1) = shTo b n ++ [shAt b n] := by unfold shTo; rw [List.range_succ, List.map_append]; rfl
theorem shTo_len (b : List Int) (n : Nat) : (shTo b n).length = n := by simp [shTo]
theorem take_succ_bg {b : List Int} {n : Nat} (h : n < b.length) : b.take (n + 1) = b.take n ++ [bg b n] := by
 rw [take_snoc (List.getElem?_eq_getElem h)]; simp [bg, h]
theorem goodB_at {b : List Int} (h : goodB b = true) {k : Nat} (hk : k < 6) : (0 ≤ (bF b k).1 ∧ (bF b k).1 ≤ 127 ∧ 0 ≤ (bF b k).2 ∧ (bF b k).2 ≤ 127) ∧ 0 ≤ bg b k ∧ bg b k ≤ 127 := by
 unfold goodB goodTo at h
 simp only [Bool.and_eq_true, List.all_eq_true, List.mem_range] at h
 have := h.1 k hk
 unfold goodAt fB at this
 simp only [Bool.and_eq_true] at this
 have h1 := faultB_true this.2
 exact ⟨⟨h1.1, h1.2.1, h1.2.2.1, h1.2.2.2.1⟩, cellB_true this.1⟩
theorem index6_0 (x0 x1 x2 x3 x4 x5 : Int) (w : World) : (Instr.index 24 (.agg #[.int .i64 x0, .int .i64 x1, .int .i64 x2, .int .i64 x3, .int .i64 x4, .int .i64 x5]) (.int .i64 0)).run Tryz.prog w = .ok (.int .i64 x0) w := by kernel_rfl
theorem index6_1 (x0 x1 x2 x3 x4 x5 : Int) (w : World) : (Instr.index 24 (.agg #[.int .i64 x0, .int .i64 x1, .int .i64 x2, .int .i64 x3, .int .i64 x4, .int .i64 x5]) (.int .i64 1)).run Tryz.prog w = .ok (.int .i64 x1) w := by kernel_rfl
theorem index6_2 (x0 x1 x2 x3 x4 x5 : Int) (w : World) : (Instr.index 24 (.agg #[.int .i64 x0, .int .i64 x1, .int .i64 x2, .int .i64 x3, .int .i64 x4, .int .i64 x5]) (.int .i64 2)).run Tryz.prog w = .ok (.int .i64 x2) w := by kernel_rfl
theorem index6_3 (x0 x1 x2 x3 x4 x5 : Int) (w : World) : (Instr.index 24 (.agg #[.int .i64 x0, .int .i64 x1, .int .i64 x2, .int .i64 x3, .int .i64 x4, .int .i64 x5]) (.int .i64 3)).run Tryz.prog w = .ok (.int .i64 x3) w := by kernel_rfl
theorem index6_4 (x0 x1 x2 x3 x4 x5 : Int) (w : World) : (Instr.index 24 (.agg #[.int .i64 x0, .int .i64 x1, .int .i64 x2, .int .i64 x3, .int .i64 x4, .int .i64 x5]) (.int .i64 4)).run Tryz.prog w = .ok (.int .i64 x4) w := by kernel_rfl
theorem index6_5 (x0 x1 x2 x3 x4 x5 : Int) (w : World) : (Instr.index 24 (.agg #[.int .i64 x0, .int .i64 x1, .int .i64 x2, .int .i64 x3, .int .i64 x4, .int .i64 x5]) (.int .i64 5)).run Tryz.prog w = .ok (.int .i64 x5) w := by kernel_rfl
theorem index6 {b : List Int} (hb : b.length = 6) {k : Nat} (hk : k < 6) (w : World) : (Instr.index 24 (.agg (ints b).toArray) (.int .i64 (k : Int))).run Tryz.prog w = .ok (.int .i64 (bg b k)) w := by
 obtain ⟨x0, x1, x2, x3, x4, x5, rfl⟩ := len6 hb
 have h : k = 0 ∨ k = 1 ∨ k = 2 ∨ k = 3 ∨ k = 4 ∨ k = 5 := by omega
 rcases h with rfl | rfl | rfl | rfl | rfl | rfl
 · exact index6_0 x0 x1 x2 x3 x4 x5 w
 · exact index6_1 x0 x1 x2 x3 x4 x5 w
 · exact index6_2 x0 x1 x2 x3 x4 x5 w
 · exact index6_3 x0 x1 x2 x3 x4 x5 w
 · exact index6_4 x0 x1 x2 x3 x4 x5 w
 · exact index6_5 x0 x1 x2 x3 x4 x5 w
theorem bg_pt {b : List Int} (h : b.length = 19) {k : Nat} (hk : k < 6) : bg (pt b 0) k = bg b k := by
 unfold bg pt; simp [hk]
theorem shown_b_c (b : List Int) (w : World) (hb : b.length = 19) (hg : goodB b = true) :
 Calls Tryz.prog 56 #[aggI b] w fun e w' => ∃ u, e = .returned u ∧ w'.ownsRow w.heap.size 3 1 u (shTo b 6).length (ints (shTo b 6)) ∧ Below w.heap.size w w' := by
 unfold aggI
 obtain ⟨i, hi, hz0, hz1, hz2⟩ := info_parts info_int
 have HW : Hid (∀ wr, Below (w.alloc (.cells (ints b).toArray 26)).heap.size (w.alloc (.cells (ints b).toArray 26)) wr → Below w.heap.size w wr) := fun wr h => Below.chain (below_one _) h
 have r0 := range_new w (ints b) 26
 have p1 := part6_len hb (o := 0) (by decide)
 go_enter Tryz.func56, Tryz.ntmps56
 go_wp2_with (refine wpList_load6 rfl _ rfl _ _ rfl _ (part6 r0 0) p1 ?_)
 generalize hwb : w.alloc (.cells (ints b).toArray 26) = wb at *
 have hwz : w.heap.size + 1 = wb.heap.size := by rw [← hwb]; simp
 go_loopw [3, 8] (fun o j wr => ∃ k : Nat, k ≤ 6 ∧ j = .int .i64 (k : Int) ∧ wr.ownsRow wb.heap.size 3 1 o k (ints (shTo b k)) ∧ Below wb.heap.size wb wr) (fun _ j _ => 7 - (intOf j).toNat)
 case atStart => exact ⟨0, by omega, rfl, World.ownsRow_nil _ _ _ _, Below.refl _ _⟩
 case round =>
  obtain ⟨k, hk, rfl, ho, hbw⟩ := hrel
  by_cases hlt : k < 6
  · have hd : decide ((k : Int) < 6) = true := by simp; omega
    have hr : wr.rangeAt w.heap.size 0 (ints b) := range_below r0 hbw
    have hix := fun w => index6 p1 hlt w
    have HP := Lib.hid (bg_pt hb hlt)
    have HS := Lib.hid (shTo_succ b k)
    have bd := goodB_at hg hlt
    go_wp2_with (refine wpList_loadB rfl _ rfl _ rfl b hr hb ?_)
    refine (bfault_c b k _ hb hlt).mono ?_
    rintro e w3 ⟨rfl, hb3⟩
    have hb4 := Below.chain hbw hb3
    have ho4 := own_keep ho hb3
    clear hb3 hbw hr ho
    rw [HP.out]
    go_wp2_with fail
    refine (shown_c (bF b k).1 (bF b k).2 (bg b k) bd.1.1 bd.1.2.1 bd.1.2.2.1 bd.1.2.2.2 bd.2.1 bd.2.2 _).mono ?_
    rintro e w4 ⟨rfl, hb5⟩
    have hb6 := Below.chain hb4 hb5
    have ho6 := own_keep ho4 hb5
    clear hb4 hb5 ho4
    have hX : shC (bF b k).1 (bF b k).2 (bg b k) = shAt b k := rfl
    rw [hX]
    clear hX
    generalize shAt b k = X at *
    go_wp2_with (at_builtin; refine wpList_append_own_at _ rfl _ _ 37 rfl wb.heap.size 3 i (.int .i64 0) 1 8 Tryz.underlying37 hi hz0 hz1 hz2 rfl (by decide) _ k (ints (shTo b k)) rfl (ho6.alloc _) ⟨w4.heap.size, 0, none⟩ 1 1 [.int .i64 X] rfl rfl (news_new _ [.int .i64 X] _) (by simp [Value.oneCell']) (by unfold maxLen; omega) (by omega) (by have := hb6.size; simp; omega) ?_)
    intro v' w5 ho5 hg5 _ _
    have hb7 : Below wb.heap.size wb w5 := (Below.alc hb6 _).grown hg5 (by have := hb6.size; simp; omega) (fun g hg => (ho6.lt g hg).1)
    clear ho6 hb6 hg5
    go_wp2
    go_roundw
    case rel => exact ⟨k + 1, by omega, by go_num, by rw [HS.out]; exact ownsRow_cast ho5 rfl (by simp), hb7⟩
    case measure => simp [intOf]; omega
  · obtain rfl : k = 6 := by omega
    go_wp2
    go_ret
    exact ⟨_, rfl, own_lo (ownsRow_cast ho (shTo_len b 6).symm rfl) (by omega), HW.out _ hbw⟩
theorem ints_cells {w : World} {ad : Addr} {n c : Nat} {xs : List Int} (h : Ints w (.slice (some ad) n c) xs) : ∀ j u, (ints xs)[j]? = some u → w.cell? (ad.add j) = some u := by
 intro j u hu
 obtain ⟨a, c', e, _, _, HC⟩ := h.parts
 simp only [ints, List.getElem?_map, Option.map_eq_some_iff] at hu
 obtain ⟨x, hx, rfl⟩ := hu
 obtain ⟨b, off, e2, hc⟩ := HC.out j x hx
 injection e with e1 e3 e4
 rw [e2] at e1
 injection e1 with e5
 subst e5
 rw [Addr.add_lit]; exact hc
theorem Clone_c (v : Value) (xs : List Int) (w : World) (hv : Ints w v xs) (hn : xs.length ≤ 1048576) :
 Calls Tryz.prog 57 #[v] w fun e w' => ∃ u, e = .returned u ∧ w'.ownsRow w.heap.size 3 1 u xs.length (ints xs) ∧ Below w.heap.size w w' := by
 obtain ⟨i, hi, hz0, hz1, hz2⟩ := info_parts info_int
 have hv0 := hv
 obtain ⟨a, c, rfl, _, _, _⟩ := hv.parts
 cases a with
 | none =>
  have hx : xs = [] := by
   obtain ⟨a', c', e, _, _, HC⟩ := hv0.parts
   cases xs with
   | nil => rfl
   | cons x t =>
    obtain ⟨b, off, e2, _⟩ := HC.out 0 x rfl
    injection e with e1
    rw [e2] at e1; cases e1
  subst hx
  have hnil := fun (w : World) => Lib.run_eql_slice_nil (P := Tryz.prog) w 37 3 none 0 c 0 0 Tryz.underlying37
  simp only [List.length_nil, List.map_nil]
  go_enter Tryz.func57, Tryz.ntmps57
  go_wp2
  go_ret
  exact ⟨_, rfl, World.ownsRow_nil _ _ _ _, by (repeat (first | exact Below.refl _ _ | exact (Below.refl _ _).drew | assumption | exact below_one _ | refine Below.chain ?_ (by assumption) | refine Below.drew ?_ | refine Below.alc ?_ _ | refine below_drewN ?_ | (refine Below.setCell ?_ ?_ _) | exact Nat.le_refl _ | (simp; done) | (simp; omega)))⟩
 | some ad =>
  have hc := ints_cells (hv.below (below_one (.cells #[] 3)))
  have ho0 := World.ownsRow_lit (e := 3) (size := 1) (base := w.heap.size) w #[] 0 (Nat.le_refl _) (by decide) rfl
  have HC := Lib.hid hc
  clear hc hv hv0
  have hnil := fun (w : World) => Lib.run_eql_slice_nil (P := Tryz.prog) w 37 3 (some ad) xs.length c 0 0 Tryz.underlying37
  go_enter Tryz.func57, Tryz.ntmps57
  go_wp2_with (at_builtin; refine wpList_append_own_at _ rfl _ _ 37 rfl w.heap.size 3 i (.int .i64 0) 1 8 Tryz.underlying37 hi hz0 hz1 hz2 rfl (by decide) _ 0 [] rfl ho0 ad xs.length c (ints xs) rfl (by simp) HC.out ints_one (by unfold maxLen; omega) (by omega) (by simp) ?_)
  intro v' w1 ho1 hg1 _ _
  have hb1 : Below w.heap.size w w1 := (below_one _).grown hg1 (by simp) (fun g hg => (ho0.lt g hg).1)
  go_wp2
  go_ret
  exact ⟨_, rfl, ownsRow_cast ho1 (by simp) (by simp), hb1⟩
def rowOf (b : List Int) (s : Bool) (n : Nat) : List Int := if s then shTo b n else b.take n
theorem rowOf_len {b : List Int} (hb : b.length = 19) (s : Bool) {n : Nat} (h : n ≤ 6) : (rowOf b s n).length = n := by
 unfold rowOf; split
 · exact shTo_len _ _
 · rw [List.length_take]; omega
theorem rowOf_succ {b : List Int} (hb : b.length = 19) (s : Bool) {n : Nat} (h : n < 6) : rowOf b s (n + 1) = rowOf b s n ++ [if s then shAt b n else bg b n] := by
 unfold rowOf; split
 · exact shTo_succ _ _
 · exact take_succ_bg (by omega)
theorem range_grown {w w' : World} {g o : Nat} {cs : List Value} {r : Option Nat} (h : w.rangeAt g o cs) (hg : w.grownBy w' r) (hr : some g ≠ r) : w'.rangeAt g o cs := fun j v hv =>
 hg.cell (h j v hv) hr
theorem l12Row_c (b : List Int) (s : Bool) (w : World) (hb : b.length = 19) (hg : goodB b = true) :
 Calls Tryz.prog 172 #[aggI b, .bool s] w fun e w' => ∃ u, e = .returned u ∧ w'.ownsRow w.heap.size 3 1 u (rowOf b s 6).length (ints (rowOf b s 6)) ∧ Below w.heap.size w w' := by
 unfold aggI
 obtain ⟨i, hi, hz0, hz1, hz2⟩ := info_parts info_int
 have r0 := World.rangeAt_alloc (range_new w (ints b) 26) (.cells #[] 3)
 have ho0 := World.ownsRow_lit (e := 3) (size := 1) (base := w.heap.size + 1) (w.alloc (.cells (ints b).toArray 26)) #[] 0 (by simp) (by decide) rfl
 have hb0 : Below w.heap.size w ((w.alloc (.cells (ints b).toArray 26)).alloc (.cells #[] 3)) := by (repeat (first | exact Below.refl _ _ | exact (Below.refl _ _).drew | assumption | exact below_one _ | refine Below.chain ?_ (by assumption) | refine Below.drew ?_ | refine Below.alc ?_ _ | refine below_drewN ?_ | (refine Below.setCell ?_ ?_ _) | exact Nat.le_refl _ | (simp; done) | (simp; omega)))
 have hw0 : w.heap.size + 1 ≤ ((w.alloc (.cells (ints b).toArray 26)).alloc (.cells #[] 3)).heap.size := by simp
 have HL := Lib.hid (fun n h => rowOf_len hb s (n := n) h)
 go_enter Tryz.func172, Tryz.ntmps172
 go_wp2
 generalize (w.alloc (.cells (ints b).toArray 26)).alloc (.cells #[] 3) = wb at *
 simp only [World.size_alloc] at ho0
 go_loopw [5, 6] (fun o j wr => ∃ k : Nat, k ≤ 6 ∧ j = .int .i64 (k : Int) ∧ wr.ownsRow (w.heap.size + 1) 3 1 o k (ints (rowOf b s k)) ∧ Below w.heap.size w wr ∧ wr.rangeAt w.heap.size 0 (ints b) ∧ w.heap.size + 1 ≤ wr.heap.size) (fun _ j _ => 7 - (intOf j).toNat)
 case atStart => exact ⟨0, by omega, rfl, ownsRow_cast ho0 rfl (by cases s <;> simp [rowOf, shTo]), hb0, r0, hw0⟩
 case round =>
  obtain ⟨k, hk, rfl, ho, hbw, hr, hsz⟩ := hrel
  clear ho0 hb0 r0 hw0
  by_cases hlt : k < 6
  · have hd : decide ((k : Int) < 6) = true := by simp; omega
    have g0 := cell18 hr (j := k) (by omega)
    have HS := Lib.hid (rowOf_succ hb s hlt)
    have bd := goodB_at hg hlt
    cases s with
    | false =>
     have HS2 := Lib.hid (show rowOf b false (k + 1) = rowOf b false k ++ [bg b k] from HS.out)
     clear HS
     generalize bg b k = X at *
     go_wp2_with (at_builtin; refine wpList_append_own_at _ rfl _ _ 37 rfl (w.heap.size + 1) 3 i (.int .i64 0) 1 8 Tryz.underlying37 hi hz0 hz1 hz2 rfl (by decide) _ k (ints (rowOf b false k)) rfl (ho.alloc _) ⟨wr.heap.size, 0, none⟩ 1 1 [.int .i64 X] rfl rfl (news_new _ [.int .i64 X] _) (by simp [Value.oneCell']) (by unfold maxLen; omega) (by omega) (by simp; omega) ?_)
     intro v' w5 ho5 hg5 _ hat
     have hb7 : Below w.heap.size w w5 := (Below.alc hbw _).grown hg5 (by simp; omega) (fun g hg => by have := (ho.lt g hg).1; omega)
     have hr7 := range_grown (World.rangeAt_alloc hr _) hg5 (fun e => by have := (ho.lt _ e.symm).1; omega)
     have hsz7 : w.heap.size + 1 ≤ w5.heap.size := Nat.le_trans (by simp; omega) hg5.size
     clear ho hbw hr hg5 g0
     go_wp2
     go_roundw
     case rel => exact ⟨k + 1, by omega, by go_num, by rw [HS2.out]; exact ownsRow_cast ho5 rfl (by simp), hb7, hr7, hsz7⟩
     case measure => simp [intOf]; omega
    | true =>
     have HS2 := Lib.hid (show rowOf b true (k + 1) = rowOf b true k ++ [shAt b k] from HS.out)
     clear HS
     go_wp2_with (refine wpList_loadB rfl _ rfl _ rfl b hr hb ?_)
     refine (l12Fault_c b k _ hb hlt).mono ?_
     rintro e w3 ⟨rfl, hb3⟩
     have hb4 := Below.chain hbw hb3
     have ho4 := own_keep ho hb3
     have hr4 := range_below hr hb3
     have hsz4 := Nat.le_trans hsz hb3.size
     clear hb3 hbw hr ho g0
     go_wp2_with fail
     refine (l3Shown_c (bF b k).1 (bF b k).2 (bg b k) bd.1.1 bd.1.2.1 bd.1.2.2.1 bd.1.2.2.2 bd.2.1 bd.2.2 _).mono ?_
     rintro e w4 ⟨rfl, hb5⟩
     have hb6 := Below.chain hb4 hb5
     have ho6 := own_keep ho4 hb5
     have hr6 := range_below hr4 hb5
     have hsz6 := Nat.le_trans hsz4 hb5.size
     clear hb4 hb5 ho4 hr4
     have hX : shC (bF b k).1 (bF b k).2 (bg b k) = shAt b k := rfl
     rw [hX]
     clear hX
     generalize shAt b k = X at *
     go_wp2_with (at_builtin; refine wpList_append_own_at _ rfl _ _ 37 rfl (w.heap.size + 1) 3 i (.int .i64 0) 1 8 Tryz.underlying37 hi hz0 hz1 hz2 rfl (by decide) _ k (ints (rowOf b true k)) rfl (ho6.alloc _) ⟨w4.heap.size, 0, none⟩ 1 1 [.int .i64 X] rfl rfl (news_new _ [.int .i64 X] _) (by simp [Value.oneCell']) (by unfold maxLen; omega) (by omega) (by simp; omega) ?_)
     intro v' w5 ho5 hg5 _ hat
     have hb7 : Below w.heap.size w w5 := (Below.alc hb6 _).grown hg5 (by simp; omega) (fun g hg => by have := (ho6.lt g hg).1; omega)
     have hr7 := range_grown (World.rangeAt_alloc hr6 _) hg5 (fun e => by have := (ho6.lt _ e.symm).1; omega)
     have hsz7 : w.heap.size + 1 ≤ w5.heap.size := Nat.le_trans (by simp; omega) hg5.size
     clear ho6 hb6 hr6 hg5
     go_wp2
     go_roundw
     case rel => exact ⟨k + 1, by omega, by go_num, by rw [HS2.out]; exact ownsRow_cast ho5 rfl (by simp), hb7, hr7, hsz7⟩
     case measure => simp [intOf]; omega
  · obtain rfl : k = 6 := by omega
    go_wp2
    go_ret
    exact ⟨_, rfl, own_lo (ownsRow_cast ho (HL.out 6 (by omega)).symm rfl) (by omega), hbw⟩
def lgC (d p : ByteArray) (n : Int) : List Value := [.string d, .string p, .int .i64 n]
def csC (b : List Int) (d p : ByteArray) (n : Int) : List Value := ints b ++ lgC d p n
theorem csC_len {b : List Int} (hb : b.length = 19) (d p : ByteArray) (n : Int) : (csC b d p n).length = 22 := by simp [csC, lgC, hb]
theorem csC_one {b : List Int} {d p : ByteArray} {n : Int} : ∀ v ∈ csC b d p n, v.oneCell' = true := fun v hv => by
 unfold csC at hv
 rw [List.mem_append] at hv
 rcases hv with h | h
 · exact ints_one v h
 · simp only [lgC, List.mem_cons, List.not_mem_nil, or_false] at h
   rcases h with rfl | rfl | rfl <;> rfl
theorem wpList_storeC {ops : Array Oper} {rest : List Oper} {op : Oper} {a : Act} {w : World} {Q : Exit → Act → World → Prop} (hw : Region.wanted op (yielded ops a.tmps) = true) (x y : Operand) (ho : op.op = .store 31 x y)
 (g : Nat) (b : List Int) (d p : ByteArray) (n : Int) (hx : a.eval x = .pointer (some ⟨g, 0, none⟩)) (hy : a.eval y = .agg (csC b d p n).toArray) (ht : w.there g 0 22) (hb : b.length = 19)
 (h : wpList Tryz.prog ops Q rest (a.put op.dst undef) (w.setCells g 0 (csC b d p n))) : wpList Tryz.prog ops Q (op :: rest) a w :=
 wpList_store_want hw _ x y ho g 0 _ hx hy (by rw [csC_len hb]; exact ht) (by rw [csC_len hb]; kernel_rfl) csC_one h
theorem wpList_loadC {ops : Array Oper} {rest : List Oper} {op : Oper} {a : Act} {w : World} {Q : Exit → Act → World → Prop} (hw : Region.wanted op (yielded ops a.tmps) = true) (x : Operand) (ho : op.op = .load 31 x)
 (g : Nat) (hx : a.eval x = .pointer (some ⟨g, 0, none⟩)) (b : List Int) (d p : ByteArray) (n : Int) (hc : w.rangeAt g 0 (csC b d p n)) (hb : b.length = 19)
 (h : wpList Tryz.prog ops Q rest (a.put op.dst (.agg (csC b d p n).toArray)) w) : wpList Tryz.prog ops Q (op :: rest) a w :=
 wpList_load_want hw _ x ho g 0 hx _ _ hc Tryz.underlying31 rfl (by rw [csC_len hb]; kernel_rfl) h
theorem loadVarC {w : World} {g : Nat} {b : List Int} {d p : ByteArray} {n : Int} (h : w.rangeAt g 0 (csC b d p n)) (hb : b.length = 19) : (loadVar 31 ⟨g, 0, none⟩).run Tryz.prog w = .ok (.agg (csC b d p n).toArray) w :=
 run_loadVar_mid w g 0 _ _ _ h Tryz.underlying31 rfl (by rw [csC_len hb]; kernel_rfl)
def zeroI : List Int := List.replicate 19 0
def zCA : Array Value := #[.int .i64 0, .int .i64 0, .int .i64 0, .int .i64 0, .int .i64 0, .int .i64 0, .int .i64 0, .int .i64 0, .int .i64 0, .int .i64 0, .int .i64 0, .int .i64 0, .int .i64 0, .int .i64 0, .int .i64 0, .int .i64 0, .int .i64 0, .int .i64 0, .int .i64 0, .string (ByteArray.mk #[]), .string (ByteArray.mk #[]), .int .i64 0]
theorem build_cons_x (x0 x1 x2 x3 x4 x5 x6 x7 x8 x9 x10 x11 x12 x13 x14 x15 x16 x17 x18 : Int) : List.foldl (fun (cs : Array Value) (x : Value × Nat) => cs.setIfInBounds x.snd x.fst) zCA (ints [x0, x1, x2, x3, x4, x5, x6, x7, x8, x9, x10, x11, x12, x13, x14, x15, x16, x17, x18]).zipIdx = (csC [x0, x1, x2, x3, x4, x5, x6, x7, x8, x9, x10, x11, x12, x13, x14, x15, x16, x17, x18] ByteArray.empty ByteArray.empty 0).toArray := by kernel_rfl
theorem build_cons {b : List Int} (hb : b.length = 19) : List.foldl (fun (cs : Array Value) (x : Value × Nat) => cs.setIfInBounds x.snd x.fst) zCA (ints b).zipIdx = (csC b ByteArray.empty ByteArray.empty 0).toArray := by
 match b, hb with
 | [x0, x1, x2, x3, x4, x5, x6, x7, x8, x9, x10, x11, x12, x13, x14, x15, x16, x17, x18], _ => exact build_cons_x x0 x1 x2 x3 x4 x5 x6 x7 x8 x9 x10 x11 x12 x13 x14 x15 x16 x17 x18
end Go.Proofs.YtohgjfdbnkjefaaGreatDoor
namespace Go.Proofs.YtohgjfdbnkjefaaGreatDoor
open Go.ChangeShapes Go.WideShapes Go.ChangeAt Go.RowKit Go.Joins Go.Deep
set_option linter.unusedVariables false
set_option maxRecDepth 100000
section
variable {H : Type} {enc : TypeId × Value → H} {w : World} {base : Nat} {spare : Nat → Bool} {held : Bool}
theorem log_cells {t : TypeId} {f0 f1 f2 : Field} {fuel : Nat} {cs : List Value} {x : DataW H × List MemPlace} (hs : Tryz.prog.underlying t = some (.struct #[f0, f1, f2]))
 (t0 : f0.type = 9 ∧ f0.offset = 0) (t1 : f1.type = 9 ∧ f1.offset = 1) (t2 : f2.type = 3 ∧ f2.offset = 2) (hC : Tryz.prog.cellsOf t = 3)
 (h : DataW.trod enc Tryz.prog w base spare held fuel t cs = some x) : ∃ d p n, cs = lgC d p n ∧ d.size ≤ 9223372036854775807 ∧ p.size ≤ 9223372036854775807 := by
 obtain ⟨y0, y1, y2, n, _, hl, h0, h1, h2⟩ := trod_struct3 hs h
 have c9 : Tryz.prog.cellsOf 9 = 1 := by kernel_rfl
 have c1 : Tryz.prog.cellsOf 3 = 1 := by kernel_rfl
 rw [t0.1, t0.2, c9] at h0
 rw [t1.1, t1.2, c9] at h1
 rw [t2.1, t2.2, c1] at h2
 obtain ⟨a, ha, _, ha2⟩ := DataW.trod_string Tryz.underlying9 h0
 obtain ⟨b, hb, _, hb2⟩ := DataW.trod_string Tryz.underlying9 h1
 obtain ⟨k, hk, _, _⟩ := DataW.trod_int Tryz.underlying3 h2
 have g0 := take_one ha
 have g1 := take_one hb
 have g2 := take_one hk
 rw [hC] at hl
 unfold maxLen at ha2 hb2
 refine ⟨a, b, k, ?_, by omega, by omega⟩
 match cs, hl with
 | [x0, x1, x2], _ =>
  simp at g0 g1 g2
  rw [g0, g1, g2]; rfl
theorem open_Console {r : Reach} {b0 : Nat} {v : Value} {d : DataW H} {p : List MemPlace} (hv : Value.okWide Tryz.prog w r b0 59 v) (h : DataW.Trod enc Tryz.prog w base spare held 59 v d p) :
 ∃ (b : List Int) (d p : ByteArray) (n : Int), v = .agg (csC b d p n).toArray ∧ b.length = 19 ∧ d.size ≤ 9223372036854775807 ∧ p.size ≤ 9223372036854775807 := by
 obtain ⟨cs, rfl, _⟩ := okWide_struct Tryz.underlying59 hv
 obtain ⟨fuel, hf⟩ := h
 obtain ⟨y0, y1, n, _, hl, h0, h1⟩ := trod_struct2 Tryz.underlying59 hf
 have c0 : Tryz.prog.cellsOf 51 = 19 := by kernel_rfl
 have c1 : Tryz.prog.cellsOf 52 = 3 := by kernel_rfl
 have cC : Tryz.prog.cellsOf 59 = 22 := by kernel_rfl
 rw [cC] at hl
 have hl2 : cs.toList.length = 22 := by have h : cs.size = 22 := hl; simpa using h
 obtain ⟨b, hb1, hb2⟩ := bench_cells Tryz.underlying51 ⟨rfl, rfl⟩ ⟨rfl, rfl⟩ ⟨rfl, rfl⟩ ⟨rfl, rfl⟩ c0 h0
 obtain ⟨dd, pp, k, hl1, hd, hp⟩ := log_cells Tryz.underlying52 ⟨rfl, rfl⟩ ⟨rfl, rfl⟩ ⟨rfl, rfl⟩ c1 h1
 refine ⟨b, dd, pp, k, ?_, hb2, hd, hp⟩
 have e0 : (cs.toList.drop 0).take 19 = ints b := by rw [← hb1]; show _ = List.take (Tryz.prog.cellsOf 51) _; rw [c0]; rfl
 have e1 : (cs.toList.drop 19).take 3 = lgC dd pp k := by rw [← hl1]; show _ = List.take (Tryz.prog.cellsOf 52) _; rw [c1]; rfl
 have e2 : cs.toList = csC b dd pp k := by
  unfold csC
  rw [← e0, ← e1, List.drop_zero, List.take_of_length_le (l := cs.toList.drop 19) (by rw [List.length_drop]; omega), List.take_append_drop]
 rw [← e2]
end
end Go.Proofs.YtohgjfdbnkjefaaGreatDoor
namespace Go.Proofs.YtohgjfdbnkjefaaGreatDoor
open Go.RowKit
set_option linter.unusedVariables false
set_option maxRecDepth 100000
def prB (c : UInt8) : Bool := inB (c.toNat : Int) 32 126 && !(c.toNat == 35)
def printB (s : ByteArray) : Bool := s.data.toList.all prB
theorem printB_bad {s : ByteArray} {k : Nat} (hk : k < s.size) (h : prB s[k] = false) : printB s = false := by
 unfold printB
 rw [Bool.eq_false_iff]; intro h2
 rw [List.all_eq_true] at h2
 have := h2 s[k] (by
  have : s.data.toList[k]? = some s[k] := by simp [hk]; rfl
  exact List.mem_of_getElem? this)
 rw [this] at h; cases h
theorem printB_ok {s : ByteArray} (h : ∀ j (hj : j < s.size), prB s[j] = true) : printB s = true := by
 unfold printB
 rw [List.all_eq_true]
 intro c hc
 obtain ⟨j, hj, rfl⟩ := List.getElem_of_mem hc
 exact h j (by simpa using hj)
theorem byte_lt (c : UInt8) : c.toNat < 256 := c.toNat_lt
theorem isPrinted_c (s : ByteArray) (w : World) (hs : s.size ≤ 1073741824) : Calls Tryz.prog 99 #[.string s] w fun e w' => e = .returned (.bool (printB s)) ∧ w = w' := by
 go_enter Tryz.func99, Tryz.ntmps99
 go_wp2
 go_loopw [6] (fun j wr => ∃ k : Nat, k ≤ s.size ∧ j = .int .i64 (k : Int) ∧ Hid (∀ j (hj : j < s.size), j < k → prB s[j] = true) ∧ w = wr) (fun j _ => s.size - (intOf j).toNat)
 case atStart => exact ⟨0, by omega, rfl, fun j hj h => by omega, rfl⟩
 case round =>
  obtain ⟨k, hk, rfl, hbef, rfl⟩ := hrel
  by_cases hlt : k < s.size
  · have hd : decide ((k : Int) < (s.size : Int)) = true := by simp; omega
    have hbl := byte_lt s[k]
    have hw : wrap64 ((s[k].toNat : Nat) : Int) = ((s[k].toNat : Nat) : Int) := by simp only [wrap64]; omega
    have hpr : prB s[k] = (inB (s[k].toNat : Int) 32 126 && !(s[k].toNat == 35)) := rfl
    have HB := Lib.hid (fun h => printB_bad (s := s) hlt h)
    have HE : Hid (prB s[k] = true → ∀ j (hj : j < s.size), j < k + 1 → prB s[j] = true) := fun h j hj hjk => by
     by_cases hj2 : j < k
     · exact hbef.out j hj hj2
     · obtain rfl : j = k := by omega
       exact h
    clear hbef
    generalize hc : s[k] = c at *
    generalize hn : c.toNat = n at *
    go_wp2_with fail
    refine (within_c _ _ _ _).mono ?_
    rintro e w2 ⟨rfl, rfl⟩
    rcases hq : inB (n : Int) 32 126 with _ | _
    · have HF := Lib.hid (HB.out (by rw [hpr, hq]; rfl))
      clear HB HE hpr
      go_wp2
      go_ret
      exact ⟨by rw [HF.out]; rfl, rfl⟩
    · rcases hq2 : n == 35 with _ | _
      · have HF := Lib.hid (HE.out (by rw [hpr, hq, hq2]; rfl))
        have h35 : ((n : Int) == 35) = false := by simp at hq2 ⊢; omega
        clear HB HE hpr
        go_wp2
        go_roundw
        case rel => exact ⟨k + 1, by omega, by go_num, HF.out, by trivial⟩
        case measure => simp [intOf]; omega
      · have HF := Lib.hid (HB.out (by rw [hpr, hq, hq2]; rfl))
        have h35 : ((n : Int) == 35) = true := by simp at hq2 ⊢; omega
        clear HB HE hpr
        go_wp2
        go_ret
        exact ⟨by rw [HF.out]; rfl, rfl⟩
  · obtain rfl : k = s.size := by omega
    go_wp2
    go_ret
    exact ⟨bool_ret (printB_ok fun j hj => hbef.out j hj hj).symm, rfl⟩
theorem l12Bytes_c (s : ByteArray) (m : Int) (w : World) (hs : s.size ≤ 1073741824) : Calls Tryz.prog 124 #[.string s, .int .i64 m] w fun e w' => e = .returned (.bool (printB s && decide ((s.size : Int) ≤ m))) ∧ w = w' := by
 go_enter Tryz.func124, Tryz.ntmps124
 go_wp2
 go_loopw [5] (fun j wr => ∃ k : Nat, k ≤ s.size ∧ j = .int .i64 (k : Int) ∧ Hid (∀ j (hj : j < s.size), j < k → prB s[j] = true) ∧ w = wr) (fun j _ => s.size - (intOf j).toNat)
 case atStart => exact ⟨0, by omega, rfl, fun j hj h => by omega, rfl⟩
 case round =>
  obtain ⟨k, hk, rfl, hbef, rfl⟩ := hrel
  by_cases hlt : k < s.size
  · have hd : decide ((k : Int) < (s.size : Int)) = true := by simp; omega
    have hbl := byte_lt s[k]
    have hw : wrap64 ((s[k].toNat : Nat) : Int) = ((s[k].toNat : Nat) : Int) := by simp only [wrap64]; omega
    have hpr : prB s[k] = (inB (s[k].toNat : Int) 32 126 && !(s[k].toNat == 35)) := rfl
    have HB := Lib.hid (fun h => printB_bad (s := s) hlt h)
    have HE : Hid (prB s[k] = true → ∀ j (hj : j < s.size), j < k + 1 → prB s[j] = true) := fun h j hj hjk => by
     by_cases hj2 : j < k
     · exact hbef.out j hj hj2
     · obtain rfl : j = k := by omega
       exact h
    clear hbef
    generalize hc : s[k] = c at *
    generalize hn : c.toNat = n at *
    go_wp2_with fail
    refine (l1In_c _ _ _ _).mono ?_
    rintro e w2 ⟨rfl, rfl⟩
    rcases hq : inB (n : Int) 32 126 with _ | _
    · have HF := Lib.hid (HB.out (by rw [hpr, hq]; rfl))
      clear HB HE hpr
      go_wp2
      go_ret
      exact ⟨by rw [HF.out]; rfl, rfl⟩
    · rcases hq2 : n == 35 with _ | _
      · have HF := Lib.hid (HE.out (by rw [hpr, hq, hq2]; rfl))
        have h35 : ((n : Int) == 35) = false := by simp at hq2 ⊢; omega
        clear HB HE hpr
        go_wp2
        go_roundw
        case rel => exact ⟨k + 1, by omega, by go_num, HF.out, by trivial⟩
        case measure => simp [intOf]; omega
      · have HF := Lib.hid (HB.out (by rw [hpr, hq, hq2]; rfl))
        have h35 : ((n : Int) == 35) = true := by simp at hq2 ⊢; omega
        clear HB HE hpr
        go_wp2
        go_ret
        exact ⟨by rw [HF.out]; rfl, rfl⟩
  · obtain rfl : k = s.size := by omega
    go_wp2
    go_ret
    exact ⟨by rw [printB_ok fun j hj => hbef.out j hj hj]; rfl, rfl⟩
def standsB (s : ByteArray) (c : UInt8) : Bool := s.data.toList.contains c
theorem l1Stands_c (s : ByteArray) (c : UInt8) (w : World) (hs : s.size ≤ 1073741824) : Calls Tryz.prog 125 #[.string s, .int .u8 (c.toNat : Int)] w fun e w' => e = .returned (.bool (standsB s c)) ∧ w = w' := by
 go_enter Tryz.func125, Tryz.ntmps125
 go_wp2
 go_loopw [5] (fun j wr => ∃ k : Nat, k ≤ s.size ∧ j = .int .i64 (k : Int) ∧ Hid (∀ j (hj : j < s.size), j < k → s[j] ≠ c) ∧ w = wr) (fun j _ => s.size - (intOf j).toNat)
 case atStart => exact ⟨0, by omega, rfl, fun j hj h => by omega, rfl⟩
 case round =>
  obtain ⟨k, hk, rfl, hbef, rfl⟩ := hrel
  by_cases hlt : k < s.size
  · have hd : decide ((k : Int) < (s.size : Int)) = true := by simp; omega
    by_cases hq : s[k] = c
    · have h1 : decide (((s[k].toNat : Nat) : Int) = ((c.toNat : Nat) : Int)) = true := by rw [hq]; simp
      have h2 : (((s[k].toNat : Nat) : Int) == ((c.toNat : Nat) : Int)) = true := by rw [hq]; simp
      have hF : standsB s c = true := by
       unfold standsB
       rw [List.contains_iff_mem, ← hq]
       have : s.data.toList[k]? = some s[k] := by simp [hlt]; rfl
       exact List.mem_of_getElem? this
      have HF := Lib.hid hF; have HQ := Lib.hid hq; clear hF hq
      go_wp2
      go_ret
      exact ⟨by rw [HF.out]; rfl, rfl⟩
    · have hne : s[k].toNat ≠ c.toNat := fun h => hq (UInt8.toNat_inj.1 h)
      have h1 : decide (((s[k].toNat : Nat) : Int) = ((c.toNat : Nat) : Int)) = false := by simp; omega
      have h2 : (((s[k].toNat : Nat) : Int) == ((c.toNat : Nat) : Int)) = false := by simp; omega
      have HN : Hid (∀ j (hj : j < s.size), j < k + 1 → s[j] ≠ c) := fun j hj hjk => by
       by_cases hj2 : j < k
       · exact hbef.out j hj hj2
       · obtain rfl : j = k := by omega
         exact hq
      clear hq hbef hne
      go_wp2
      go_roundw
      case rel => exact ⟨k + 1, by omega, by go_num, HN, by trivial⟩
      case measure => simp [intOf]; omega
  · obtain rfl : k = s.size := by omega
    have hF : standsB s c = false := by
     unfold standsB
     rw [Bool.eq_false_iff]; intro h
     rw [List.contains_iff_mem] at h
     obtain ⟨j, hj, e⟩ := List.getElem_of_mem h
     exact hbef.out j (by simpa using hj) (by simpa using hj) e
    have HF := Lib.hid hF; clear hF
    go_wp2
    go_ret
    exact ⟨by rw [HF.out]; rfl, rfl⟩
def cmdB (c : ByteArray) : Bool := inB (c.size : Int) 1 160 && (printB c && !standsB c 64)
def recB (c r : ByteArray) : Bool := cmdB c && (decide ((r.size : Int) ≤ 250) && printB r)
theorem Contains_c (s : ByteArray) (c : UInt8) (w : World) : Calls Tryz.prog 65 #[.string s, .string ⟨#[c]⟩] w fun e w' => e = .returned (.bool (standsB s c)) ∧ w = w' :=
 (Tryz.strings_Contains_one s c w).mono fun e w' h => ⟨by rw [h.1]; unfold standsB; rw [Lib.contains_iff_indexByte], h.2.symm⟩
theorem isCommand_c (s : ByteArray) (w : World) (hs : s.size ≤ 1073741824) : Calls Tryz.prog 53 #[.string s] w fun e w' => e = .returned (.bool (cmdB s)) ∧ w = w' := by
 rcases h1 : inB (s.size : Int) 1 160 with _ | _
 · have H1 := Lib.hid h1
   have HF := Lib.hid (show cmdB s = false by unfold cmdB; rw [h1]; rfl); clear h1
   go_enter Tryz.func53, Tryz.ntmps53
   go_wp2_with fail
   refine (within_c _ _ _ _).mono ?_
   rintro e w2 ⟨rfl, rfl⟩
   rw [H1.out]
   go_wp2
   go_ret
   exact ⟨by rw [HF.out]; rfl, rfl⟩
 · rcases h2 : printB s with _ | _
   · have H1 := Lib.hid h1; have H2 := Lib.hid h2
     have HF := Lib.hid (show cmdB s = false by unfold cmdB; rw [h1, h2]; rfl); clear h1 h2
     go_enter Tryz.func53, Tryz.ntmps53
     go_wp2_with fail
     refine (within_c _ _ _ _).mono ?_
     rintro e w2 ⟨rfl, rfl⟩
     rw [H1.out]
     go_wp2_with fail
     refine (isPrinted_c s _ hs).mono ?_
     rintro e w2 ⟨rfl, rfl⟩
     rw [H2.out]
     go_wp2
     go_ret
     exact ⟨by rw [HF.out]; rfl, rfl⟩
   · have H1 := Lib.hid h1; have H2 := Lib.hid h2
     have HF := Lib.hid (show cmdB s = !standsB s 64 by unfold cmdB; rw [h1, h2]; rfl); clear h1 h2
     go_enter Tryz.func53, Tryz.ntmps53
     go_wp2_with fail
     refine (within_c _ _ _ _).mono ?_
     rintro e w2 ⟨rfl, rfl⟩
     rw [H1.out]
     go_wp2_with fail
     refine (isPrinted_c s _ hs).mono ?_
     rintro e w2 ⟨rfl, rfl⟩
     rw [H2.out]
     go_wp2_with fail
     refine (Contains_c s 64 _).mono ?_
     rintro e w2 ⟨rfl, rfl⟩
     go_wp2
     go_ret
     exact ⟨by rw [HF.out]; rfl, rfl⟩
theorem empty_size (c : ByteArray) : c.toList.isEmpty = decide (c.size = 0) := by
 rw [Lib.toList_data, Lib.size_eq]
 cases c.data.toList <;> simp
def recV (c r : ByteArray) : Value := .agg #[.string c, .string r]
theorem IsValidRecord_c (c r : ByteArray) (w : World) (hc : c.size ≤ 1073741824) (hr : r.size ≤ 1073741824) : Calls Tryz.prog 105 #[recV c r] w fun e w' => e = .returned (.bool (recB c r)) ∧ Below w.heap.size w w' := by
 unfold recV
 rcases h1 : cmdB c with _ | _
 · have H1 := Lib.hid h1
   have HF := Lib.hid (show recB c r = false by unfold recB; rw [h1]; rfl); clear h1
   go_enter Tryz.func105, Tryz.ntmps105
   go_wp2_with fail
   refine (isCommand_c _ _ hc).mono ?_
   rintro e w2 ⟨rfl, rfl⟩
   rw [H1.out]
   go_wp2
   go_ret
   exact ⟨by rw [HF.out]; rfl, by (repeat (first | exact Below.refl _ _ | exact (Below.refl _ _).drew | assumption | exact below_one _ | refine Below.chain ?_ (by assumption) | refine Below.drew ?_ | refine Below.alc ?_ _ | refine below_drewN ?_ | (refine Below.setCell ?_ ?_ _) | exact Nat.le_refl _ | (simp; done) | (simp; omega)))⟩
 · rcases h2 : decide ((r.size : Int) ≤ 250) with _ | _
   · have H1 := Lib.hid h1
     have HF := Lib.hid (show recB c r = false by unfold recB; rw [h1, h2]; rfl); clear h1
     go_enter Tryz.func105, Tryz.ntmps105
     go_wp2_with fail
     refine (isCommand_c _ _ hc).mono ?_
     rintro e w2 ⟨rfl, rfl⟩
     rw [H1.out]
     go_wp2
     go_ret
     exact ⟨by rw [HF.out]; rfl, by (repeat (first | exact Below.refl _ _ | exact (Below.refl _ _).drew | assumption | exact below_one _ | refine Below.chain ?_ (by assumption) | refine Below.drew ?_ | refine Below.alc ?_ _ | refine below_drewN ?_ | (refine Below.setCell ?_ ?_ _) | exact Nat.le_refl _ | (simp; done) | (simp; omega)))⟩
   · have H1 := Lib.hid h1
     have HF := Lib.hid (show recB c r = printB r by unfold recB; rw [h1, h2]; rfl); clear h1
     go_enter Tryz.func105, Tryz.ntmps105
     go_wp2_with fail
     refine (isCommand_c _ _ hc).mono ?_
     rintro e w2 ⟨rfl, rfl⟩
     rw [H1.out]
     go_wp2_with fail
     refine (isPrinted_c _ _ hr).mono ?_
     rintro e w2 ⟨rfl, rfl⟩
     go_wp2
     go_ret
     exact ⟨by rw [HF.out]; rfl, by (repeat (first | exact Below.refl _ _ | exact (Below.refl _ _).drew | assumption | exact below_one _ | refine Below.chain ?_ (by assumption) | refine Below.drew ?_ | refine Below.alc ?_ _ | refine below_drewN ?_ | (refine Below.setCell ?_ ?_ _) | exact Nat.le_refl _ | (simp; done) | (simp; omega)))⟩
theorem l12Record_c (c r : ByteArray) (w : World) (hc : c.size ≤ 1073741824) (hr : r.size ≤ 1073741824) : Calls Tryz.prog 71 #[recV c r] w fun e w' => e = .returned (.bool (recB c r)) ∧ Below w.heap.size w w' := by
 unfold recV
 rcases h0 : decide (c.size = 0) with _ | _
 · have he : c.toList.isEmpty = false := by rw [empty_size, h0]
   have hsz : 1 ≤ c.size := by have := of_decide_eq_false h0; omega
   have hcb : cmdB c = ((printB c && decide ((c.size : Int) ≤ 160)) && !standsB c 64) := by
    unfold cmdB inB
    rw [decide_eq_true (show (1 : Int) ≤ (c.size : Int) by omega)]
    cases decide ((c.size : Int) ≤ 160) <;> cases printB c <;> cases standsB c 64 <;> rfl
   clear h0
   rcases h1 : (printB c && decide ((c.size : Int) ≤ 160)) with _ | _
   · have H1 := Lib.hid h1
     have HF := Lib.hid (show recB c r = false by unfold recB; rw [hcb, h1]; rfl); clear h1 hcb
     go_enter Tryz.func71, Tryz.ntmps71
     go_wp2_with fail
     refine (l12Bytes_c _ _ _ hc).mono ?_
     rintro e w2 ⟨rfl, rfl⟩
     rw [H1.out]
     go_wp2
     go_ret
     exact ⟨by rw [HF.out]; rfl, by (repeat (first | exact Below.refl _ _ | exact (Below.refl _ _).drew | assumption | exact below_one _ | refine Below.chain ?_ (by assumption) | refine Below.drew ?_ | refine Below.alc ?_ _ | refine below_drewN ?_ | (refine Below.setCell ?_ ?_ _) | exact Nat.le_refl _ | (simp; done) | (simp; omega)))⟩
   · rcases h2 : standsB c 64 with _ | _
     · have H1 := Lib.hid h1; have H2 := Lib.hid h2
       have HF := Lib.hid (show recB c r = (printB r && decide ((r.size : Int) ≤ 250)) by unfold recB; rw [hcb, h1, h2]; cases decide ((r.size : Int) ≤ 250) <;> cases printB r <;> rfl); clear h1 h2 hcb
       go_enter Tryz.func71, Tryz.ntmps71
       go_wp2_with fail
       refine (l12Bytes_c _ _ _ hc).mono ?_
       rintro e w2 ⟨rfl, rfl⟩
       rw [H1.out]
       go_wp2_with fail
       refine (l1Stands_c _ 64 _ hc).mono ?_
       rintro e w2 ⟨rfl, rfl⟩
       rw [H2.out]
       go_wp2_with fail
       refine (l12Bytes_c _ _ _ hr).mono ?_
       rintro e w2 ⟨rfl, rfl⟩
       go_wp2
       go_ret
       exact ⟨by rw [HF.out]; rfl, by (repeat (first | exact Below.refl _ _ | exact (Below.refl _ _).drew | assumption | exact below_one _ | refine Below.chain ?_ (by assumption) | refine Below.drew ?_ | refine Below.alc ?_ _ | refine below_drewN ?_ | (refine Below.setCell ?_ ?_ _) | exact Nat.le_refl _ | (simp; done) | (simp; omega)))⟩
     · have H1 := Lib.hid h1; have H2 := Lib.hid h2
       have HF := Lib.hid (show recB c r = false by unfold recB; rw [hcb, h1, h2]; rfl); clear h1 h2 hcb
       go_enter Tryz.func71, Tryz.ntmps71
       go_wp2_with fail
       refine (l12Bytes_c _ _ _ hc).mono ?_
       rintro e w2 ⟨rfl, rfl⟩
       rw [H1.out]
       go_wp2_with fail
       refine (l1Stands_c _ 64 _ hc).mono ?_
       rintro e w2 ⟨rfl, rfl⟩
       rw [H2.out]
       go_wp2
       go_ret
       exact ⟨by rw [HF.out]; rfl, by (repeat (first | exact Below.refl _ _ | exact (Below.refl _ _).drew | assumption | exact below_one _ | refine Below.chain ?_ (by assumption) | refine Below.drew ?_ | refine Below.alc ?_ _ | refine below_drewN ?_ | (refine Below.setCell ?_ ?_ _) | exact Nat.le_refl _ | (simp; done) | (simp; omega)))⟩
 · have he : c.toList.isEmpty = true := by rw [empty_size, h0]
   have hsz : c.size = 0 := of_decide_eq_true h0
   have HF := Lib.hid (show recB c r = false by unfold recB cmdB inB; rw [hsz]; rfl)
   clear h0 hsz
   go_enter Tryz.func71, Tryz.ntmps71
   go_wp2
   go_ret
   exact ⟨by rw [HF.out]; rfl, by (repeat (first | exact Below.refl _ _ | exact (Below.refl _ _).drew | assumption | exact below_one _ | refine Below.chain ?_ (by assumption) | refine Below.drew ?_ | refine Below.alc ?_ _ | refine below_drewN ?_ | (refine Below.setCell ?_ ?_ _) | exact Nat.le_refl _ | (simp; done) | (simp; omega)))⟩
end Go.Proofs.YtohgjfdbnkjefaaGreatDoor
namespace Go.Proofs.YtohgjfdbnkjefaaGreatDoor
open Go.ChangeShapes Go.WideShapes Go.ChangeAt Go.RowKit Go.Joins Go.Deep
set_option linter.unusedVariables false
set_option maxRecDepth 100000
section
variable {H : Type} {enc : TypeId × Value → H} {w : World} {base : Nat} {spare : Nat → Bool} {held : Bool}
end
end Go.Proofs.YtohgjfdbnkjefaaGreatDoor
namespace Go.Proofs.YtohgjfdbnkjefaaGreatDoor
set_option linter.unusedVariables false
def ckS (s : List UInt8) : Int := s.foldl (fun h c => (41 * h + (c.toNat : Int) + 1) % 999979) 7
theorem ckS_snoc (s : List UInt8) (c : UInt8) : ckS (s ++ [c]) = (41 * ckS s + (c.toNat : Int) + 1) % 999979 := by unfold ckS; rw [List.foldl_append]; rfl
theorem snocB {M : List UInt8 → Prop} (h0 : M []) (h1 : ∀ l x, M l → M (l ++ [x])) (l : List UInt8) : M l := by
 have : ∀ n (l : List UInt8), l.length = n → M l := by
  intro n
  induction n with
  | zero => intro l h; rw [List.eq_nil_of_length_eq_zero h]; exact h0
  | succ n ih =>
   intro l h
   have e : l = l.take n ++ [l[n]'(by omega)] := by
    rw [List.take_append_getElem]; rw [List.take_of_length_le (by omega)]
   rw [e]
   exact h1 _ _ (ih _ (by rw [List.length_take]; omega))
 exact this _ l rfl
theorem ckS_bd (s : List UInt8) : 0 ≤ ckS s ∧ ckS s < 999979 := by
 refine snocB (M := fun s => 0 ≤ ckS s ∧ ckS s < 999979) ?_ (fun l x ih => ?_) s
 · decide
 · rw [ckS_snoc]
   omega
theorem ckS_take {s : List UInt8} {k : Nat} (hk : k < s.length) : ckS (s.take (k + 1)) = (41 * ckS (s.take k) + ((s[k]).toNat : Int) + 1) % 999979 := by
 rw [List.take_succ_eq_append_getElem hk, ckS_snoc]
def sealS (s : List UInt8) : List UInt8 := s ++ 35 :: Lib.itoa (ckS s)
def lineS (k : Int) (c r : List UInt8) : List UInt8 := sealS (Lib.itoa k ++ 32 :: c ++ 64 :: r) ++ [10]
theorem itoa_nat (n : Nat) : Lib.itoa (n : Int) = Lib.decDigits n := by
 unfold Lib.itoa
 rw [if_neg (by omega)]; simp
open Go.RowKit
set_option maxRecDepth 100000
def bs (l : List UInt8) : ByteArray := ⟨l.toArray⟩
theorem ba_len (s : ByteArray) : s.data.toList.length = s.size := by simp
theorem ba_at {s : ByteArray} {k : Nat} (h : k < s.size) : s.data.toList[k]'(by rw [ba_len]; exact h) = s[k] := by simp; rfl
theorem ck_step {s : ByteArray} {k : Nat} (hk : k < s.size) : ckS (s.data.toList.take (k + 1)) = (41 * ckS (s.data.toList.take k) + ((s[k]).toNat : Int) + 1) % 999979 := by
 rw [ckS_take (by rw [ba_len]; exact hk), ba_at hk]
set_option maxHeartbeats 1000000 in
theorem checksum_c (s : ByteArray) (w : World) (hs : s.size ≤ 1073741824) : Calls Tryz.prog 204 #[.string s] w fun e w' => e = .returned (.int .i64 (ckS s.data.toList)) ∧ w = w' := by
 go_enter Tryz.func204, Tryz.ntmps204
 go_wp2
 go_loopw [3, 7] (fun h j wr => ∃ k : Nat, k ≤ s.size ∧ j = .int .i64 (k : Int) ∧ h = .int .i64 (ckS (s.data.toList.take k)) ∧ w = wr) (fun _ j _ => s.size - (intOf j).toNat)
 case atStart => exact ⟨0, by omega, rfl, rfl, rfl⟩
 case round =>
  obtain ⟨k, hk, rfl, rfl, rfl⟩ := hrel
  by_cases hlt : k < s.size
  · have hd : decide ((k : Int) < (s.size : Int)) = true := by simp; omega
    have hbl : s[k].toNat < 256 := s[k].toNat_lt
    have HS := Lib.hid (ck_step hlt)
    have hbd := ckS_bd (s.data.toList.take k)
    generalize ckS (s.data.toList.take k) = h at *
    generalize hc : s[k] = c at *
    generalize hn : c.toNat = n at *
    have hw : wrap64 ((n : Nat) : Int) = ((n : Nat) : Int) := by simp only [wrap64]; omega
    have hw1 : IntKind.i64.wrap (41 * h) = 41 * h := IntWalk.i64_in _ (by omega)
    have hw2 : IntKind.i64.wrap (41 * h + (n : Int)) = 41 * h + (n : Int) := IntWalk.i64_in _ (by omega)
    have hw3 : IntKind.i64.wrap (41 * h + (n : Int) + 1) = 41 * h + (n : Int) + 1 := IntWalk.i64_in _ (by omega)
    have hm : Int.tmod (41 * h + (n : Int) + 1) 999979 = (41 * h + (n : Int) + 1) % 999979 := Int.tmod_eq_emod_of_nonneg (by omega)
    go_wp2
    go_roundw
    case rel => exact ⟨k + 1, by omega, by go_num, by rw [HS.out], by trivial⟩
    case measure => simp [intOf]; omega
  · obtain rfl : k = s.size := by omega
    have HE : Hid (s.data.toList.take s.size = s.data.toList) := List.take_of_length_le (by rw [ba_len]; omega)
    rw [HE.out]
    go_wp2
    go_ret
    exact ⟨rfl, rfl⟩
set_option maxHeartbeats 1000000 in
theorem l1Sum_c (s : ByteArray) (w : World) (hs : s.size ≤ 1073741824) : Calls Tryz.prog 238 #[.string s] w fun e w' => e = .returned (.int .i64 (ckS s.data.toList)) ∧ w = w' := by
 go_enter Tryz.func238, Tryz.ntmps238
 go_wp2
 go_loopw [3, 4] (fun h j wr => ∃ k : Nat, k ≤ s.size ∧ j = .int .i64 (k : Int) ∧ h = .int .i64 (ckS (s.data.toList.take k)) ∧ w = wr) (fun _ j _ => s.size - (intOf j).toNat)
 case atStart => exact ⟨0, by omega, rfl, rfl, rfl⟩
 case round =>
  obtain ⟨k, hk, rfl, rfl, rfl⟩ := hrel
  by_cases hlt : k < s.size
  · have hd : decide ((k : Int) < (s.size : Int)) = true := by simp; omega
    have hbl : s[k].toNat < 256 := s[k].toNat_lt
    have HS := Lib.hid (ck_step hlt)
    have hbd := ckS_bd (s.data.toList.take k)
    generalize ckS (s.data.toList.take k) = h at *
    generalize hc : s[k] = c at *
    generalize hn : c.toNat = n at *
    have hw : wrap64 ((n : Nat) : Int) = ((n : Nat) : Int) := by simp only [wrap64]; omega
    have hw1 : IntKind.i64.wrap (41 * h) = 41 * h := IntWalk.i64_in _ (by omega)
    have hw2 : IntKind.i64.wrap (41 * h + (n : Int)) = 41 * h + (n : Int) := IntWalk.i64_in _ (by omega)
    have hw3 : IntKind.i64.wrap (41 * h + (n : Int) + 1) = 41 * h + (n : Int) + 1 := IntWalk.i64_in _ (by omega)
    have hm : Int.tmod (41 * h + (n : Int) + 1) 999979 = (41 * h + (n : Int) + 1) % 999979 := Int.tmod_eq_emod_of_nonneg (by omega)
    go_wp2
    go_roundw
    case rel => exact ⟨k + 1, by omega, by go_num, by rw [HS.out], by trivial⟩
    case measure => simp [intOf]; omega
  · obtain rfl : k = s.size := by omega
    have HE : Hid (s.data.toList.take s.size = s.data.toList) := List.take_of_length_le (by rw [ba_len]; omega)
    rw [HE.out]
    go_wp2
    go_ret
    exact ⟨rfl, rfl⟩
theorem piece : ∀ r : Fin 10, ((⟨#[48, 49, 50, 51, 52, 53, 54, 55, 56, 57]⟩ : ByteArray).extract r.1 (r.1 + 1)) = bs [UInt8.ofNat (48 + r.1)] := by decide +kernel
theorem bs_append (a b : List UInt8) : bs a ++ bs b = bs (a ++ b) := ByteArray.ext (by simp [bs])
theorem decDigits_big {u : Nat} (h : ¬ u < 10) : Lib.decDigits u = Lib.decDigits (u / 10) ++ [UInt8.ofNat (48 + u % 10)] := by rw [Lib.decDigits, dif_neg h]
set_option maxHeartbeats 1000000 in
theorem l1Num_c : ∀ (n : Nat) (w : World), n < 4611686018427387904 → Calls Tryz.prog 134 #[.int .i64 (n : Int)] w fun e w' => e = .returned (.string (bs (Lib.decDigits n))) ∧ Below w.heap.size w w' := by
 intro n
 induction n using Nat.strongRecOn with
 | ind n ih =>
  intro w hn
  have h0 : decide ((n : Int) < 0) = false := by first | (simp; done) | (simp; omega)
  by_cases h10 : n < 10
  · have h1 : decide ((n : Int) < 10) = true := by simp; omega
    have HD := Lib.hid (Lib.decDigits_one h10)
    have HN := Lib.hid h10
    clear ih
    go_enter Tryz.func134, Tryz.ntmps134
    go_wp2
    go_ret
    exact ⟨by rw [HD.out]; exact congrArg (fun x => Ending.returned (.string x)) (piece ⟨n, HN.out⟩), Below.refl _ _⟩
  · have h1 : decide ((n : Int) < 10) = false := by simp; omega
    have IH := Lib.hid (ih (n / 10) (by omega))
    have hq : IntKind.i64.wrap ((n : Int) / 10) = ((n / 10 : Nat) : Int) := by rw [IntWalk.i64_in _ (by omega)]; simp
    have hm : (n : Int).tmod 10 = ((n % 10 : Nat) : Int) := by rw [Int.tmod_eq_emod_of_nonneg (by omega)]; simp
    have hlt : n % 10 < 10 := Nat.mod_lt _ (by decide)
    generalize hr : n % 10 = r at *
    have hw : IntKind.i64.wrap ((r : Int) + 1) = (r : Int) + 1 := IntWalk.i64_in _ (by omega)
    have n0 : (0 : Int) ≤ (r : Int) := by omega
    have n1 : (r : Int) ≤ (r : Int) + 1 := by omega
    have n2 : (r : Int) + 1 ≤ 10 := by omega
    have ha : ((bs (Lib.decDigits (n / 10))).size : Int) ≤ 8388608 := by
     have h1 : (bs (Lib.decDigits (n / 10))).size = (Lib.decDigits (n / 10)).length := by show (Lib.decDigits (n / 10)).toArray.size = _; simp
     have h2 := Lib.nDigits_le20 (n / 10) (by omega)
     rw [h1, Lib.decDigits_length]; omega
    have hb : ((((⟨#[48, 49, 50, 51, 52, 53, 54, 55, 56, 57]⟩ : ByteArray).extract r (r + 1)).size : Nat) : Int) ≤ 8388608 := by
     have : ((⟨#[48, 49, 50, 51, 52, 53, 54, 55, 56, 57]⟩ : ByteArray).extract r (r + 1)).size = 1 := by rw [piece ⟨r, hlt⟩]; rfl
     rw [this]; decide
    have hs1 : ¬ (9223372036854775807 < (bs (Lib.decDigits (n / 10))).size + (min (r + 1) 10 - r)) := by omega
    clear ih ha hb
    go_enter Tryz.func134, Tryz.ntmps134
    go_wp2_with fail
    go_region_held3 (fun _ => True) (trivial)
     (first | (go_at_call 134; rw [show (n : Int) / 10 = ((n / 10 : Nat) : Int) by simp]; refine (IH.out _ (by omega)).mono ?_; rintro e wa ⟨rfl, hbc⟩; have hbd : Below w.heap.size w wa := Below.chain (Below.refl _ _).drew hbc))
    have HP := Lib.hid (piece ⟨r, hlt⟩)
    have HD := Lib.hid (decDigits_big h10)
    go_wp2
    go_ret
    exact ⟨by rw [HP.out, bs_append, HD.out, hr]; rfl, hbd⟩
end Go.Proofs.YtohgjfdbnkjefaaGreatDoor
