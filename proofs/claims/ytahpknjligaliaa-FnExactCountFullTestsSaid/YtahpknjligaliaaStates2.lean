/- Walks of FoundStates and HiddenStates, both texts: the list that is told, and whether the test is valid. -/
import Derived.Test.YtahpknjligaliaaStates
namespace Go.Proofs.Ytahpknjligaliaa
open Go.RowKit
set_option linter.unusedVariables false
set_option maxRecDepth 100000
/-- a list that is told if the test is valid, else none -/
def toldSt (xs : List Int) (l : List (Int × Int)) : List (Int × Int) := if testB xs then l else []
theorem toldSt_le (xs : List Int) (l : List (Int × Int)) (h : l.length ≤ 15) : (toldSt xs l).length ≤ 15 := by
  unfold toldSt; split
  · exact h
  · simp
theorem foundSt_le (xs : List Int) : (foundSt xs).length ≤ 15 := Nat.le_trans (List.length_filter_le _ _) (by decide)
theorem hiddenSt_le (xs : List Int) : (hiddenSt xs).length ≤ 15 := Nat.le_trans (List.length_filter_le _ _) (by decide)
/-- the post of both texts: a slice of the call's own with the list, and the bool -/
def StPost (w : World) (xs : List Int) (l : List (Int × Int)) (e : Ending) (w' : World) : Prop :=
  ∃ u, e = .returned (.tuple #[u, .bool (testB xs)]) ∧ w'.ownsRow w.heap.size 41 2 u (toldSt xs l).length (flat2 (toldSt xs l)) ∧ Below w.heap.size w w'
theorem StPost.no {w w' : World} {xs : List Int} {l : List (Int × Int)} {u : Value} (ht : testB xs = false) (ho : w'.ownsRow w.heap.size 41 2 u 0 []) (hb : Below w.heap.size w w') : StPost w xs l (.returned (.tuple #[u, .bool false])) w' := by
  refine ⟨u, by rw [ht], ?_, hb⟩
  simpa [toldSt, ht, flat2_nil] using ho
theorem StPost.yes {w w' : World} {xs : List Int} {l : List (Int × Int)} {u : Value} (ht : testB xs = true) (ho : w'.ownsRow w.heap.size 41 2 u l.length (flat2 l)) (hb : Below w.heap.size w w') : StPost w xs l (.returned (.tuple #[u, .bool true])) w' := by
  refine ⟨u, by rw [ht], ?_, hb⟩
  simpa [toldSt, ht] using ho
theorem FoundStates_c (v : Value) (xs : List Int) (w : World) (hv : Ints w v xs) : Calls Try.prog 83 #[v] w (StPost w xs (foundSt xs)) := by
  rcases ht : testB xs with _ | _
  · have HT := Lib.hid ht; clear ht
    go_enter Try.func83, Try.ntmps83
    go_wp2_with fail
    refine (isTest_c v xs _ hv).mono ?_
    rintro e w1 ⟨rfl, hb1⟩
    rw [HT.out]
    go_wp2
    go_ret2
    exact StPost.no HT.out (World.ownsRow_nil _ _ _ _) (by (repeat (first | exact Below.refl _ _ | exact (Below.refl _ _).drew | assumption | exact below_one _ | refine Below.chain ?_ (by assumption) | refine Below.drew ?_ | refine Below.alc ?_ _ | refine below_drewN ?_ | (refine Below.setCell ?_ ?_ _) | exact Nat.le_refl _ | (simp; done) | (simp; omega))))
  · have HT := Lib.hid ht; clear ht
    go_enter Try.func83, Try.ntmps83
    go_wp2_with fail
    refine (isTest_c v xs _ hv).mono ?_
    rintro e w1 ⟨rfl, hb1⟩
    rw [HT.out]
    go_wp2_with fail
    refine (found_c v xs _ (hv.below hb1) HT.out).mono ?_
    rintro e w2 ⟨u, rfl, ho, hb2⟩
    go_wp2
    go_ret2
    exact StPost.yes HT.out (own_lo ho hb1.size) (by (repeat (first | exact Below.refl _ _ | exact (Below.refl _ _).drew | assumption | exact below_one _ | refine Below.chain ?_ (by assumption) | refine Below.drew ?_ | refine Below.alc ?_ _ | refine below_drewN ?_ | (refine Below.setCell ?_ ?_ _) | exact Nat.le_refl _ | (simp; done) | (simp; omega))))
theorem sFoundStates_c (v : Value) (xs : List Int) (w : World) (hv : Ints w v xs) : Calls Try.prog 82 #[v] w (StPost w xs (foundSt xs)) := by
  rcases ht : testB xs with _ | _
  · have HT := Lib.hid ht; clear ht
    go_enter Try.func82, Try.ntmps82
    go_wp2_with fail
    refine (l7Test_c v xs _ hv).mono ?_
    rintro e w1 ⟨rfl, hb1⟩
    rw [HT.out]
    go_wp2
    go_ret2
    exact StPost.no HT.out (own_lo (World.ownsRow_lit (e := 41) (size := 2) (base := w1.heap.size) w1 #[] 0 (Nat.le_refl _) (by decide) rfl) hb1.size) (by (repeat (first | exact Below.refl _ _ | exact (Below.refl _ _).drew | assumption | exact below_one _ | refine Below.chain ?_ (by assumption) | refine Below.drew ?_ | refine Below.alc ?_ _ | refine below_drewN ?_ | (refine Below.setCell ?_ ?_ _) | exact Nat.le_refl _ | (simp; done) | (simp; omega))))
  · have HT := Lib.hid ht; clear ht
    go_enter Try.func82, Try.ntmps82
    go_wp2_with fail
    refine (l7Test_c v xs _ hv).mono ?_
    rintro e w1 ⟨rfl, hb1⟩
    rw [HT.out]
    go_wp2_with fail
    refine (l7Found_c v xs true _ (hv.below hb1) HT.out).mono ?_
    rintro e w2 ⟨u, rfl, ho, hb2⟩
    rw [l7F_found] at ho
    go_wp2
    go_ret2
    exact StPost.yes HT.out (own_lo ho hb1.size) (by (repeat (first | exact Below.refl _ _ | exact (Below.refl _ _).drew | assumption | exact below_one _ | refine Below.chain ?_ (by assumption) | refine Below.drew ?_ | refine Below.alc ?_ _ | refine below_drewN ?_ | (refine Below.setCell ?_ ?_ _) | exact Nat.le_refl _ | (simp; done) | (simp; omega))))
theorem HiddenStates_c (v : Value) (xs : List Int) (w : World) (hv : Ints w v xs) : Calls Try.prog 78 #[v] w (StPost w xs (hiddenSt xs)) := by
  obtain ⟨a, c, rfl, _, _, _⟩ := hv.parts
  have hc0 : (w.alloc (.cells #[.slice a xs.length c] 35)).cell? ⟨w.heap.size, 0, none⟩ = some (.slice a xs.length c) := by
    rw [World.cell?_alloc_at _ _ _ _ rfl]; rfl
  have hv0 : Ints (w.alloc (.cells #[.slice a xs.length c] 35)) _ xs := hv.below (below_one _)
  rcases ht : testB xs with _ | _
  · have HT := Lib.hid ht; clear ht
    go_enter Try.func78, Try.ntmps78
    go_wp2_with fail
    refine (isTest_c _ xs _ hv0).mono ?_
    rintro e w1 ⟨rfl, hb1⟩
    rw [HT.out]
    go_wp2
    go_ret2
    exact StPost.no HT.out (World.ownsRow_nil _ _ _ _) (by (repeat (first | exact Below.refl _ _ | exact (Below.refl _ _).drew | assumption | exact below_one _ | refine Below.chain ?_ (by assumption) | refine Below.drew ?_ | refine Below.alc ?_ _ | refine below_drewN ?_ | (refine Below.setCell ?_ ?_ _) | exact Nat.le_refl _ | (simp; done) | (simp; omega))))
  · have HT := Lib.hid ht; clear ht
    go_enter Try.func78, Try.ntmps78
    go_wp2_with fail
    refine (isTest_c _ xs _ hv0).mono ?_
    rintro e w1 ⟨rfl, hb1⟩
    rw [HT.out]
    have hc1 := cell_later hb1 hc0
    have hv1 : Ints w1 _ xs := hv0.below hb1
    have hb01 : Below w.heap.size w w1 := by (repeat (first | exact Below.refl _ _ | exact (Below.refl _ _).drew | assumption | exact below_one _ | refine Below.chain ?_ (by assumption) | refine Below.drew ?_ | refine Below.alc ?_ _ | refine below_drewN ?_ | (refine Below.setCell ?_ ?_ _) | exact Nat.le_refl _ | (simp; done) | (simp; omega)))
    clear hc0 hv0 hb1
    go_wp2_with fail
    refine (states_c 164 #[.pointer (some ⟨w.heap.size, 0, none⟩)] (fun s => s.2 != 0 && decide (placeOf s.1 s.2 xs < 0)) _ (fun _ _ => by kernel_rfl) ?_).mono ?_
    · intro bar kind w2 hst hb
      have hc := cell_later hb hc1
      have hz : w.heap.size < w2.heap.size := World.block_lt_of_cell? w2 _ hc
      have hv2 : Ints w2 _ xs := hv1.below hb
      rcases hk : (kind != 0) with _ | _
      · go_enter Try.func164, Try.ntmps164
        go_wp2_with fail
        go_ret
        exact ⟨bool_ret (by simp), by (repeat (first | exact Below.refl _ _ | exact (Below.refl _ _).drew | assumption | exact below_one _ | refine Below.chain ?_ (by assumption) | refine Below.drew ?_ | refine Below.alc ?_ _ | refine below_drewN ?_ | (refine Below.setCell ?_ ?_ _) | exact Nat.le_refl _ | (simp; done) | (simp; omega)))⟩
      · go_enter Try.func164, Try.ntmps164
        go_wp2_with fail
        refine (finding_c _ xs bar kind _ (hv2.below (below_one _)) hst HT.out).mono ?_
        rintro e w3 ⟨rfl, hb3⟩
        go_wp2
        go_ret
        exact ⟨bool_ret (by simp), by (repeat (first | exact Below.refl _ _ | exact (Below.refl _ _).drew | assumption | exact below_one _ | refine Below.chain ?_ (by assumption) | refine Below.drew ?_ | refine Below.alc ?_ _ | refine below_drewN ?_ | (refine Below.setCell ?_ ?_ _) | exact Nat.le_refl _ | (simp; done) | (simp; omega)))⟩
    · rintro e w2 ⟨u, rfl, ho, hb⟩
      have ho' : w2.ownsRow w.heap.size 41 2 u (hiddenSt xs).length (flat2 (hiddenSt xs)) := own_lo ho hb01.size
      go_wp2
      go_ret2
      exact StPost.yes HT.out ho' (by (repeat (first | exact Below.refl _ _ | exact (Below.refl _ _).drew | assumption | exact below_one _ | refine Below.chain ?_ (by assumption) | refine Below.drew ?_ | refine Below.alc ?_ _ | refine below_drewN ?_ | (refine Below.setCell ?_ ?_ _) | exact Nat.le_refl _ | (simp; done) | (simp; omega))))
theorem sHiddenStates_c (v : Value) (xs : List Int) (w : World) (hv : Ints w v xs) : Calls Try.prog 77 #[v] w (StPost w xs (hiddenSt xs)) := by
  rcases ht : testB xs with _ | _
  · have HT := Lib.hid ht; clear ht
    go_enter Try.func77, Try.ntmps77
    go_wp2_with fail
    refine (l7Test_c v xs _ hv).mono ?_
    rintro e w1 ⟨rfl, hb1⟩
    rw [HT.out]
    go_wp2
    go_ret2
    exact StPost.no HT.out (own_lo (World.ownsRow_lit (e := 41) (size := 2) (base := w1.heap.size) w1 #[] 0 (Nat.le_refl _) (by decide) rfl) hb1.size) (by (repeat (first | exact Below.refl _ _ | exact (Below.refl _ _).drew | assumption | exact below_one _ | refine Below.chain ?_ (by assumption) | refine Below.drew ?_ | refine Below.alc ?_ _ | refine below_drewN ?_ | (refine Below.setCell ?_ ?_ _) | exact Nat.le_refl _ | (simp; done) | (simp; omega))))
  · have HT := Lib.hid ht; clear ht
    go_enter Try.func77, Try.ntmps77
    go_wp2_with fail
    refine (l7Test_c v xs _ hv).mono ?_
    rintro e w1 ⟨rfl, hb1⟩
    rw [HT.out]
    go_wp2_with fail
    refine (l7Found_c v xs false _ (hv.below hb1) HT.out).mono ?_
    rintro e w2 ⟨u, rfl, ho, hb2⟩
    rw [l7F_hidden] at ho
    go_wp2
    go_ret2
    exact StPost.yes HT.out (own_lo ho hb1.size) (by (repeat (first | exact Below.refl _ _ | exact (Below.refl _ _).drew | assumption | exact below_one _ | refine Below.chain ?_ (by assumption) | refine Below.drew ?_ | refine Below.alc ?_ _ | refine below_drewN ?_ | (refine Below.setCell ?_ ?_ _) | exact Nat.le_refl _ | (simp; done) | (simp; omega))))
end Go.Proofs.Ytahpknjligaliaa
