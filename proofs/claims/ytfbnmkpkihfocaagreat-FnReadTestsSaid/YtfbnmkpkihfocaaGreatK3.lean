/- Texts of this claim, gathered: State, Mem, AllFault, RowsOf, ToFaults, Faults, Groups, Bench. -/
import Derived.Test.YtfbnmkpkihfocaaGreatK2
import Derived.Deep.RegionHeld3
import Derived.Deep.MidRow
namespace Go.Proofs.YtfbnmkpkihfocaaGreat
open Go.RowKit
set_option linter.unusedVariables false

theorem IsState_c (bar kind : Int) (w : World) : Calls Tryz.prog 45 #[.agg #[.int .i64 bar, .int .i64 kind]] w fun e w' => e = .returned (.bool (stateB bar kind)) ∧ Below w.heap.size w w' := by
  by_cases h0 : kind = 0
  · subst h0
    go_enter Tryz.func45, Tryz.ntmps45
    go_wp2_with (go_at_call 65; refine (within_c _ _ _ _).mono ?_; rintro e w' ⟨rfl, rfl⟩)
    all_goals (go_ret; exact ⟨bool_ret (by simp_all [stateB, inB]; try omega), below_one _⟩)
  · have h1 : (kind != 0) = true := by simpa using h0
    go_enter Tryz.func45, Tryz.ntmps45
    go_wp2_with (go_at_call 65; refine (within_c _ _ _ _).mono ?_; rintro e w' ⟨rfl, rfl⟩)
    all_goals (go_ret; exact ⟨bool_ret (by simp_all [stateB, inB]; try omega), below_one _⟩)
theorem l7State_c (bar kind : Int) (w : World) : Calls Tryz.prog 28 #[.agg #[.int .i64 bar, .int .i64 kind]] w fun e w' => e = .returned (.bool (stateB bar kind)) ∧ Below w.heap.size w w' := by
  by_cases h0 : kind = 0
  · subst h0
    go_enter Tryz.func28, Tryz.ntmps28
    go_wp2_with (go_at_call 27; refine (l1In_c _ _ _ _).mono ?_; rintro e w' ⟨rfl, rfl⟩)
    all_goals (go_ret; exact ⟨bool_ret (by simp_all [stateB]; try omega), below_one _⟩)
  · have h1 : (kind == 0) = false := by simpa using h0
    go_enter Tryz.func28, Tryz.ntmps28
    go_wp2_with (go_at_call 27; refine (l1In_c _ _ _ _).mono ?_; rintro e w' ⟨rfl, rfl⟩)
    all_goals (go_ret; exact ⟨bool_ret (by simp_all [stateB, inB]; try omega), below_one _⟩)
def faultV (bar kind : Int) : Value := .agg #[.int .i64 (stD bar kind), .int .i64 (stL bar kind)]
theorem Sfault_c (bar kind : Int) (h : stateB bar kind = true) (w : World) : Calls Tryz.prog 38 #[.agg #[.int .i64 bar, .int .i64 kind]] w fun e w' => e = .returned (faultV bar kind) ∧ Below w.heap.size w w' := by
  rcases stateB_cases h with ⟨rfl, rfl⟩ | ⟨rfl, h0, h1⟩ | ⟨rfl, h0, h1⟩
  · go_enter Tryz.func38, Tryz.ntmps38
    go_wp2
    exact bodyPost_ret (v := faultV 0 0) (by simp [results, Tryz.results38, go_sem, faultV, stD, stL]) rfl ⟨rfl, (below_one _).alloc (by simp) _⟩
  · rcases bar_cases h0 h1 with rfl | rfl | rfl | rfl | rfl | rfl | rfl
    all_goals
      clear h0 h1 h
      go_enter Tryz.func38, Tryz.ntmps38
      go_wp2
      refine bodyPost_ret (v := faultV _ 1) (by simp [results, Tryz.results38, go_sem, faultV, stD, stL]) rfl ⟨rfl, ?_⟩
      repeat (first | exact below_one _ | apply Below.setCell | apply Below.alloc | simp)
  · rcases bar_cases h0 h1 with rfl | rfl | rfl | rfl | rfl | rfl | rfl
    all_goals
      clear h0 h1 h
      go_enter Tryz.func38, Tryz.ntmps38
      go_wp2
      refine bodyPost_ret (v := faultV _ 2) (by simp [results, Tryz.results38, go_sem, faultV, stD, stL]) rfl ⟨rfl, ?_⟩
      repeat (first | exact below_one _ | apply Below.setCell | apply Below.alloc | simp)
theorem isTest_c (v : Value) (xs : List Int) (w : World) (hv : Ints w v xs) : Calls Tryz.prog 33 #[v] w fun e w' => e = .returned (.bool (testB xs)) ∧ Below w.heap.size w w' := by
  obtain ⟨a, c, hvv, hc1, hc2, HC⟩ := hv.parts
  by_cases h : xs.length ≤ 10
  · subst hvv
    go_enter Tryz.func33, Tryz.ntmps33
    go_wp2_with (go_at_call 34; refine (areAllInt_c _ xs 50 digitB _ hv (fun _ _ => by kernel_rfl) (fun x w' => isDigit_c x w')).mono ?_; rintro e w' ⟨rfl, hb⟩)
    go_ret
    exact ⟨bool_ret (by simp [testB, h]), by assumption⟩
  · subst hvv
    go_enter Tryz.func33, Tryz.ntmps33
    go_wp2_with fail
    go_ret
    exact ⟨bool_ret (by simp [testB]; omega), Below.refl _ _⟩
theorem l7Test_c (v : Value) (xs : List Int) (w : World) (hv : Ints w v xs) : Calls Tryz.prog 41 #[v] w fun e w' => e = .returned (.bool (testB xs)) ∧ Below w.heap.size w w' := by
  have hm := hv.le
  obtain ⟨a, c, rfl, hc1, hc2, HC⟩ := hv.parts
  go_enter Tryz.func41, Tryz.ntmps41
  go_wp2
  go_loopw [3] (fun i wr => ∃ k : Nat, k ≤ xs.length ∧ k ≤ 11 ∧ i = .int .i64 k ∧ Hid (∀ j x, j < k → xs[j]? = some x → digitB x = true) ∧ w = wr) (fun i _ => xs.length - (intOf i).toNat)
  case atStart => exact ⟨0, by omega, by omega, rfl, fun j x hj => by omega, by trivial⟩
  case round =>
    obtain ⟨k, hk, hk2, rfl, hbef, rfl⟩ := hrel
    clear hv
    by_cases hlt : k < xs.length ∧ k ≤ 10
    · obtain ⟨hlt, hle⟩ := hlt
      obtain ⟨x, hx⟩ := elem_at hlt
      obtain ⟨b, off, rfl, g0⟩ := HC.out k x hx.out
      go_wp2_with fail
      refine (l1In_c _ _ _ _).mono ?_
      rintro e w' ⟨rfl, rfl⟩
      rcases hpx : inB x 0 9 with _ | _
      · have HP := Lib.hid hpx; clear hpx
        go_wp2
        go_ret
        exact ⟨bool_ret (by
          symm; simp only [testB, Bool.and_eq_false_iff]; right
          rw [List.all_eq_false]; exact ⟨x, List.mem_of_getElem? hx.out, by simp [digitB, HP.out]⟩), Below.refl _ _⟩
      · have HP := Lib.hid hpx; clear hpx
        go_wp2
        go_roundw
        case rel => exact ⟨k + 1, by omega, by omega, by go_num, fun j y hj hy => by
          by_cases hj2 : j < k
          · exact hbef.out j y hj2 hy
          · obtain rfl : j = k := by omega
            rw [hx.out] at hy; obtain rfl := Option.some.inj hy; exact HP.out, by trivial⟩
        case measure => simp [intOf]; omega
    · have hor : k = xs.length ∨ (k = 11 ∧ k < xs.length) := by omega
      clear hlt
      rcases hor with hor | ⟨hor, hor2⟩
      · have HK := Lib.hid hor
        have h1 : ¬ k < xs.length := by omega
        clear hor
        go_wp2
        go_ret
        refine ⟨bool_ret ?_, Below.refl _ _⟩
        have hall : xs.all digitB = true := by
          rw [List.all_eq_true]; intro x hx
          obtain ⟨j, hj⟩ := List.mem_iff_getElem?.1 hx
          have := (List.getElem?_eq_some_iff.1 hj).1
          exact hbef.out j x (by have := HK.out; omega) hj
        simp [testB, hall]; omega
      · have HK := Lib.hid hor
        have h1 : ¬ k ≤ 10 := by omega
        clear hor
        go_wp2
        go_ret
        refine ⟨bool_ret ?_, Below.refl _ _⟩
        have := HK.out
        rw [decide_eq_false (by omega)]
        simp [testB]; omega
/-- the place of the first digit of a test that finds a state, or -1 -/
def placeOf (bar kind : Int) (xs : List Int) : Int := firstAt (finds bar kind) xs
theorem finding_c (v : Value) (xs : List Int) (bar kind : Int) (w : World) (hv : Ints w v xs) (hs : stateB bar kind = true) (ht : testB xs = true) :
    Calls Tryz.prog 46 #[.agg #[.int .i64 bar, .int .i64 kind], v] w fun e w' => e = .returned (.int .i64 (placeOf bar kind xs)) ∧ Below w.heap.size w w' := by
  have bd := stDL_bd hs
  go_enter Tryz.func46, Tryz.ntmps46
  go_wp2_with fail
  refine (Sfault_c bar kind hs _).mono ?_
  rintro e w1 ⟨rfl, hb1⟩
  unfold faultV
  go_wp2_with fail
  refine (IndexFuncInt_c v xs 67 #[.pointer (some ⟨w1.heap.size, 0, none⟩)] (finds bar kind) _ ?_ (fun _ _ => by kernel_rfl) ?_).mono ?_
  · exact Ints.below (Ints.below (Ints.below hv (below_one _)) hb1) (below_one _)
  · intro x w2 hx hb2
    have hd : 0 ≤ x ∧ x ≤ 9 := by
      simp only [testB, Bool.and_eq_true, List.all_eq_true] at ht
      exact digitB_true (ht.2 x hx)
    have hx0 := hd.1; have hx1 := hd.2
    have bdx := dg_bd x
    have c0 : w2.cell? ⟨w1.heap.size, 0, none⟩ = some (.int .i64 (stD bar kind)) := by
      rw [(bcell hb2).1 _ _ (by simp), World.cell?_alloc_at _ _ _ _ rfl]; rfl
    have c1 : w2.cell? ⟨w1.heap.size, 1, none⟩ = some (.int .i64 (stL bar kind)) := by
      rw [(bcell hb2).1 _ _ (by simp), World.cell?_alloc_at _ _ _ _ rfl]; rfl
    have hix := fun w => index_dig x hx0 hx1 w
    clear hv hb1 hb2 hs ht hx hd
    go_enter Tryz.func67, Tryz.ntmps67
    go_wp2_with fail
    go_region_held3 (fun w' => w'.cell? ⟨w1.heap.size, 0, none⟩ = some (.int .i64 (stD bar kind)) ∧ w'.cell? ⟨w1.heap.size, 1, none⟩ = some (.int .i64 (stL bar kind)))
      (first | go_keep | (go_split_ands; exact ⟨cell_later (by assumption) (by assumption), cell_later (by assumption) (by assumption)⟩))
      (first | (go_at_call 40; refine (digitCells_c _).mono ?_; rintro e w' ⟨rfl, hb⟩) | (go_at_call 39; refine (shown_c _ _ _ (by omega) (by omega) (by omega) (by omega) (by omega) (by omega) _).mono ?_; rintro e w' ⟨rfl, hb⟩))
    go_wp2
    go_ret
    exact ⟨rfl, by (repeat (first | exact Below.refl _ _ | exact (Below.refl _ _).drew | assumption | exact below_one _ | refine Below.chain ?_ (by assumption) | refine Below.drew ?_ | refine Below.alc ?_ _ | refine below_drewN ?_ | (refine Below.setCell ?_ ?_ _) | exact Nat.le_refl _ | (simp; done) | (simp; omega)))⟩
  · rintro e w3 ⟨rfl, hb3⟩
    go_wp2
    go_ret
    exact ⟨rfl, ((((below_one _).trans (hb1.mono (by simp))).alloc (by have := hb1.size; simp at this; omega) _).trans (hb3.mono (by have := hb1.size; simp at this ⊢; omega)))⟩
/-- what both texts of FirstFinding return -/
def ffOk (xs : List Int) (bar kind : Int) : Bool := testB xs && (stateB bar kind && decide (0 ≤ placeOf bar kind xs))
def ffN (xs : List Int) (bar kind : Int) : Int := if ffOk xs bar kind then placeOf bar kind xs else 0
def firstFindingV (xs : List Int) (bar kind : Int) : Value := .tuple #[.int .i64 (ffN xs bar kind), .bool (ffOk xs bar kind)]
theorem FirstFinding_c (v : Value) (xs : List Int) (bar kind : Int) (w : World) (hv : Ints w v xs) :
    Calls Tryz.prog 10 #[v, .agg #[.int .i64 bar, .int .i64 kind]] w fun e w' => e = .returned (firstFindingV xs bar kind) ∧ Below w.heap.size w w' := by
  rcases ht : testB xs with _ | _
  · have HF0 : firstFindingV xs bar kind = .tuple #[.int .i64 0, .bool false] := by simp [firstFindingV, ffN, ffOk, ht]
    have HF := Lib.hid HF0; clear HF0; have HT := Lib.hid ht; clear ht
    go_enter Tryz.func10, Tryz.ntmps10
    go_wp2_with fail
    refine (isTest_c v xs _ (hv.below (below_one _))).mono ?_
    rintro e w1 ⟨rfl, hb1⟩
    rw [HT.out]
    go_wp2
    go_ret2
    exact ⟨by rw [HF.out]; rfl, by (repeat (first | exact Below.refl _ _ | exact (Below.refl _ _).drew | assumption | exact below_one _ | refine Below.chain ?_ (by assumption) | refine Below.drew ?_ | refine Below.alc ?_ _ | refine below_drewN ?_ | (refine Below.setCell ?_ ?_ _) | exact Nat.le_refl _ | (simp; done) | (simp; omega)))⟩
  · rcases hs : stateB bar kind with _ | _
    · have HF0 : firstFindingV xs bar kind = .tuple #[.int .i64 0, .bool false] := by simp [firstFindingV, ffN, ffOk, hs]
      have HF := Lib.hid HF0; clear HF0; have HT := Lib.hid ht; have HS := Lib.hid hs; clear ht hs
      go_enter Tryz.func10, Tryz.ntmps10
      go_wp2_with fail
      refine (isTest_c v xs _ (hv.below (below_one _))).mono ?_
      rintro e w1 ⟨rfl, hb1⟩
      rw [HT.out]
      obtain ⟨hc1, hf1⟩ := bcell hb1
      go_wp2_with fail
      refine (IsState_c bar kind _).mono ?_
      rintro e w2 ⟨rfl, hb2⟩
      rw [HS.out]
      go_wp2
      go_ret2
      exact ⟨by rw [HF.out]; rfl, by (repeat (first | exact Below.refl _ _ | exact (Below.refl _ _).drew | assumption | exact below_one _ | refine Below.chain ?_ (by assumption) | refine Below.drew ?_ | refine Below.alc ?_ _ | refine below_drewN ?_ | (refine Below.setCell ?_ ?_ _) | exact Nat.le_refl _ | (simp; done) | (simp; omega)))⟩
    · have HF0 : firstFindingV xs bar kind = .tuple #[.int .i64 (if 0 ≤ placeOf bar kind xs then placeOf bar kind xs else 0), .bool (decide (0 ≤ placeOf bar kind xs))] := by simp [firstFindingV, ffN, ffOk, hs, ht]
      have HF := Lib.hid HF0; clear HF0; have HT := Lib.hid ht; have HS := Lib.hid hs; clear ht hs
      go_enter Tryz.func10, Tryz.ntmps10
      go_wp2_with fail
      refine (isTest_c v xs _ (hv.below (below_one _))).mono ?_
      rintro e w1 ⟨rfl, hb1⟩
      rw [HT.out]
      obtain ⟨hc1, hf1⟩ := bcell hb1
      go_wp2_with fail
      refine (IsState_c bar kind _).mono ?_
      rintro e w2 ⟨rfl, hb2⟩
      rw [HS.out]
      obtain ⟨hc2, hf2⟩ := bcell hb2
      have hz1 : w.heap.size < w1.heap.size := by have := hb1.size; simp at this; omega
      go_wp2_with fail
      refine (finding_c v xs bar kind _ (Ints.below (Ints.below (hv.below (below_one _)) hb1) hb2) HS.out HT.out).mono ?_
      rintro e w3 ⟨rfl, hb3⟩
      have HQ : Hid (firstFindingV xs bar kind = .tuple #[.int .i64 (if 0 ≤ placeOf bar kind xs then placeOf bar kind xs else 0), .bool (decide (0 ≤ placeOf bar kind xs))]) := HF
      clear HF
      generalize placeOf bar kind xs = q at *
      by_cases hq : q < 0
      · have HF : Hid (firstFindingV xs bar kind = .tuple #[.int .i64 0, .bool false]) := by rw [HQ.out, if_neg (by omega), decide_eq_false (by omega)]; rfl
        clear HQ
        go_wp2
        go_ret2
        exact ⟨by rw [HF.out]; rfl, by (repeat (first | exact Below.refl _ _ | exact (Below.refl _ _).drew | assumption | exact below_one _ | refine Below.chain ?_ (by assumption) | refine Below.drew ?_ | refine Below.alc ?_ _ | refine below_drewN ?_ | (refine Below.setCell ?_ ?_ _) | exact Nat.le_refl _ | (simp; done) | (simp; omega)))⟩
      · have HF : Hid (firstFindingV xs bar kind = .tuple #[.int .i64 q, .bool true]) := by rw [HQ.out, if_pos (by omega), decide_eq_true (by omega)]; rfl
        clear HQ
        go_wp2
        go_ret2
        exact ⟨by rw [HF.out]; rfl, by (repeat (first | exact Below.refl _ _ | exact (Below.refl _ _).drew | assumption | exact below_one _ | refine Below.chain ?_ (by assumption) | refine Below.drew ?_ | refine Below.alc ?_ _ | refine below_drewN ?_ | (refine Below.setCell ?_ ?_ _) | exact Nat.le_refl _ | (simp; done) | (simp; omega)))⟩

theorem l7Fault_c (bar kind : Int) (h : stateB bar kind = true) (w : World) : Calls Tryz.prog 30 #[.agg #[.int .i64 bar, .int .i64 kind]] w fun e w' => e = .returned (faultV bar kind) ∧ Below w.heap.size w w' := by
  rcases stateB_cases h with ⟨rfl, rfl⟩ | ⟨rfl, h0, h1⟩ | ⟨rfl, h0, h1⟩
  · go_enter Tryz.func30, Tryz.ntmps30
    go_wp2
    exact bodyPost_ret (v := faultV 0 0) (by simp [results, Tryz.results30, go_sem, faultV, stD, stL]) rfl ⟨rfl, (below_one _).alloc (by simp) _⟩
  · rcases bar_cases h0 h1 with rfl | rfl | rfl | rfl | rfl | rfl | rfl
    all_goals
      clear h0 h1 h
      go_enter Tryz.func30, Tryz.ntmps30
      go_wp2
      refine bodyPost_ret (v := faultV _ 1) (by simp [results, Tryz.results30, go_sem, faultV, stD, stL]) rfl ⟨rfl, ?_⟩
      repeat (first | exact below_one _ | apply Below.setCell | apply Below.alloc | simp)
  · rcases bar_cases h0 h1 with rfl | rfl | rfl | rfl | rfl | rfl | rfl
    all_goals
      clear h0 h1 h
      go_enter Tryz.func30, Tryz.ntmps30
      go_wp2
      refine bodyPost_ret (v := faultV _ 2) (by simp [results, Tryz.results30, go_sem, faultV, stD, stL]) rfl ⟨rfl, ?_⟩
      repeat (first | exact below_one _ | apply Below.setCell | apply Below.alloc | simp)
theorem testB_digit {xs : List Int} (ht : testB xs = true) {k : Nat} {x : Int} (hx : xs[k]? = some x) : 0 ≤ x ∧ x ≤ 9 := by
  simp only [testB, Bool.and_eq_true, List.all_eq_true] at ht
  exact digitB_true (ht.2 x (List.mem_of_getElem? hx))
theorem l7Place_c (v : Value) (xs : List Int) (bar kind : Int) (w : World) (hv : Ints w v xs) (hs : stateB bar kind = true) (ht : testB xs = true) :
    Calls Tryz.prog 47 #[v, .agg #[.int .i64 bar, .int .i64 kind]] w fun e w' => e = .returned (.int .i64 (placeOf bar kind xs)) ∧ Below w.heap.size w w' := by
  have bd := stDL_bd hs
  have hm := hv.le
  obtain ⟨a, c, rfl, hc1, hc2, HC⟩ := hv.parts
  clear hv
  go_enter Tryz.func47, Tryz.ntmps47
  go_wp2_with fail
  refine (l7Fault_c bar kind hs _).mono ?_
  rintro e w1 ⟨rfl, hb1⟩
  unfold faultV
  have hz1 : w.heap.size < w1.heap.size := by have := hb1.size; simp at this; omega
  go_wp2_with fail
  go_loopw [6, 7] (fun i q wr => ∃ k : Nat, k ≤ xs.length ∧ i = .int .i64 k ∧ Hid (∀ j x, j < k → xs[j]? = some x → finds bar kind x = false) ∧ Below w.heap.size w wr ∧
      wr.cell? ⟨w1.heap.size, 0, none⟩ = some (.int .i64 (stD bar kind)) ∧ wr.cell? ⟨w1.heap.size, 1, none⟩ = some (.int .i64 (stL bar kind))) (fun i _ _ => xs.length - (intOf i).toNat)
  case atStart => exact ⟨0, by omega, rfl, fun j x hj => by omega, by (repeat (first | exact Below.refl _ _ | exact (Below.refl _ _).drew | assumption | exact below_one _ | refine Below.chain ?_ (by assumption) | refine Below.drew ?_ | refine Below.alc ?_ _ | refine below_drewN ?_ | (refine Below.setCell ?_ ?_ _) | exact Nat.le_refl _ | (simp; done) | (simp; omega))), by rw [World.cell?_alloc_at _ _ _ _ rfl]; rfl, by rw [World.cell?_alloc_at _ _ _ _ rfl]; rfl⟩
  case round =>
    obtain ⟨k, hk, rfl, hbef, hb, g0, g1⟩ := hrel
    by_cases hlt : k < xs.length
    · obtain ⟨x, hx⟩ := elem_at hlt
      obtain ⟨b, off, rfl, h0⟩ := HC.out k x hx.out
      have hblt : b < w.heap.size := World.block_lt_of_cell? w _ h0
      have h1 : wr.cell? ⟨b, off + k, none⟩ = some (.int .i64 x) := ((bcell hb).1 _ _ hblt).trans h0
      have hxd := testB_digit ht hx.out
      have bdx := dg_bd x
      clear h0 hb1
      go_wp2_with fail
      refine (l2Digit_c x hxd.1 hxd.2 _).mono ?_
      rintro e w2 ⟨rfl, hb2⟩
      have g02 := cell_later hb2 g0
      have g12 := cell_later hb2 g1
      go_wp2_with fail
      refine (l3Shown_c _ _ _ bd.1 bd.2.1 bd.2.2.1 bd.2.2.2 bdx.1 bdx.2 _).mono ?_
      rintro e w3 ⟨rfl, hb3⟩
      have g03 := cell_later hb3 g02
      have g13 := cell_later hb3 g12
      clear g0 g1 g02 g12
      have hb4 : Below w.heap.size w w3 := by (repeat (first | exact Below.refl _ _ | exact (Below.refl _ _).drew | assumption | exact below_one _ | refine Below.chain ?_ (by assumption) | refine Below.drew ?_ | refine Below.alc ?_ _ | refine below_drewN ?_ | (refine Below.setCell ?_ ?_ _) | exact Nat.le_refl _ | (simp; done) | (simp; omega)))
      rcases hf : finds bar kind x with _ | _
      · have ht2 : (shC (stD bar kind) (stL bar kind) (dg x) != dg x) = false := hf
        have HP := Lib.hid hf; clear hf
        go_wp2
        go_roundw
        case rel => exact ⟨k + 1, by omega, by go_num, fun j y hj hy => by
          by_cases hj2 : j < k
          · exact hbef.out j y hj2 hy
          · obtain rfl : j = k := by omega
            rw [hx.out] at hy; obtain rfl := Option.some.inj hy; exact HP.out, hb4, g03, g13⟩
        case measure => simp [intOf]; omega
      · have ht2 : (shC (stD bar kind) (stL bar kind) (dg x) != dg x) = true := hf
        have HP := Lib.hid hf; clear hf
        go_wp2
        go_ret
        exact ⟨int_ret (firstAt_some hx.out HP.out hbef.out).symm, hb4⟩
    · go_wp2
      go_ret
      exact ⟨int_ret (firstAt_none (by omega) hbef.out).symm, hb⟩
theorem l1Most_c (a b : Int) (w : World) : Calls Tryz.prog 48 #[.int .i64 a, .int .i64 b] w fun e w' => e = .returned (.int .i64 (max a b)) ∧ w = w' := by
  by_cases h : b < a
  · go_enter Tryz.func48, Tryz.ntmps48
    go_wp2
    go_ret
    exact ⟨int_ret (by omega), rfl⟩
  · go_enter Tryz.func48, Tryz.ntmps48
    go_wp2
    go_ret
    exact ⟨int_ret (by omega), rfl⟩
theorem sFirstFinding_c (v : Value) (xs : List Int) (bar kind : Int) (w : World) (hv : Ints w v xs) :
    Calls Tryz.prog 11 #[v, .agg #[.int .i64 bar, .int .i64 kind]] w fun e w' => e = .returned (firstFindingV xs bar kind) ∧ Below w.heap.size w w' := by
  rcases ht : testB xs with _ | _
  · have HF0 : firstFindingV xs bar kind = .tuple #[.int .i64 0, .bool false] := by simp [firstFindingV, ffN, ffOk, ht]
    have HF := Lib.hid HF0; clear HF0; have HT := Lib.hid ht; clear ht
    go_enter Tryz.func11, Tryz.ntmps11
    go_wp2_with fail
    refine (l7Test_c v xs _ (hv.below (below_one _))).mono ?_
    rintro e w1 ⟨rfl, hb1⟩
    rw [HT.out]
    go_wp2
    go_ret2
    exact ⟨by rw [HF.out]; rfl, by (repeat (first | exact Below.refl _ _ | exact (Below.refl _ _).drew | assumption | exact below_one _ | refine Below.chain ?_ (by assumption) | refine Below.drew ?_ | refine Below.alc ?_ _ | refine below_drewN ?_ | (refine Below.setCell ?_ ?_ _) | exact Nat.le_refl _ | (simp; done) | (simp; omega)))⟩
  · rcases hs : stateB bar kind with _ | _
    · have HF0 : firstFindingV xs bar kind = .tuple #[.int .i64 0, .bool false] := by simp [firstFindingV, ffN, ffOk, hs]
      have HF := Lib.hid HF0; clear HF0; have HT := Lib.hid ht; have HS := Lib.hid hs; clear ht hs
      go_enter Tryz.func11, Tryz.ntmps11
      go_wp2_with fail
      refine (l7Test_c v xs _ (hv.below (below_one _))).mono ?_
      rintro e w1 ⟨rfl, hb1⟩
      rw [HT.out]
      obtain ⟨hc1, hf1⟩ := bcell hb1
      go_wp2_with fail
      refine (l7State_c bar kind _).mono ?_
      rintro e w2 ⟨rfl, hb2⟩
      rw [HS.out]
      go_wp2
      go_ret2
      exact ⟨by rw [HF.out]; rfl, by (repeat (first | exact Below.refl _ _ | exact (Below.refl _ _).drew | assumption | exact below_one _ | refine Below.chain ?_ (by assumption) | refine Below.drew ?_ | refine Below.alc ?_ _ | refine below_drewN ?_ | (refine Below.setCell ?_ ?_ _) | exact Nat.le_refl _ | (simp; done) | (simp; omega)))⟩
    · have HF0 : firstFindingV xs bar kind = .tuple #[.int .i64 (if 0 ≤ placeOf bar kind xs then placeOf bar kind xs else 0), .bool (decide (0 ≤ placeOf bar kind xs))] := by simp [firstFindingV, ffN, ffOk, hs, ht]
      have HF := Lib.hid HF0; clear HF0; have HT := Lib.hid ht; have HS := Lib.hid hs; clear ht hs
      go_enter Tryz.func11, Tryz.ntmps11
      go_wp2_with fail
      refine (l7Test_c v xs _ (hv.below (below_one _))).mono ?_
      rintro e w1 ⟨rfl, hb1⟩
      rw [HT.out]
      obtain ⟨hc1, hf1⟩ := bcell hb1
      go_wp2_with fail
      refine (l7State_c bar kind _).mono ?_
      rintro e w2 ⟨rfl, hb2⟩
      rw [HS.out]
      obtain ⟨hc2, hf2⟩ := bcell hb2
      have hz1 : w.heap.size < w1.heap.size := by have := hb1.size; simp at this; omega
      go_wp2_with fail
      refine (l7Place_c v xs bar kind _ (Ints.below (Ints.below (hv.below (below_one _)) hb1) hb2) HS.out HT.out).mono ?_
      rintro e w3 ⟨rfl, hb3⟩
      generalize placeOf bar kind xs = q at *
      go_wp2_with (go_at_call 48; refine (l1Most_c _ _ _).mono ?_; rintro e w' ⟨rfl, rfl⟩)
      go_ret2
      refine ⟨?_, by (repeat (first | exact Below.refl _ _ | exact (Below.refl _ _).drew | assumption | exact below_one _ | refine Below.chain ?_ (by assumption) | refine Below.drew ?_ | refine Below.alc ?_ _ | refine below_drewN ?_ | (refine Below.setCell ?_ ?_ _) | exact Nat.le_refl _ | (simp; done) | (simp; omega)))⟩
      rw [HF.out]
      have e1 : max q 0 = if 0 ≤ q then q else 0 := by split <;> omega
      rw [← e1]; rfl
end Go.Proofs.YtfbnmkpkihfocaaGreat
namespace Go.Proofs.YtfbnmkpkihfocaaGreat
open Go.RowKit
set_option linter.unusedVariables false
theorem range_below {w w' : World} {g o : Nat} {cs : List Value} (h : w.rangeAt g o cs) (hb : Below w.heap.size w w') : w'.rangeAt g o cs := fun j v hv => cell_later hb (h j v hv)
theorem there_below {w w' : World} {g o n : Nat} (h : w.there g o n) (hb : Below w.heap.size w w') : w'.there g o n := fun j hj => by
  obtain ⟨h1, h2⟩ := h j hj
  obtain ⟨u, hu⟩ := Option.isSome_iff_exists.1 h1
  have hlt := World.block_lt_of_cell? w _ hu
  exact ⟨by rw [cell_later hb hu]; rfl, by rw [hb.frozen (p := ⟨g, o + j, none⟩) hlt]; exact h2⟩
theorem there_new (w : World) (cs : Array Value) (t : TypeId) {n : Nat} (h : n ≤ cs.size) : (w.alloc (.cells cs t)).there w.heap.size 0 n := fun j hj => by
  rw [Nat.zero_add]
  refine ⟨?_, World.frozen?_alloc_new _ _ _ _⟩
  rw [World.cell?_alloc_at _ _ _ _ rfl, Array.getElem?_eq_getElem (by omega)]; rfl
theorem range_new (w : World) (cs : List Value) (t : TypeId) : (w.alloc (.cells cs.toArray t)).rangeAt w.heap.size 0 cs := fun j v hv => by
  rw [Nat.zero_add, World.cell?_alloc_at _ _ _ _ rfl]; simpa using hv
theorem there_sub {w : World} {g o n o' n' : Nat} (h : w.there g o n) (h1 : o ≤ o') (h2 : o' + n' ≤ o + n) : w.there g o' n' := fun j hj => by
  have := h (o' - o + j) (by omega)
  rwa [show o + (o' - o + j) = o' + j by omega] at this
theorem range_sub {w : World} {g o : Nat} {cs : List Value} (h : w.rangeAt g o cs) (p n : Nat) : w.rangeAt g (o + p) ((cs.drop p).take n) := fun j v hv => by
  rw [List.getElem?_take] at hv
  split at hv
  · rw [List.getElem?_drop] at hv
    have := h (p + j) v hv
    rwa [← Nat.add_assoc] at this
  · cases hv
theorem range_nil (w : World) (g o : Nat) : w.rangeAt g o [] := fun j v hv => by simp at hv
theorem range_append {w : World} {g o : Nat} {xs ys : List Value} (h1 : w.rangeAt g o xs) (h2 : w.rangeAt g (o + xs.length) ys) : w.rangeAt g o (xs ++ ys) := fun j v hv => by
  by_cases hj : j < xs.length
  · rw [List.getElem?_append_left hj] at hv; exact h1 j v hv
  · rw [List.getElem?_append_right (by omega)] at hv
    have := h2 _ v hv
    rwa [show o + xs.length + (j - xs.length) = o + j by omega] at this
theorem below_cells {w : World} : ∀ (vs : List Value) (a : World) (g o : Nat), Below w.heap.size w a → w.heap.size ≤ g → Below w.heap.size w (a.setCells g o vs)
  | [], _, _, _, h, _ => h
  | v :: r, a, g, o, h, hg => by rw [World.setCells]; exact below_cells r _ g (o + 1) (h.setCell hg v) hg
theorem range_grow {w : World} {g : Nat} {xs ys : List Value} (h : w.rangeAt g 0 xs) (ht : w.there g xs.length ys.length) : (w.setCells g xs.length ys).rangeAt g 0 (xs ++ ys) :=
  range_append (World.rangeAt_setCells_apart h _ _ _ (.inr (.inl (by omega)))) (by rw [Nat.zero_add]; exact World.rangeAt_setCells_same _ _ _ _ ht)
theorem wpList_load_want {P : Program} {ops : Array Oper} {rest : List Oper} {op : Oper} {a : Act} {w : World} {Q : Exit → Act → World → Prop} (hw : Region.wanted op (yielded ops a.tmps) = true) (ty : TypeId) (x : Operand) (ho : op.op = .load ty x)
    (b o : Nat) (hx : a.eval x = .pointer (some ⟨b, o, none⟩)) (cs : List Value) (d : TypeDesc) (hc : w.rangeAt b o cs)
    (hu : P.underlying ty = some d) (hd : d.isRow = true) (hi : (P.info? ty).map (·.size) = some cs.length)
    (h : wpList P ops Q rest (a.put op.dst (.agg cs.toArray)) w) : wpList P ops Q (op :: rest) a w :=
  BigFrame.wpList_want hw fun _ hK => wp_load_mid ty x ho b o hx cs d hc hu hd hi (hK _ _ h)
theorem wpList_store_want {P : Program} {ops : Array Oper} {rest : List Oper} {op : Oper} {a : Act} {w : World} {Q : Exit → Act → World → Prop} (hw : Region.wanted op (yielded ops a.tmps) = true) (ty : TypeId) (x y : Operand) (ho : op.op = .store ty x y)
    (b o : Nat) (cs : List Value) (hx : a.eval x = .pointer (some ⟨b, o, none⟩)) (hy : a.eval y = .agg cs.toArray)
    (ht : w.there b o cs.length) (hi : (P.info? ty).map (·.size) = some cs.length) (h1 : ∀ v ∈ cs, v.oneCell' = true)
    (h : wpList P ops Q rest (a.put op.dst undef) (w.setCells b o cs)) : wpList P ops Q (op :: rest) a w :=
  BigFrame.wpList_want hw fun _ hK => wp_store_mid ty x y ho b o cs.toArray hx hy (by simpa using ht) (by simpa using hi) (all_oneCell_toArray h1) (hK _ _ (by simpa using h))
/-- the results of a function whose result lies in memory -/
theorem res_cell {P : Program} {fn : Func} {r : Nat} {t : TypeId} {tmps : Array Value} {w : World} {g : Nat} {v : Value} (h : fn.results = #[.cell r t]) (hr : tmps.getD r undef = .pointer (some ⟨g, 0, none⟩)) (hl : (loadVar t ⟨g, 0, none⟩).run P w = .ok v w) :
    (results fn tmps).run P w = .ok v w := by
  unfold results
  rw [h]
  simp only [List.mapM_toArray, List.mapM_cons, List.mapM_nil, Sem.run_bind, Sem.run_pure, Sem.run_map, Result.andThen_ok, hr, asAddr, hl]
  rfl
theorem res_cell2 {P : Program} {fn : Func} {r k : Nat} {t : TypeId} {tmps : Array Value} {w : World} {g : Nat} {v : Value} (h : fn.results = #[.cell r t, .tmp k]) (hr : tmps.getD r undef = .pointer (some ⟨g, 0, none⟩)) (hl : (loadVar t ⟨g, 0, none⟩).run P w = .ok v w) :
    (results fn tmps).run P w = .ok (.tuple #[v, tmps.getD k undef]) w := by
  unfold results
  rw [h]
  simp only [List.mapM_toArray, List.mapM_cons, List.mapM_nil, Sem.run_bind, Sem.run_pure, Sem.run_map, Result.andThen_ok, hr, asAddr, hl]
  rfl
end Go.Proofs.YtfbnmkpkihfocaaGreat
namespace Go.Proofs.YtfbnmkpkihfocaaGreat
open Go.RowKit
set_option linter.unusedVariables false
theorem firstAt_not_allP {xs : List (Int × Int)} {p : Int × Int → Bool} : (decide (0 ≤ firstAt (fun x => !p x) xs)) = !(xs.all p) := by
  unfold firstAt
  cases h : xs.findIdx? (fun x => !p x) with
  | none => rw [List.findIdx?_eq_none_iff] at h; simp; exact fun a b hx => by simpa using h (a, b) hx
  | some i =>
    rw [List.findIdx?_eq_some_iff_getElem] at h; obtain ⟨hl, h1, _⟩ := h
    simp; exact ⟨xs[i].1, xs[i].2, List.getElem_mem hl, by simpa using h1⟩
end Go.Proofs.YtfbnmkpkihfocaaGreat
namespace Go.Proofs.YtfbnmkpkihfocaaGreat
open Go.RowKit
set_option linter.unusedVariables false
def rowB (xs : List Int) : Bool := decide (xs.length ≤ 6) && xs.all cellB
theorem rowB_le {xs : List Int} (h : rowB xs = true) : xs.length ≤ 6 := by simp [rowB] at h; exact h.1
theorem rowB_cell {xs : List Int} (h : rowB xs = true) {k : Nat} {x : Int} (hx : xs[k]? = some x) : 0 ≤ x ∧ x ≤ 127 := by
  simp only [rowB, Bool.and_eq_true, List.all_eq_true] at h
  exact cellB_true (h.2 x (List.mem_of_getElem? hx))
def fB (f : Int × Int) : Bool := faultB f.1 f.2
def areB (fs : List (Int × Int)) (r : List Int) : Bool := rowB r && (decide (fs.length = r.length) && fs.all fB)
theorem areB_fault {fs : List (Int × Int)} {r : List Int} (h : areB fs r = true) {k : Nat} {f : Int × Int} (hf : fs[k]? = some f) : 0 ≤ f.1 ∧ f.1 ≤ 127 ∧ 0 ≤ f.2 ∧ f.2 ≤ 127 := by
  simp only [areB, Bool.and_eq_true, List.all_eq_true] at h
  have := faultB_true (h.2.2 f (List.mem_of_getElem? hf))
  exact ⟨this.1, this.2.1, this.2.2.1, this.2.2.2.1⟩
theorem areB_row {fs : List (Int × Int)} {r : List Int} (h : areB fs r = true) : rowB r = true := by
  simp only [areB, Bool.and_eq_true] at h; exact h.1
theorem areB_len {fs : List (Int × Int)} {r : List Int} (h : areB fs r = true) : fs.length = r.length := by
  simp only [areB, Bool.and_eq_true, decide_eq_true_eq] at h; exact h.2.1
end Go.Proofs.YtfbnmkpkihfocaaGreat
namespace Go.Proofs.YtfbnmkpkihfocaaGreat
open Go.RowKit
set_option linter.unusedVariables false
set_option maxRecDepth 100000
theorem info_Fault : (Tryz.prog.info? 44).map (fun i => (i.zero, i.size, i.bytes)) = some (some (.agg #[.int .i64 0, .int .i64 0]), 2, 16) := by kernel_rfl
theorem flat2_rep (n : Nat) : flat2 (List.replicate n (0, 0)) = List.replicate (n * 2) (.int .i64 0) := by
  induction n with
  | zero => rfl
  | succ n ih =>
    rw [List.replicate_succ, show (n + 1) * 2 = n * 2 + 1 + 1 by omega, List.replicate_succ, List.replicate_succ, ← ih]; rfl
theorem made_two (x : Value) (n : Nat) : (madeCells #[x, x] n).toList = List.replicate n x := by
  unfold madeCells
  rw [Array.toList_map, Array.toList_range]
  apply List.ext_getElem (by simp)
  intro i h1 h2
  simp only [List.getElem_map, List.getElem_range, List.getElem_replicate]
  have h : i % (#[x, x] : Array Value).size = 0 ∨ i % (#[x, x] : Array Value).size = 1 := by
    have : (#[x, x] : Array Value).size = 2 := rfl
    rw [this]; omega
  rcases h with h | h <;> rw [h] <;> rfl
theorem set_pair {fs : List (Int × Int)} {k n : Nat} (hk : k < n) {a b : Int} {w : World} {lo g cap : Nat} {e : TypeId}
    (ho : w.ownsRow lo e 2 (.slice (some ⟨g, 0, none⟩) n cap) n (flat2 (fs ++ List.replicate (n - k) (0, 0)))) (hf : fs.length = k) :
    (w.cell? ⟨g, k * 2, none⟩ = some (.int .i64 0)) ∧ ((w.setCell ⟨g, k * 2, none⟩ (.int .i64 a)).cell? ⟨g, k * 2 + 1, none⟩ = some (.int .i64 0)) ∧ w.cell? ⟨g, k * 2 + 1, none⟩ = some (.int .i64 0) ∧ w.frozen? ⟨g, k * 2, none⟩ = false ∧ (w.setCell ⟨g, k * 2, none⟩ (.int .i64 a)).frozen? ⟨g, k * 2 + 1, none⟩ = false ∧ w.frozen? ⟨g, k * 2 + 1, none⟩ = false ∧
      ((w.setCell ⟨g, k * 2, none⟩ (.int .i64 a)).setCell ⟨g, k * 2 + 1, none⟩ (.int .i64 b)).ownsRow lo e 2 (.slice (some ⟨g, 0, none⟩) n cap) n (flat2 ((fs ++ [(a, b)]) ++ List.replicate (n - (k + 1)) (0, 0))) := by
  have h1 := ho.stored (k * 2) (.int .i64 a)
  have h2 := h1.1.stored (k * 2 + 1) (.int .i64 b)
  have hp : (fs ++ List.replicate (n - k) ((0 : Int), (0 : Int)))[k]? = some (0, 0) := by
    rw [List.getElem?_append_right (by omega), hf, Nat.sub_self, List.getElem?_replicate, if_pos (by omega)]
  have hc := flat2_at hp
  refine ⟨(ho.cellAt _ (by omega)).trans hc.1, ?_, (ho.cellAt _ (by omega)).trans hc.2, ho.frozenAt _, h1.1.frozenAt _, ho.frozenAt _, ?_⟩
  · rw [h1.1.cellAt _ (by omega), List.getElem?_set_ne (by omega)]; exact hc.2
  · have e2 : ((flat2 (fs ++ List.replicate (n - k) (0, 0))).set (k * 2) (.int .i64 a)).set (k * 2 + 1) (.int .i64 b) = flat2 ((fs ++ [(a, b)]) ++ List.replicate (n - (k + 1)) (0, 0)) := by
      rw [show n - k = (n - (k + 1)) + 1 by omega, List.replicate_succ, flat2_append, flat2_append, flat2_snoc]
      have e3 : flat2 (((0 : Int), (0 : Int)) :: List.replicate (n - (k + 1)) (0, 0)) = .int .i64 0 :: .int .i64 0 :: flat2 (List.replicate (n - (k + 1)) (0, 0)) := rfl
      rw [e3, set_two _ _ _ _ _ _ (by rw [flat2_length, hf])]; simp
    rw [← e2]; exact h2.1
end Go.Proofs.YtfbnmkpkihfocaaGreat
namespace Go.Proofs.YtfbnmkpkihfocaaGreat
open Go.RowKit
set_option linter.unusedVariables false
set_option maxRecDepth 100000
def tenI : List Int := [0, 1, 2, 3, 4, 5, 6, 7, 8, 9]
theorem tenI_fin : ∀ k : Fin 10, tenI[k.1]? = some (k.1 : Int) := by decide
theorem tenI_at {k : Nat} (h : k < 10) : tenI[k]? = some (k : Int) := tenI_fin ⟨k, h⟩
/-- those of the first n digits that show a cell under a fault -/
def digTo (d l c : Int) (n : Nat) : List Int := (tenI.take n).filter fun x => shC d l (dg x) == c
def digL (d l c : Int) : List Int := tenI.filter fun x => shC d l (dg x) == c
theorem digTo_all (d l c : Int) : digTo d l c 10 = digL d l c := rfl
theorem digTo_le (d l c : Int) (n : Nat) : (digTo d l c n).length ≤ 10 := Nat.le_trans (List.length_filter_le _ _) (by rw [List.length_take]; simp [tenI]; omega)
theorem digL_le (d l c : Int) : (digL d l c).length ≤ 10 := Nat.le_trans (List.length_filter_le _ _) (by simp [tenI])
theorem digTo_succ (d l c : Int) {n : Nat} (h : n < 10) : digTo d l c (n + 1) = digTo d l c n ++ if shC d l (dg n) == c then [(n : Int)] else [] := by
  unfold digTo
  rw [take_snoc (tenI_at h), List.filter_append]
  cases hq : (shC d l (dg n) == c) <;> simp [hq]
theorem ints_snoc (xs : List Int) (x : Int) : (xs ++ [x]).map (Value.int .i64) = xs.map (Value.int .i64) ++ [.int .i64 x] := by simp


end Go.Proofs.YtfbnmkpkihfocaaGreat
namespace Go.Proofs.YtfbnmkpkihfocaaGreat
open Go.RowKit
set_option linter.unusedVariables false
set_option maxRecDepth 100000
abbrev ints (xs : List Int) : List Value := xs.map (Value.int .i64)
/-- slices of ints of the call's own, one beside the other, none over another's array -/
def Inn (w : World) (lo : Nat) (vs : List Value) (xss : List (List Int)) : Prop :=
  vs.length = xss.length ∧ (∀ (k : Nat) (v : Value) (xs : List Int), vs[k]? = some v → xss[k]? = some xs → w.ownsRow lo 3 1 v xs.length (ints xs)) ∧
  (∀ (i j : Nat) (a b : Value), i < j → vs[i]? = some a → vs[j]? = some b → b.ownBlock = none ∨ b.ownBlock ≠ a.ownBlock)
/-- a slice of such slices -/
def OwnSS (w : World) (lo : Nat) (u : Value) (xss : List (List Int)) : Prop :=
  ∃ vs, w.ownsRow lo 24 1 u xss.length vs ∧ Inn w lo vs xss
theorem own_ne_type {w : World} {lo lo' size size' n n' : Nat} {e e' : TypeId} {v v' : Value} {xs xs' : List Value} (h : w.ownsRow lo e size v n xs) (h' : w.ownsRow lo' e' size' v' n' xs') (hne : e ≠ e') : v.ownBlock = none ∨ v.ownBlock ≠ v'.ownBlock := by
  rcases h.2 with ⟨rfl, _⟩ | ⟨g, c, cur, rfl, _, hg, _⟩
  · exact .inl rfl
  · rcases h'.2 with ⟨rfl, _⟩ | ⟨g', c', cur', rfl, _, hg', _⟩
    · right; simp [Value.ownBlock]
    · right
      intro e0
      simp [Value.ownBlock] at e0
      subst e0
      rw [hg] at hg'
      injection hg' with h1; injection h1 with _ h2; exact hne h2
theorem Inn.nil_ (w : World) (lo : Nat) : Inn w lo [] [] := ⟨rfl, fun k v xs h => by simp at h, fun i j a b _ h => by simp at h⟩
theorem Inn.keep {w w' : World} {lo : Nat} {vs : List Value} {xss : List (List Int)} (h : Inn w lo vs xss) (hb : Below w.heap.size w w') : Inn w' lo vs xss :=
  ⟨h.1, fun k v xs h1 h2 => own_keep (h.2.1 k v xs h1 h2) hb, h.2.2⟩
/-- kept while another row (of another type of element) is written -/
theorem Inn.grown {w w' : World} {lo lo' size n : Nat} {e : TypeId} {u : Value} {us : List Value} {vs : List Value} {xss : List (List Int)} (h : Inn w lo vs xss) (ho : w.ownsRow lo' e size u n us) (hne : (3 : Nat) ≠ e) (hg : w.grownBy w' u.ownBlock) : Inn w' lo vs xss :=
  ⟨h.1, fun k v xs h1 h2 => (h.2.1 k v xs h1 h2).kept hg (own_ne_type (h.2.1 k v xs h1 h2) ho hne), h.2.2⟩
theorem Inn.snoc {w : World} {lo lo2 : Nat} {vs : List Value} {xss : List (List Int)} {v : Value} {xs : List Int} (h : Inn w lo vs xss) (hv : w.ownsRow lo2 3 1 v xs.length (ints xs)) (hl : lo ≤ lo2)
    (hnew : ∀ (k : Nat) (a : Value), vs[k]? = some a → ∀ g, a.ownBlock = some g → g < lo2) : Inn w lo (vs ++ [v]) (xss ++ [xs]) := by
  refine ⟨by simp [h.1], fun k a ys h1 h2 => ?_, fun i j a b hij h1 h2 => ?_⟩
  · by_cases hk : k < vs.length
    · rw [List.getElem?_append_left hk] at h1
      rw [List.getElem?_append_left (by rw [← h.1]; exact hk)] at h2
      exact h.2.1 k a ys h1 h2
    · rw [List.getElem?_append_right (by omega)] at h1
      rw [List.getElem?_append_right (by rw [← h.1]; omega)] at h2
      have hk0 : k - vs.length = 0 := by
        by_cases hz : k - vs.length = 0
        · exact hz
        · rw [List.getElem?_eq_none (by simp; omega)] at h1; cases h1
      have hk1 : k - xss.length = 0 := by rw [← h.1]; exact hk0
      rw [hk0] at h1; rw [hk1] at h2
      simp at h1 h2
      subst h1 h2
      exact own_lo hv hl
  · by_cases hj : j < vs.length
    · rw [List.getElem?_append_left (by omega)] at h1
      rw [List.getElem?_append_left hj] at h2
      exact h.2.2 i j a b hij h1 h2
    · rw [List.getElem?_append_right (by omega)] at h2
      have hj0 : j - vs.length = 0 := by
        by_cases hz : j - vs.length = 0
        · exact hz
        · rw [List.getElem?_eq_none (by simp; omega)] at h2; cases h2
      rw [hj0] at h2; simp at h2; subst h2
      rw [List.getElem?_append_left (by omega)] at h1
      cases hb : v.ownBlock with
      | none => exact .inl rfl
      | some g =>
        right; intro e
        have h3 := (hv.lt g hb).1
        have h4 := hnew i a h1 g e.symm
        omega
theorem Inn.lt {w : World} {lo : Nat} {vs : List Value} {xss : List (List Int)} (h : Inn w lo vs xss) : ∀ (k : Nat) (a : Value), vs[k]? = some a → ∀ g, a.ownBlock = some g → g < w.heap.size := by
  intro k a ha g hg
  have hk : k < xss.length := by rw [← h.1]; exact (List.getElem?_eq_some_iff.1 ha).1
  exact ((h.2.1 k a _ ha (List.getElem?_eq_getElem hk)).lt g hg).2

/-! the groups -/
def grpOf (d l x : Int) : List Int := digL d l (shC d l (dg x))
def isHead (d l x : Int) : Bool := (grpOf d l x).headD (-1) == x
def grpTo (d l : Int) (n : Nat) : List (List Int) := ((tenI.take n).filter (isHead d l)).map (grpOf d l)
def grpL (d l : Int) : List (List Int) := grpTo d l 10
theorem grpTo_le (d l : Int) (n : Nat) : (grpTo d l n).length ≤ 10 := by
  unfold grpTo
  rw [List.length_map]
  exact Nat.le_trans (List.length_filter_le _ _) (by rw [List.length_take]; simp [tenI]; omega)
theorem grpTo_succ (d l : Int) {n : Nat} (h : n < 10) : grpTo d l (n + 1) = grpTo d l n ++ if isHead d l n then [grpOf d l n] else [] := by
  unfold grpTo
  rw [take_snoc (tenI_at h), List.filter_append, List.map_append]
  cases hq : isHead d l n <;> simp [hq]
theorem grpOf_head {d l : Int} {n : Nat} (h : n < 10) : (grpOf d l n)[0]? = some ((grpOf d l n).headD (-1)) := by
  have hm : (n : Int) ∈ grpOf d l n := by
    unfold grpOf digL
    rw [List.mem_filter]
    exact ⟨List.mem_of_getElem? (tenI_at h), by simp⟩
  cases hg : grpOf d l n with
  | nil => rw [hg] at hm; simp at hm
  | cons a t => simp
theorem ownss_snoc (xs : List Value) (v : Value) : xs ++ [v] = xs ++ [v] := rfl
theorem info_ints : (Tryz.prog.info? 24).map (fun i => (i.zero, i.size, i.bytes)) = some (some (.slice none 0 0), 1, 24) := by kernel_rfl
end Go.Proofs.YtfbnmkpkihfocaaGreat
namespace Go.Proofs.YtfbnmkpkihfocaaGreat
open Go.RowKit
set_option linter.unusedVariables false
set_option maxRecDepth 100000
/-- a value of so many ints -/
def aggI (b : List Int) : Value := .agg (ints b).toArray
def bg (b : List Int) (j : Nat) : Int := b.getD j 0
/-- the dark bars and the lit ones of a place -/
def bF (b : List Int) (k : Nat) : Int × Int := (bg b (6 + k), bg b (12 + k))
theorem ints_get {b : List Int} {j : Nat} (h : j < b.length) : (ints b).toArray[j]? = some (.int .i64 (bg b j)) := by
  simp [ints, h, bg]
/-- the cells of a Bench's box, behind whatever was made behind it -/
theorem bench_cell {w w1 : World} {b : List Int} {t : TypeId} (hb : Below (w.alloc (.cells (ints b).toArray t)).heap.size (w.alloc (.cells (ints b).toArray t)) w1) {j : Nat} (h : j < b.length) :
    w1.cell? ⟨w.heap.size, j, none⟩ = some (.int .i64 (bg b j)) := (box_after hb).1 j _ (ints_get h)
theorem bench_range {w w1 : World} {b : List Int} {t : TypeId} (hb : Below (w.alloc (.cells (ints b).toArray t)).heap.size (w.alloc (.cells (ints b).toArray t)) w1) :
    w1.rangeAt w.heap.size 0 (ints b) := fun j v h => by rw [Nat.zero_add]; exact (box_after hb).1 j v (by simpa using h)
theorem ints_one {b : List Int} : ∀ v ∈ ints b, v.oneCell' = true := fun v hv => by
  simp only [ints, List.mem_map] at hv
  obtain ⟨x, _, rfl⟩ := hv
  rfl
def fsB (b : List Int) : List (Int × Int) := (List.range 6).map (bF b)
def goodAt (b : List Int) (k : Nat) : Bool := cellB (bg b k) && fB (bF b k)
def goodTo (b : List Int) (n : Nat) : Bool := (List.range n).all (goodAt b)
def goodB (b : List Int) : Bool := goodTo b 6 && inB (bg b 18) 0 1000
theorem goodTo_succ (b : List Int) (n : Nat) : goodTo b (n + 1) = (goodTo b n && goodAt b n) := by
  unfold goodTo; rw [List.range_succ, List.all_append]; simp
theorem goodTo_bad {b : List Int} {k n : Nat} (hk : k < n) (h : goodAt b k = false) : goodTo b n = false := by
  unfold goodTo
  rw [Bool.eq_false_iff]; intro h2
  rw [List.all_eq_true] at h2
  rw [h2 k (List.mem_range.2 hk)] at h; cases h
theorem take_range {b : List Int} {n : Nat} (h : n ≤ b.length) : b.take n = (List.range n).map (bg b) := by
  apply List.ext_getElem?
  intro i
  rw [List.getElem?_take, List.getElem?_map]
  by_cases hi : i < n
  · rw [if_pos hi, List.getElem?_range hi, List.getElem?_eq_getElem (by omega)]
    simp [bg, show i < b.length by omega]
  · rw [if_neg hi, List.getElem?_eq_none (by simp; omega)]; rfl
theorem goodB_eq {b : List Int} (hb : b.length = 19) : goodB b = ((rowB (b.take 6) && (fsB b).all fB) && inB (bg b 18) 0 1000) := by
  unfold goodB goodTo rowB fsB
  congr 1
  rw [take_range (by omega), decide_eq_true (by simp), Bool.true_and, List.all_map, List.all_map, Bool.eq_iff_iff]
  simp only [Bool.and_eq_true, List.all_eq_true, goodAt, Function.comp]
  exact ⟨fun h => ⟨fun x hx => (h x hx).1, fun x hx => (h x hx).2⟩, fun h x hx => ⟨h.1 x hx, h.2 x hx⟩⟩
def fsTo (b : List Int) (n : Nat) : List (Int × Int) := (List.range n).map (bF b)
theorem fsTo_succ (b : List Int) (n : Nat) : fsTo b (n + 1) = fsTo b n ++ [bF b n] := by unfold fsTo; rw [List.range_succ, List.map_append]; rfl
theorem fsTo_len (b : List Int) (n : Nat) : (fsTo b n).length = n := by simp [fsTo]
theorem ints_box {w w1 : World} {b : List Int} {t : TypeId} (hb : Below (w.alloc (.cells (ints b).toArray t)).heap.size (w.alloc (.cells (ints b).toArray t)) w1) {n : Nat} (h : n ≤ b.length) (hm : b.length ≤ 1000) (c : Nat) (hc : n ≤ c) (hcm : c ≤ 1000) :
    Ints w1 (.slice (some ⟨w.heap.size, 0, none⟩) n c) (b.take n) := by
  have hl : (b.take n).length = n := by rw [List.length_take]; omega
  refine ⟨_, _, by rw [hl], by rw [hl]; exact hc, by unfold maxLen; omega, by simp, fun _ => ⟨_, _, rfl, fun j hj => ?_⟩⟩
  rw [hl] at hj
  rw [Nat.zero_add, bench_cell hb (by omega), List.getElem?_map, List.getElem?_take, if_pos (by omega), List.getElem?_eq_getElem (by omega)]
  simp [bg, show j < b.length by omega]
end Go.Proofs.YtfbnmkpkihfocaaGreat
