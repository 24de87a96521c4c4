/- Walks of the functions on cells and faults that the laws on what is shown call: CellOf, ShownCell, TurnCell, DigitsShown, CountImages, IsHarmless. -/
import Derived.Test.YtlipkplomndjcaaTold
import Derived.Test.YtlipkplomndjcaaBk
import Derived.Test.YtlipkplomndjcaaBox
import Derived.Test.YtlipkplomndjcaaJob1
namespace Go.Proofs.Ytlipkplomndjcaa
open Go.RowKit
set_option linter.unusedVariables false
set_option linter.unusedSimpArgs false
set_option maxRecDepth 100000
def coV (d : Int) : Value := .tuple #[.int .i64 (if digitB d then dg d else 0), .bool (digitB d)]
theorem CellOf_c (d : Int) (w : World) : Calls Try.prog 20 #[.int .i64 d] w fun e w' => e = .returned (coV d) ∧ Below w.heap.size w w' := by
  rcases hq : digitB d with _ | _
  · have HF := Lib.hid (show coV d = .tuple #[.int .i64 0, .bool false] by simp [coV, hq])
    have HQ := Lib.hid hq; clear hq
    go_enter Try.func20, Try.ntmps20
    go_wp2_with fail
    refine (isDigit_c d _).mono ?_
    rintro e w1 ⟨rfl, rfl⟩
    rw [HQ.out]
    go_wp2
    go_ret2
    exact ⟨by rw [HF.out]; rfl, by (repeat (first | exact Below.refl _ _ | exact (Below.refl _ _).drew | assumption | exact below_one _ | refine Below.chain ?_ (by assumption) | refine Below.drew ?_ | refine Below.alc ?_ _ | refine below_drewN ?_ | (refine Below.setCell ?_ ?_ _) | exact Nat.le_refl _ | (simp; done) | (simp; omega)))⟩
  · have HF := Lib.hid (show coV d = .tuple #[.int .i64 (dg d), .bool true] by simp [coV, hq])
    have hd := digitB_true hq
    have h0 := hd.1; have h1 := hd.2
    have hix := fun w => index_dig d h0 h1 w
    have HQ := Lib.hid hq; clear hq
    go_enter Try.func20, Try.ntmps20
    go_wp2_with fail
    refine (isDigit_c d _).mono ?_
    rintro e w1 ⟨rfl, rfl⟩
    rw [HQ.out]
    go_wp2_with fail
    refine (digitCells_c _).mono ?_
    rintro e w2 ⟨rfl, hb2⟩
    go_wp2
    go_ret2
    exact ⟨by rw [HF.out]; rfl, by (repeat (first | exact Below.refl _ _ | exact (Below.refl _ _).drew | assumption | exact below_one _ | refine Below.chain ?_ (by assumption) | refine Below.drew ?_ | refine Below.alc ?_ _ | refine below_drewN ?_ | (refine Below.setCell ?_ ?_ _) | exact Nat.le_refl _ | (simp; done) | (simp; omega)))⟩
def scOk (d l c : Int) : Bool := faultB d l && cellB c
def scV (d l c : Int) : Value := .tuple #[.int .i64 (if scOk d l c then shC d l c else 0), .bool (scOk d l c)]
theorem ShownCell_c (d l c : Int) (w : World) : Calls Try.prog 21 #[.agg #[.int .i64 d, .int .i64 l], .int .i64 c] w fun e w' => e = .returned (scV d l c) ∧ Below w.heap.size w w' := by
  rcases hq : faultB d l with _ | _
  · have HF := Lib.hid (show scV d l c = .tuple #[.int .i64 0, .bool false] by simp [scV, scOk, hq])
    have HQ := Lib.hid hq; clear hq
    go_enter Try.func21, Try.ntmps21
    go_wp2_with fail
    refine (IsFault_c d l _).mono ?_
    rintro e w1 ⟨rfl, hb1⟩
    rw [HQ.out]
    have q0 := (box_after hb1).1 0 _ rfl
    have q1 := (box_after hb1).1 1 _ rfl
    have hb2 := Below.chain (below_one _) hb1
    clear hb1
    go_wp2
    go_ret2
    exact ⟨by rw [HF.out]; rfl, by (repeat (first | exact Below.refl _ _ | exact (Below.refl _ _).drew | assumption | exact below_one _ | refine Below.chain ?_ (by assumption) | refine Below.drew ?_ | refine Below.alc ?_ _ | refine below_drewN ?_ | (refine Below.setCell ?_ ?_ _) | exact Nat.le_refl _ | (simp; done) | (simp; omega)))⟩
  · rcases hc : cellB c with _ | _
    · have HF := Lib.hid (show scV d l c = .tuple #[.int .i64 0, .bool false] by simp [scV, scOk, hc])
      have HQ := Lib.hid hq; clear hq
      have HC := Lib.hid hc; clear hc
      go_enter Try.func21, Try.ntmps21
      go_wp2_with fail
      refine (IsFault_c d l _).mono ?_
      rintro e w1 ⟨rfl, hb1⟩
      rw [HQ.out]
      have q0 := (box_after hb1).1 0 _ rfl
      have q1 := (box_after hb1).1 1 _ rfl
      have hb2 := Below.chain (below_one _) hb1
      clear hb1
      go_wp2_with fail
      refine (IsCell_c c _).mono ?_
      rintro e w1 ⟨rfl, rfl⟩
      rw [HC.out]
      go_wp2
      go_ret2
      exact ⟨by rw [HF.out]; rfl, by (repeat (first | exact Below.refl _ _ | exact (Below.refl _ _).drew | assumption | exact below_one _ | refine Below.chain ?_ (by assumption) | refine Below.drew ?_ | refine Below.alc ?_ _ | refine below_drewN ?_ | (refine Below.setCell ?_ ?_ _) | exact Nat.le_refl _ | (simp; done) | (simp; omega)))⟩
    · have HF := Lib.hid (show scV d l c = .tuple #[.int .i64 (shC d l c), .bool true] by simp [scV, scOk, hc, hq])
      have bd := faultB_true hq
      have bc := cellB_true hc
      have HQ := Lib.hid hq; clear hq
      have HC := Lib.hid hc; clear hc
      go_enter Try.func21, Try.ntmps21
      go_wp2_with fail
      refine (IsFault_c d l _).mono ?_
      rintro e w1 ⟨rfl, hb1⟩
      rw [HQ.out]
      have q0 := (box_after hb1).1 0 _ rfl
      have q1 := (box_after hb1).1 1 _ rfl
      have hb2 := Below.chain (below_one _) hb1
      clear hb1
      go_wp2_with fail
      refine (IsCell_c c _).mono ?_
      rintro e w1 ⟨rfl, rfl⟩
      rw [HC.out]
      go_wp2_with fail
      refine (shown_c d l c bd.1 bd.2.1 bd.2.2.1 bd.2.2.2.1 bc.1 bc.2 _).mono ?_
      rintro e w3 ⟨rfl, hb3⟩
      have hb4 := Below.chain hb2 hb3
      go_wp2
      go_ret2
      exact ⟨by rw [HF.out]; rfl, by (repeat (first | exact Below.refl _ _ | exact (Below.refl _ _).drew | assumption | exact below_one _ | refine Below.chain ?_ (by assumption) | refine Below.drew ?_ | refine Below.alc ?_ _ | refine below_drewN ?_ | (refine Below.setCell ?_ ?_ _) | exact Nat.le_refl _ | (simp; done) | (simp; omega)))⟩
theorem sShownCell_c (d l c : Int) (w : World) : Calls Try.prog 24 #[.agg #[.int .i64 d, .int .i64 l], .int .i64 c] w fun e w' => e = .returned (scV d l c) ∧ Below w.heap.size w w' := by
  rcases hq : faultB d l with _ | _
  · have HF := Lib.hid (show scV d l c = .tuple #[.int .i64 0, .bool false] by simp [scV, scOk, hq])
    have HQ := Lib.hid hq; clear hq
    go_enter Try.func24, Try.ntmps24
    go_wp2_with fail
    refine (l3Fault_c d l _).mono ?_
    rintro e w1 ⟨rfl, hb1⟩
    rw [HQ.out]
    have q0 := (box_after hb1).1 0 _ rfl
    have q1 := (box_after hb1).1 1 _ rfl
    have hb2 := Below.chain (below_one _) hb1
    clear hb1
    go_wp2
    go_ret2
    exact ⟨by rw [HF.out]; rfl, by (repeat (first | exact Below.refl _ _ | exact (Below.refl _ _).drew | assumption | exact below_one _ | refine Below.chain ?_ (by assumption) | refine Below.drew ?_ | refine Below.alc ?_ _ | refine below_drewN ?_ | (refine Below.setCell ?_ ?_ _) | exact Nat.le_refl _ | (simp; done) | (simp; omega)))⟩
  · rcases hc : cellB c with _ | _
    · have HF := Lib.hid (show scV d l c = .tuple #[.int .i64 0, .bool false] by simp [scV, scOk, hc])
      have HQ := Lib.hid hq; clear hq
      have HC := Lib.hid hc; clear hc
      go_enter Try.func24, Try.ntmps24
      go_wp2_with fail
      refine (l3Fault_c d l _).mono ?_
      rintro e w1 ⟨rfl, hb1⟩
      rw [HQ.out]
      have q0 := (box_after hb1).1 0 _ rfl
      have q1 := (box_after hb1).1 1 _ rfl
      have hb2 := Below.chain (below_one _) hb1
      clear hb1
      go_wp2_with fail
      refine (l2Cell_c c _).mono ?_
      rintro e w1 ⟨rfl, rfl⟩
      rw [HC.out]
      go_wp2
      go_ret2
      exact ⟨by rw [HF.out]; rfl, by (repeat (first | exact Below.refl _ _ | exact (Below.refl _ _).drew | assumption | exact below_one _ | refine Below.chain ?_ (by assumption) | refine Below.drew ?_ | refine Below.alc ?_ _ | refine below_drewN ?_ | (refine Below.setCell ?_ ?_ _) | exact Nat.le_refl _ | (simp; done) | (simp; omega)))⟩
    · have HF := Lib.hid (show scV d l c = .tuple #[.int .i64 (shC d l c), .bool true] by simp [scV, scOk, hc, hq])
      have bd := faultB_true hq
      have bc := cellB_true hc
      have HQ := Lib.hid hq; clear hq
      have HC := Lib.hid hc; clear hc
      go_enter Try.func24, Try.ntmps24
      go_wp2_with fail
      refine (l3Fault_c d l _).mono ?_
      rintro e w1 ⟨rfl, hb1⟩
      rw [HQ.out]
      have q0 := (box_after hb1).1 0 _ rfl
      have q1 := (box_after hb1).1 1 _ rfl
      have hb2 := Below.chain (below_one _) hb1
      clear hb1
      go_wp2_with fail
      refine (l2Cell_c c _).mono ?_
      rintro e w1 ⟨rfl, rfl⟩
      rw [HC.out]
      go_wp2_with fail
      refine (l3Shown_c d l c bd.1 bd.2.1 bd.2.2.1 bd.2.2.2.1 bc.1 bc.2 _).mono ?_
      rintro e w3 ⟨rfl, hb3⟩
      have hb4 := Below.chain hb2 hb3
      go_wp2
      go_ret2
      exact ⟨by rw [HF.out]; rfl, by (repeat (first | exact Below.refl _ _ | exact (Below.refl _ _).drew | assumption | exact below_one _ | refine Below.chain ?_ (by assumption) | refine Below.drew ?_ | refine Below.alc ?_ _ | refine below_drewN ?_ | (refine Below.setCell ?_ ?_ _) | exact Nat.le_refl _ | (simp; done) | (simp; omega)))⟩
def dsL (d l c : Int) : List Int := if scOk d l c then digL d l c else []
theorem dsL_le (d l c : Int) : (dsL d l c).length ≤ 10 := by
  unfold dsL; split
  · exact digL_le _ _ _
  · simp
theorem DigitsShown_c (d l c : Int) (w : World) : Calls Try.prog 46 #[.agg #[.int .i64 d, .int .i64 l], .int .i64 c] w (IntsPost w (dsL d l c) (scOk d l c)) := by
  rcases hq : faultB d l with _ | _
  · have HL := Lib.hid (show dsL d l c = [] by simp [dsL, scOk, hq])
    have HB := Lib.hid (show scOk d l c = false by simp [scOk, hq])
    have HQ := Lib.hid hq; clear hq
    go_enter Try.func46, Try.ntmps46
    go_wp2_with fail
    refine (IsFault_c d l _).mono ?_
    rintro e w1 ⟨rfl, hb1⟩
    rw [HQ.out]
    have hb2 := Below.chain (below_one _) hb1
    clear hb1
    go_wp2
    go_ret2
    exact IntsPost.mk' HL.out HB.out (World.ownsRow_nil _ _ _ _) (by (repeat (first | exact Below.refl _ _ | exact (Below.refl _ _).drew | assumption | exact below_one _ | refine Below.chain ?_ (by assumption) | refine Below.drew ?_ | refine Below.alc ?_ _ | refine below_drewN ?_ | (refine Below.setCell ?_ ?_ _) | exact Nat.le_refl _ | (simp; done) | (simp; omega))))
  · rcases hc : cellB c with _ | _
    · have HL := Lib.hid (show dsL d l c = [] by simp [dsL, scOk, hc])
      have HB := Lib.hid (show scOk d l c = false by simp [scOk, hc])
      have HQ := Lib.hid hq; clear hq
      have HC := Lib.hid hc; clear hc
      go_enter Try.func46, Try.ntmps46
      go_wp2_with fail
      refine (IsFault_c d l _).mono ?_
      rintro e w1 ⟨rfl, hb1⟩
      rw [HQ.out]
      have hb2 := Below.chain (below_one _) hb1
      clear hb1
      go_wp2_with fail
      refine (IsCell_c c _).mono ?_
      rintro e w1 ⟨rfl, rfl⟩
      rw [HC.out]
      go_wp2
      go_ret2
      exact IntsPost.mk' HL.out HB.out (World.ownsRow_nil _ _ _ _) (by (repeat (first | exact Below.refl _ _ | exact (Below.refl _ _).drew | assumption | exact below_one _ | refine Below.chain ?_ (by assumption) | refine Below.drew ?_ | refine Below.alc ?_ _ | refine below_drewN ?_ | (refine Below.setCell ?_ ?_ _) | exact Nat.le_refl _ | (simp; done) | (simp; omega))))
    · have HL := Lib.hid (show dsL d l c = digL d l c by simp [dsL, scOk, hc, hq])
      have HB := Lib.hid (show scOk d l c = true by simp [scOk, hc, hq])
      have bd := faultB_true hq
      have HQ := Lib.hid hq; clear hq
      have HC := Lib.hid hc; clear hc
      go_enter Try.func46, Try.ntmps46
      go_wp2_with fail
      refine (IsFault_c d l _).mono ?_
      rintro e w1 ⟨rfl, hb1⟩
      rw [HQ.out]
      have q0 := (box_after hb1).1 0 _ rfl
      have q1 := (box_after hb1).1 1 _ rfl
      have hb2 := Below.chain (below_one _) hb1
      clear hb1
      go_wp2_with fail
      refine (IsCell_c c _).mono ?_
      rintro e w1 ⟨rfl, rfl⟩
      rw [HC.out]
      go_wp2_with fail
      refine (digits_c d l c _ bd.1 bd.2.1 bd.2.2.1 bd.2.2.2.1).mono ?_
      rintro e w3 ⟨u, rfl, ho, hb3⟩
      have hb4 := Below.chain hb2 hb3
      have ho2 := own_lo ho hb2.size
      clear ho hb3
      go_wp2
      go_ret2
      exact IntsPost.mk' HL.out HB.out ho2 hb4
theorem sDigitsShown_c (d l c : Int) (w : World) : Calls Try.prog 47 #[.agg #[.int .i64 d, .int .i64 l], .int .i64 c] w (IntsPost w (dsL d l c) (scOk d l c)) := by
  rcases hq : faultB d l with _ | _
  · have HL := Lib.hid (show dsL d l c = [] by simp [dsL, scOk, hq])
    have HB := Lib.hid (show scOk d l c = false by simp [scOk, hq])
    have HQ := Lib.hid hq; clear hq
    go_enter Try.func47, Try.ntmps47
    go_wp2_with fail
    refine (l3Fault_c d l _).mono ?_
    rintro e w1 ⟨rfl, hb1⟩
    rw [HQ.out]
    have hb2 := Below.chain (below_one _) hb1
    clear hb1
    go_wp2
    go_ret2
    exact IntsPost.mk' HL.out HB.out (own_lo (World.ownsRow_lit (e := 3) (size := 1) (base := w1.heap.size) w1 #[] 0 (Nat.le_refl _) (by decide) rfl) hb2.size) (by (repeat (first | exact Below.refl _ _ | exact (Below.refl _ _).drew | assumption | exact below_one _ | refine Below.chain ?_ (by assumption) | refine Below.drew ?_ | refine Below.alc ?_ _ | refine below_drewN ?_ | (refine Below.setCell ?_ ?_ _) | exact Nat.le_refl _ | (simp; done) | (simp; omega))))
  · rcases hc : cellB c with _ | _
    · have HL := Lib.hid (show dsL d l c = [] by simp [dsL, scOk, hc])
      have HB := Lib.hid (show scOk d l c = false by simp [scOk, hc])
      have HQ := Lib.hid hq; clear hq
      have HC := Lib.hid hc; clear hc
      go_enter Try.func47, Try.ntmps47
      go_wp2_with fail
      refine (l3Fault_c d l _).mono ?_
      rintro e w1 ⟨rfl, hb1⟩
      rw [HQ.out]
      have hb2 := Below.chain (below_one _) hb1
      clear hb1
      go_wp2_with fail
      refine (l2Cell_c c _).mono ?_
      rintro e w1 ⟨rfl, rfl⟩
      rw [HC.out]
      go_wp2
      go_ret2
      exact IntsPost.mk' HL.out HB.out (own_lo (World.ownsRow_lit (e := 3) (size := 1) (base := w1.heap.size) w1 #[] 0 (Nat.le_refl _) (by decide) rfl) hb2.size) (by (repeat (first | exact Below.refl _ _ | exact (Below.refl _ _).drew | assumption | exact below_one _ | refine Below.chain ?_ (by assumption) | refine Below.drew ?_ | refine Below.alc ?_ _ | refine below_drewN ?_ | (refine Below.setCell ?_ ?_ _) | exact Nat.le_refl _ | (simp; done) | (simp; omega))))
    · have HL := Lib.hid (show dsL d l c = digL d l c by simp [dsL, scOk, hc, hq])
      have HB := Lib.hid (show scOk d l c = true by simp [scOk, hc, hq])
      have bd := faultB_true hq
      have HQ := Lib.hid hq; clear hq
      have HC := Lib.hid hc; clear hc
      go_enter Try.func47, Try.ntmps47
      go_wp2_with fail
      refine (l3Fault_c d l _).mono ?_
      rintro e w1 ⟨rfl, hb1⟩
      rw [HQ.out]
      have q0 := (box_after hb1).1 0 _ rfl
      have q1 := (box_after hb1).1 1 _ rfl
      have hb2 := Below.chain (below_one _) hb1
      clear hb1
      go_wp2_with fail
      refine (l2Cell_c c _).mono ?_
      rintro e w1 ⟨rfl, rfl⟩
      rw [HC.out]
      go_wp2_with fail
      refine (l3Digits_c d l c _ bd.1 bd.2.1 bd.2.2.1 bd.2.2.2.1).mono ?_
      rintro e w3 ⟨u, rfl, ho, hb3⟩
      have hb4 := Below.chain hb2 hb3
      have ho2 := own_lo ho hb2.size
      clear ho hb3
      go_wp2
      go_ret2
      exact IntsPost.mk' HL.out HB.out ho2 hb4
def ciV (d l : Int) : Value := .tuple #[.int .i64 (if faultB d l then ((grpL d l).length : Int) else 0), .bool (faultB d l)]
def ihV (d l : Int) : Value := .tuple #[.bool (faultB d l && decide ((grpL d l).length = 10)), .bool (faultB d l)]
theorem CountImages_c (d l : Int) (w : World) : Calls Try.prog 41 #[.agg #[.int .i64 d, .int .i64 l]] w fun e w' => e = .returned (ciV d l) ∧ Below w.heap.size w w' := by
  rcases hq : faultB d l with _ | _
  · have HF := Lib.hid (show ciV d l = .tuple #[.int .i64 0, .bool false] by simp [ciV, hq])
    have HQ := Lib.hid hq; clear hq
    go_enter Try.func41, Try.ntmps41
    go_wp2_with fail
    refine (IsFault_c d l _).mono ?_
    rintro e w1 ⟨rfl, hb1⟩
    rw [HQ.out]
    have hb2 := Below.chain (below_one _) hb1
    clear hb1
    go_wp2
    go_ret2
    exact ⟨by rw [HF.out]; rfl, by (repeat (first | exact Below.refl _ _ | exact (Below.refl _ _).drew | assumption | exact below_one _ | refine Below.chain ?_ (by assumption) | refine Below.drew ?_ | refine Below.alc ?_ _ | refine below_drewN ?_ | (refine Below.setCell ?_ ?_ _) | exact Nat.le_refl _ | (simp; done) | (simp; omega)))⟩
  · have HF := Lib.hid (show ciV d l = .tuple #[.int .i64 (grpL d l).length, .bool true] by simp [ciV, hq])
    have bd := faultB_true hq
    have HQ := Lib.hid hq; clear hq
    go_enter Try.func41, Try.ntmps41
    go_wp2_with fail
    refine (IsFault_c d l _).mono ?_
    rintro e w1 ⟨rfl, hb1⟩
    rw [HQ.out]
    have q0 := (box_after hb1).1 0 _ rfl
    have q1 := (box_after hb1).1 1 _ rfl
    have hb2 := Below.chain (below_one _) hb1
    clear hb1
    go_wp2_with fail
    refine (groups_c d l _ bd.1 bd.2.1 bd.2.2.1 bd.2.2.2.1).mono ?_
    rintro e w3 ⟨u, rfl, ho, hb3⟩
    have hb4 := Below.chain hb2 hb3
    obtain ⟨vs, hov, hin⟩ := ho
    have hl := hin.1
    obtain ⟨a, c, rfl, hmx⟩ := (Sl.of_own hov).slice
    clear hin hov hb3
    go_wp2
    go_ret2
    exact ⟨by rw [HF.out]; rfl, by (repeat (first | exact Below.refl _ _ | exact (Below.refl _ _).drew | assumption | exact below_one _ | refine Below.chain ?_ (by assumption) | refine Below.drew ?_ | refine Below.alc ?_ _ | refine below_drewN ?_ | (refine Below.setCell ?_ ?_ _) | exact Nat.le_refl _ | (simp; done) | (simp; omega)))⟩
theorem CountImagesH_c (d l : Int) (w : World) : Calls Try.prog 43 #[.agg #[.int .i64 d, .int .i64 l]] w fun e w' => e = .returned (ihV d l) ∧ Below w.heap.size w w' := by
  rcases hq : faultB d l with _ | _
  · have HF := Lib.hid (show ihV d l = .tuple #[.bool false, .bool false] by simp [ihV, hq])
    have HQ := Lib.hid hq; clear hq
    go_enter Try.func43, Try.ntmps43
    go_wp2_with fail
    refine (IsFault_c d l _).mono ?_
    rintro e w1 ⟨rfl, hb1⟩
    rw [HQ.out]
    have hb2 := Below.chain (below_one _) hb1
    clear hb1
    go_wp2
    go_ret2
    exact ⟨by rw [HF.out]; rfl, by (repeat (first | exact Below.refl _ _ | exact (Below.refl _ _).drew | assumption | exact below_one _ | refine Below.chain ?_ (by assumption) | refine Below.drew ?_ | refine Below.alc ?_ _ | refine below_drewN ?_ | (refine Below.setCell ?_ ?_ _) | exact Nat.le_refl _ | (simp; done) | (simp; omega)))⟩
  · have HF := Lib.hid (show ihV d l = .tuple #[.bool (decide ((grpL d l).length = 10)), .bool true] by simp [ihV, hq])
    have bd := faultB_true hq
    have HQ := Lib.hid hq; clear hq
    go_enter Try.func43, Try.ntmps43
    go_wp2_with fail
    refine (IsFault_c d l _).mono ?_
    rintro e w1 ⟨rfl, hb1⟩
    rw [HQ.out]
    have q0 := (box_after hb1).1 0 _ rfl
    have q1 := (box_after hb1).1 1 _ rfl
    have hb2 := Below.chain (below_one _) hb1
    clear hb1
    go_wp2_with fail
    refine (isHarmless_c d l _ bd.1 bd.2.1 bd.2.2.1 bd.2.2.2.1).mono ?_
    rintro e w3 ⟨rfl, hb3⟩
    have hb4 := Below.chain hb2 hb3
    go_wp2
    go_ret2
    exact ⟨by rw [HF.out]; rfl, by (repeat (first | exact Below.refl _ _ | exact (Below.refl _ _).drew | assumption | exact below_one _ | refine Below.chain ?_ (by assumption) | refine Below.drew ?_ | refine Below.alc ?_ _ | refine below_drewN ?_ | (refine Below.setCell ?_ ?_ _) | exact Nat.le_refl _ | (simp; done) | (simp; omega)))⟩
theorem sCountImages_c (d l : Int) (w : World) : Calls Try.prog 42 #[.agg #[.int .i64 d, .int .i64 l]] w fun e w' => e = .returned (ciV d l) ∧ Below w.heap.size w w' := by
  rcases hq : faultB d l with _ | _
  · have HF := Lib.hid (show ciV d l = .tuple #[.int .i64 0, .bool false] by simp [ciV, hq])
    have HQ := Lib.hid hq; clear hq
    go_enter Try.func42, Try.ntmps42
    go_wp2_with fail
    refine (l3Fault_c d l _).mono ?_
    rintro e w1 ⟨rfl, hb1⟩
    rw [HQ.out]
    have hb2 := Below.chain (below_one _) hb1
    clear hb1
    go_wp2
    go_ret2
    exact ⟨by rw [HF.out]; rfl, by (repeat (first | exact Below.refl _ _ | exact (Below.refl _ _).drew | assumption | exact below_one _ | refine Below.chain ?_ (by assumption) | refine Below.drew ?_ | refine Below.alc ?_ _ | refine below_drewN ?_ | (refine Below.setCell ?_ ?_ _) | exact Nat.le_refl _ | (simp; done) | (simp; omega)))⟩
  · have HF := Lib.hid (show ciV d l = .tuple #[.int .i64 (grpL d l).length, .bool true] by simp [ciV, hq])
    have bd := faultB_true hq
    have HQ := Lib.hid hq; clear hq
    go_enter Try.func42, Try.ntmps42
    go_wp2_with fail
    refine (l3Fault_c d l _).mono ?_
    rintro e w1 ⟨rfl, hb1⟩
    rw [HQ.out]
    have q0 := (box_after hb1).1 0 _ rfl
    have q1 := (box_after hb1).1 1 _ rfl
    have hb2 := Below.chain (below_one _) hb1
    clear hb1
    go_wp2_with fail
    refine (l3Groups_c d l _ bd.1 bd.2.1 bd.2.2.1 bd.2.2.2.1).mono ?_
    rintro e w3 ⟨u, rfl, ho, hb3⟩
    have hb4 := Below.chain hb2 hb3
    obtain ⟨vs, hov, hin⟩ := ho
    have hl := hin.1
    obtain ⟨a, c, rfl, hmx⟩ := (Sl.of_own hov).slice
    clear hin hov hb3
    go_wp2
    go_ret2
    exact ⟨by rw [HF.out]; rfl, by (repeat (first | exact Below.refl _ _ | exact (Below.refl _ _).drew | assumption | exact below_one _ | refine Below.chain ?_ (by assumption) | refine Below.drew ?_ | refine Below.alc ?_ _ | refine below_drewN ?_ | (refine Below.setCell ?_ ?_ _) | exact Nat.le_refl _ | (simp; done) | (simp; omega)))⟩
theorem sCountImagesH_c (d l : Int) (w : World) : Calls Try.prog 44 #[.agg #[.int .i64 d, .int .i64 l]] w fun e w' => e = .returned (ihV d l) ∧ Below w.heap.size w w' := by
  rcases hq : faultB d l with _ | _
  · have HF := Lib.hid (show ihV d l = .tuple #[.bool false, .bool false] by simp [ihV, hq])
    have HQ := Lib.hid hq; clear hq
    go_enter Try.func44, Try.ntmps44
    go_wp2_with fail
    refine (l3Fault_c d l _).mono ?_
    rintro e w1 ⟨rfl, hb1⟩
    rw [HQ.out]
    have hb2 := Below.chain (below_one _) hb1
    clear hb1
    go_wp2
    go_ret2
    exact ⟨by rw [HF.out]; rfl, by (repeat (first | exact Below.refl _ _ | exact (Below.refl _ _).drew | assumption | exact below_one _ | refine Below.chain ?_ (by assumption) | refine Below.drew ?_ | refine Below.alc ?_ _ | refine below_drewN ?_ | (refine Below.setCell ?_ ?_ _) | exact Nat.le_refl _ | (simp; done) | (simp; omega)))⟩
  · have HF := Lib.hid (show ihV d l = .tuple #[.bool (decide ((grpL d l).length = 10)), .bool true] by simp [ihV, hq])
    have bd := faultB_true hq
    have HQ := Lib.hid hq; clear hq
    go_enter Try.func44, Try.ntmps44
    go_wp2_with fail
    refine (l3Fault_c d l _).mono ?_
    rintro e w1 ⟨rfl, hb1⟩
    rw [HQ.out]
    have q0 := (box_after hb1).1 0 _ rfl
    have q1 := (box_after hb1).1 1 _ rfl
    have hb2 := Below.chain (below_one _) hb1
    clear hb1
    go_wp2_with fail
    refine (l3Groups_c d l _ bd.1 bd.2.1 bd.2.2.1 bd.2.2.2.1).mono ?_
    rintro e w3 ⟨u, rfl, ho, hb3⟩
    have hb4 := Below.chain hb2 hb3
    obtain ⟨vs, hov, hin⟩ := ho
    have hl := hin.1
    obtain ⟨a, c, rfl, hmx⟩ := (Sl.of_own hov).slice
    clear hin hov hb3
    go_wp2
    go_ret2
    exact ⟨by rw [HF.out]; exact congrArg (fun b => Ending.returned (.tuple #[.bool b, .bool true])) (by rw [Bool.eq_iff_iff]; simp; omega), by (repeat (first | exact Below.refl _ _ | exact (Below.refl _ _).drew | assumption | exact below_one _ | refine Below.chain ?_ (by assumption) | refine Below.drew ?_ | refine Below.alc ?_ _ | refine below_drewN ?_ | (refine Below.setCell ?_ ?_ _) | exact Nat.le_refl _ | (simp; done) | (simp; omega)))⟩
theorem TurnCell_c (c : Int) (w : World) : Calls Try.prog 35 #[.int .i64 c] w fun e w' => e = .returned (.tuple #[.int .i64 (if cellB c then mvC true c else 0), .bool (cellB c)]) ∧ Below w.heap.size w w' := by
  rcases hc : cellB c with _ | _
  · have HC := Lib.hid hc; clear hc
    go_enter Try.func35, Try.ntmps35
    go_wp2_with fail
    refine (IsCell_c c _).mono ?_
    rintro e w1 ⟨rfl, rfl⟩
    rw [HC.out]
    go_wp2
    go_ret2
    exact ⟨rfl, by (repeat (first | exact Below.refl _ _ | exact (Below.refl _ _).drew | assumption | exact below_one _ | refine Below.chain ?_ (by assumption) | refine Below.drew ?_ | refine Below.alc ?_ _ | refine below_drewN ?_ | (refine Below.setCell ?_ ?_ _) | exact Nat.le_refl _ | (simp; done) | (simp; omega)))⟩
  · have bc := cellB_true hc
    have HC := Lib.hid hc; clear hc
    go_enter Try.func35, Try.ntmps35
    go_wp2_with fail
    refine (IsCell_c c _).mono ?_
    rintro e w1 ⟨rfl, rfl⟩
    rw [HC.out]
    go_wp2_with fail
    refine (turned_c c _ bc.1 bc.2).mono ?_
    rintro e w2 ⟨rfl, hb2⟩
    go_wp2
    go_ret2
    exact ⟨rfl, by (repeat (first | exact Below.refl _ _ | exact (Below.refl _ _).drew | assumption | exact below_one _ | refine Below.chain ?_ (by assumption) | refine Below.drew ?_ | refine Below.alc ?_ _ | refine below_drewN ?_ | (refine Below.setCell ?_ ?_ _) | exact Nat.le_refl _ | (simp; done) | (simp; omega)))⟩
theorem sIsFault_c (d l : Int) (w : World) : Calls Try.prog 33 #[.agg #[.int .i64 d, .int .i64 l]] w fun e w' => e = .returned (.bool (faultB d l)) ∧ Below w.heap.size w w' := by
  go_enter Try.func33, Try.ntmps33
  go_wp2_with fail
  refine (l3Fault_c d l _).mono ?_
  rintro e w1 ⟨rfl, hb1⟩
  go_wp2
  go_ret
  exact ⟨rfl, by (repeat (first | exact Below.refl _ _ | exact (Below.refl _ _).drew | assumption | exact below_one _ | refine Below.chain ?_ (by assumption) | refine Below.drew ?_ | refine Below.alc ?_ _ | refine below_drewN ?_ | (refine Below.setCell ?_ ?_ _) | exact Nat.le_refl _ | (simp; done) | (simp; omega)))⟩
end Go.Proofs.Ytlipkplomndjcaa