/- Texts of this claim, gathered: Turns, Shp, App, DrawL, DrawT. -/
import Derived.Test.YtlipkplomndjcaaK5
import Derived.Maps.AppendAt
import Derived.OrdersHeld
namespace Go.Proofs.Ytlipkplomndjcaa
open Go.RowKit
set_option linter.unusedVariables false
set_option linter.unusedSimpArgs false
set_option maxRecDepth 100000
def tfA (d l : Int) : Value := .agg #[.int .i64 (if faultB d l then mvC true d else 0), .int .i64 (if faultB d l then mvC true l else 0)]
def tfV (d l : Int) : Value := .tuple #[tfA d l, .bool (faultB d l)]
theorem two_below {w W : World} {b : Nat} (h : Below w.heap.size w W) (hb : w.heap.size ≤ b) (X Y : Value) : Below w.heap.size w ((W.setCell ⟨b, 0, none⟩ X).setCell ⟨b, 1, none⟩ Y) :=
  (h.setCell (p := ⟨b, 0, none⟩) hb _).setCell (p := ⟨b, 1, none⟩) hb _
theorem TurnFault_c (d l : Int) (w : World) : Calls Try.prog 25 #[.agg #[.int .i64 d, .int .i64 l]] w fun e w' => e = .returned (tfV d l) ∧ Below w.heap.size w w' := by
  have B1 := Lib.hid (Bk.new (w.alloc (.cells #[.int .i64 d, .int .i64 l] 42)) 42 #[.int .i64 0, .int .i64 0])
  rw [World.size_alloc] at B1
  have B0 := Lib.hid ((Bk.new w 42 #[.int .i64 d, .int .i64 l]).alloc (.cells #[.int .i64 0, .int .i64 0] 42))
  rcases hq : faultB d l with _ | _
  · have HF := Lib.hid (show tfV d l = .tuple #[.agg #[.int .i64 0, .int .i64 0], .bool false] by simp [tfV, tfA, hq])
    have HQ := Lib.hid hq; clear hq
    go_enter Try.func25, Try.ntmps25
    go_wp2_with fail
    refine (IsFault_c d l _).mono ?_
    rintro e w1 ⟨rfl, hb1⟩
    rw [HQ.out]
    have C1 := Lib.hid (B1.out.below hb1)
    have hb : Hid (Below w.heap.size w w1) := (((Below.refl _ _).alloc (Nat.le_refl _) _).alloc (by simp) _).trans (hb1.mono (by simp; omega))
    have q0 : w1.cell? ⟨w.heap.size + 1, 0, none⟩ = some (.int .i64 0) := C1.out.cell 0
    have q1 : w1.cell? ⟨w.heap.size + 1, 1, none⟩ = some (.int .i64 0) := C1.out.cell 1
    have f0 : w1.frozen? ⟨w.heap.size + 1, 0, none⟩ = false := C1.out.frozen 0
    have f1 : w1.frozen? ⟨w.heap.size + 1, 1, none⟩ = false := C1.out.frozen 1
    clear hb1
    go_wp2
    obtain ⟨z0, z1⟩ := two_res C1.out (.int .i64 0) (.int .i64 0)
    exact bodyPost_ret (v := .tuple #[.agg #[.int .i64 0, .int .i64 0], .bool false]) (by simp [results, Try.results25, go_sem, z0, z1]) rfl ⟨by rw [HF.out], two_below hb.out (by omega) _ _⟩
  · have HF := Lib.hid (show tfV d l = .tuple #[.agg #[.int .i64 (mvC true d), .int .i64 (mvC true l)], .bool true] by simp [tfV, tfA, hq])
    obtain ⟨d0, d1, l0, l1, _⟩ := faultB_true hq
    have HQ := Lib.hid hq; clear hq
    go_enter Try.func25, Try.ntmps25
    go_wp2_with fail
    refine (IsFault_c d l _).mono ?_
    rintro e w1 ⟨rfl, hb1⟩
    rw [HQ.out]
    have C1 := Lib.hid (B1.out.below hb1)
    have C0 := Lib.hid (B0.out.below hb1)
    have hb : Hid (Below w.heap.size w w1) := (((Below.refl _ _).alloc (Nat.le_refl _) _).alloc (by simp) _).trans (hb1.mono (by simp; omega))
    have q0 : w1.cell? ⟨w.heap.size, 0, none⟩ = some (.int .i64 d) := C0.out.cell 0
    have q1 : w1.cell? ⟨w.heap.size, 1, none⟩ = some (.int .i64 l) := C0.out.cell 1
    clear hb1
    go_wp2_with fail
    go_region_held3 (fun w' => w'.cell? ⟨w.heap.size, 0, none⟩ = some (.int .i64 d) ∧ w'.cell? ⟨w.heap.size, 1, none⟩ = some (.int .i64 l))
      (first | (go_split_ands; exact ⟨cell_later ‹_› ‹_›, cell_later ‹_› ‹_›⟩) | (go_split_ands; refine ⟨?_, ?_⟩ <;> (rw [World.cell?_setCell_other _ _ _ _ (by simp)]; assumption)) | go_keep)
      (first | (go_at_call 103; refine (turned_c d _ d0 d1).mono ?_; rintro e w' ⟨rfl, hb3⟩) | (go_at_call 103; refine (turned_c l _ l0 l1).mono ?_; rintro e w' ⟨rfl, hb4⟩; have hB : Below w1.heap.size w1 w' := Below.chain (Below.chain (Below.refl _ _).drew hb3) hb4; have C2 := Lib.hid (C1.out.below hB); have p0 : w'.cell? ⟨w.heap.size + 1, 0, none⟩ = some (.int .i64 0) := C2.out.cell 0; have p1 : w'.cell? ⟨w.heap.size + 1, 1, none⟩ = some (.int .i64 0) := C2.out.cell 1; have f0 : w'.frozen? ⟨w.heap.size + 1, 0, none⟩ = false := C2.out.frozen 0; have f1 : w'.frozen? ⟨w.heap.size + 1, 1, none⟩ = false := C2.out.frozen 1))
    go_split_ands
    have hbb := Lib.hid (Below.chain hb.out hB)
    clear p0 p1 hb3 hb4 hB
    go_wp2
    obtain ⟨z0, z1⟩ := two_res C2.out (.int .i64 (mvC true d)) (.int .i64 (mvC true l))
    exact bodyPost_ret (v := .tuple #[.agg #[.int .i64 (mvC true d), .int .i64 (mvC true l)], .bool true]) (by simp [results, Try.results25, go_sem, z0, z1]) rfl ⟨by rw [HF.out], two_below hbb.out (by omega) _ _⟩
theorem sTurnFault_c (d l : Int) (w : World) : Calls Try.prog 26 #[.agg #[.int .i64 d, .int .i64 l]] w fun e w' => e = .returned (tfV d l) ∧ Below w.heap.size w w' := by
  have B1 := Lib.hid (Bk.new (w.alloc (.cells #[.int .i64 d, .int .i64 l] 42)) 42 #[.int .i64 0, .int .i64 0])
  rw [World.size_alloc] at B1
  have B0 := Lib.hid ((Bk.new w 42 #[.int .i64 d, .int .i64 l]).alloc (.cells #[.int .i64 0, .int .i64 0] 42))
  rcases hq : faultB d l with _ | _
  · have HF := Lib.hid (show tfV d l = .tuple #[.agg #[.int .i64 0, .int .i64 0], .bool false] by simp [tfV, tfA, hq])
    have HQ := Lib.hid hq; clear hq
    go_enter Try.func26, Try.ntmps26
    go_wp2_with fail
    refine (l3Fault_c d l _).mono ?_
    rintro e w1 ⟨rfl, hb1⟩
    rw [HQ.out]
    have C1 := Lib.hid (B1.out.below hb1)
    have hb : Hid (Below w.heap.size w w1) := (((Below.refl _ _).alloc (Nat.le_refl _) _).alloc (by simp) _).trans (hb1.mono (by simp; omega))
    have q0 : w1.cell? ⟨w.heap.size + 1, 0, none⟩ = some (.int .i64 0) := C1.out.cell 0
    have q1 : w1.cell? ⟨w.heap.size + 1, 1, none⟩ = some (.int .i64 0) := C1.out.cell 1
    have f0 : w1.frozen? ⟨w.heap.size + 1, 0, none⟩ = false := C1.out.frozen 0
    have f1 : w1.frozen? ⟨w.heap.size + 1, 1, none⟩ = false := C1.out.frozen 1
    clear hb1
    go_wp2
    obtain ⟨z0, z1⟩ := two_res C1.out (.int .i64 0) (.int .i64 0)
    exact bodyPost_ret (v := .tuple #[.agg #[.int .i64 0, .int .i64 0], .bool false]) (by simp [results, Try.results26, go_sem, z0, z1]) rfl ⟨by rw [HF.out], two_below hb.out (by omega) _ _⟩
  · have HF := Lib.hid (show tfV d l = .tuple #[.agg #[.int .i64 (mvC true d), .int .i64 (mvC true l)], .bool true] by simp [tfV, tfA, hq])
    obtain ⟨d0, d1, l0, l1, _⟩ := faultB_true hq
    have HQ := Lib.hid hq; clear hq
    go_enter Try.func26, Try.ntmps26
    go_wp2_with fail
    refine (l3Fault_c d l _).mono ?_
    rintro e w1 ⟨rfl, hb1⟩
    rw [HQ.out]
    have C1 := Lib.hid (B1.out.below hb1)
    have C0 := Lib.hid (B0.out.below hb1)
    have hb : Hid (Below w.heap.size w w1) := (((Below.refl _ _).alloc (Nat.le_refl _) _).alloc (by simp) _).trans (hb1.mono (by simp; omega))
    have q0 : w1.cell? ⟨w.heap.size, 0, none⟩ = some (.int .i64 d) := C0.out.cell 0
    have q1 : w1.cell? ⟨w.heap.size, 1, none⟩ = some (.int .i64 l) := C0.out.cell 1
    clear hb1
    go_wp2_with fail
    go_region_held3 (fun w' => w'.cell? ⟨w.heap.size, 0, none⟩ = some (.int .i64 d) ∧ w'.cell? ⟨w.heap.size, 1, none⟩ = some (.int .i64 l))
      (first | (go_split_ands; exact ⟨cell_later ‹_› ‹_›, cell_later ‹_› ‹_›⟩) | (go_split_ands; refine ⟨?_, ?_⟩ <;> (rw [World.cell?_setCell_other _ _ _ _ (by simp)]; assumption)) | go_keep)
      (first | (go_at_call 104; refine (l2Turn_c d _ d0 d1).mono ?_; rintro e w' ⟨rfl, hb3⟩) | (go_at_call 104; refine (l2Turn_c l _ l0 l1).mono ?_; rintro e w' ⟨rfl, hb4⟩; have hB : Below w1.heap.size w1 w' := Below.chain (Below.chain (Below.refl _ _).drew hb3) hb4; have C2 := Lib.hid (C1.out.below hB); have p0 : w'.cell? ⟨w.heap.size + 1, 0, none⟩ = some (.int .i64 0) := C2.out.cell 0; have p1 : w'.cell? ⟨w.heap.size + 1, 1, none⟩ = some (.int .i64 0) := C2.out.cell 1; have f0 : w'.frozen? ⟨w.heap.size + 1, 0, none⟩ = false := C2.out.frozen 0; have f1 : w'.frozen? ⟨w.heap.size + 1, 1, none⟩ = false := C2.out.frozen 1))
    go_split_ands
    have hbb := Lib.hid (Below.chain hb.out hB)
    clear p0 p1 hb3 hb4 hB
    go_wp2
    obtain ⟨z0, z1⟩ := two_res C2.out (.int .i64 (mvC true d)) (.int .i64 (mvC true l))
    exact bodyPost_ret (v := .tuple #[.agg #[.int .i64 (mvC true d), .int .i64 (mvC true l)], .bool true]) (by simp [results, Try.results26, go_sem, z0, z1]) rfl ⟨by rw [HF.out], two_below hbb.out (by omega) _ _⟩
theorem Bk.two {w : World} {g t : Nat} {a b : Value} (h : Bk w g t #[a, b]) : w.cell? ⟨g, 0, none⟩ = some a ∧ w.cell? ⟨g, 1, none⟩ = some b := ⟨h.cell 0, h.cell 1⟩
def orI (a b : Int) : Int := bits .or .i64 a b
def jfOk (a b c d : Int) : Bool := faultB a b && (faultB c d && faultB (orI a c) (orI b d))
def jfV (a b c d : Int) : Value := .tuple #[.agg #[.int .i64 (if jfOk a b c d then orI a c else 0), .int .i64 (if jfOk a b c d then orI b d else 0)], .bool (jfOk a b c d)]
theorem JoinFaults_c (a b c d : Int) (w : World) : Calls Try.prog 30 #[.agg #[.int .i64 a, .int .i64 b], .agg #[.int .i64 c, .int .i64 d]] w fun e w' => e = .returned (jfV a b c d) ∧ Below w.heap.size w w' := by
  have B0 := Lib.hid (Bk.new w 42 #[.int .i64 a, .int .i64 b])
  have B1 := Lib.hid (Bk.new (w.alloc (.cells #[.int .i64 a, .int .i64 b] 42)) 42 #[.int .i64 c, .int .i64 d])
  have B2 := Lib.hid (Bk.new ((w.alloc (.cells #[.int .i64 a, .int .i64 b] 42)).alloc (.cells #[.int .i64 c, .int .i64 d] 42)) 42 #[.int .i64 0, .int .i64 0])
  have B3 := Lib.hid (Bk.new (((w.alloc (.cells #[.int .i64 a, .int .i64 b] 42)).alloc (.cells #[.int .i64 c, .int .i64 d] 42)).alloc (.cells #[.int .i64 0, .int .i64 0] 42)) 42 #[.int .i64 (orI a c), .int .i64 (orI b d)])
  have hsz : Hid (Below w.heap.size w ((((w.alloc (.cells #[.int .i64 a, .int .i64 b] 42)).alloc (.cells #[.int .i64 c, .int .i64 d] 42)).alloc (.cells #[.int .i64 0, .int .i64 0] 42)).alloc (.cells #[.int .i64 (orI a c), .int .i64 (orI b d)] 42))) := Below.alc (Below.alc (Below.alc (below_one _) _) _) _
  replace B0 := Lib.hid (((B0.out.alloc (.cells #[.int .i64 c, .int .i64 d] 42)).alloc (.cells #[.int .i64 0, .int .i64 0] 42)).alloc (.cells #[.int .i64 (orI a c), .int .i64 (orI b d)] 42))
  replace B1 := Lib.hid ((B1.out.alloc (.cells #[.int .i64 0, .int .i64 0] 42)).alloc (.cells #[.int .i64 (orI a c), .int .i64 (orI b d)] 42))
  replace B2 := Lib.hid (B2.out.alloc (.cells #[.int .i64 (orI a c), .int .i64 (orI b d)] 42))
  simp only [World.size_alloc] at B1 B2 B3
  go_enter Try.func30, Try.ntmps30
  go_wp2_with fail
  have hor1 : bits .or .i64 a c = orI a c := rfl
  have hor2 : bits .or .i64 b d = orI b d := rfl
  simp only [hor1, hor2]
  generalize ((((w.alloc (.cells #[.int .i64 a, .int .i64 b] 42)).alloc (.cells #[.int .i64 c, .int .i64 d] 42)).alloc (.cells #[.int .i64 0, .int .i64 0] 42)).alloc (.cells #[.int .i64 (orI a c), .int .i64 (orI b d)] 42)) = w1 at *
  rcases hp : faultB a b with _ | _
  · have HF := Lib.hid (show jfV a b c d = .tuple #[.agg #[.int .i64 0, .int .i64 0], .bool false] by simp [jfV, jfOk, hp])
    refine (IsFault_c a b _).mono ?_
    rintro e w2 ⟨rfl, hb2⟩
    rw [hp]
    have hz := Lib.hid (hsz.out.trans (hb2.mono hsz.out.size))
    replace B0 := Lib.hid (B0.out.below hb2)
    replace B1 := Lib.hid (B1.out.below hb2)
    replace B2 := Lib.hid (B2.out.below hb2)
    replace B3 := Lib.hid (B3.out.below hb2)
    clear hb2 hp
    obtain ⟨q20, q21⟩ := B2.out.two
    have f0 := B2.out.frozen 0
    have f1 := B2.out.frozen 1
    go_wp2
    obtain ⟨z0, z1⟩ := two_res B2.out (.int .i64 0) (.int .i64 0)
    exact bodyPost_ret (v := .tuple #[.agg #[.int .i64 0, .int .i64 0], .bool false]) (by simp [results, Try.results30, go_sem, z0, z1]) rfl ⟨by rw [HF.out], two_below hz.out (by omega) _ _⟩
  · refine (IsFault_c a b _).mono ?_
    rintro e w2 ⟨rfl, hb2⟩
    rw [hp]
    have hz := Lib.hid (hsz.out.trans (hb2.mono hsz.out.size))
    replace B0 := Lib.hid (B0.out.below hb2)
    replace B1 := Lib.hid (B1.out.below hb2)
    replace B2 := Lib.hid (B2.out.below hb2)
    replace B3 := Lib.hid (B3.out.below hb2)
    clear hb2
    obtain ⟨q10, q11⟩ := B1.out.two
    rcases hp2 : faultB c d with _ | _
    · have HF := Lib.hid (show jfV a b c d = .tuple #[.agg #[.int .i64 0, .int .i64 0], .bool false] by simp [jfV, jfOk, hp2])
      clear hp
      go_wp2_with fail
      refine (IsFault_c c d _).mono ?_
      rintro e w3 ⟨rfl, hb3⟩
      rw [hp2]
      replace hz := Lib.hid (hz.out.trans (hb3.mono hz.out.size))
      replace B0 := Lib.hid (B0.out.below hb3)
      replace B1 := Lib.hid (B1.out.below hb3)
      replace B2 := Lib.hid (B2.out.below hb3)
      replace B3 := Lib.hid (B3.out.below hb3)
      clear hb3 hp2 q10 q11
      obtain ⟨q20, q21⟩ := B2.out.two
      have f0 := B2.out.frozen 0
      have f1 := B2.out.frozen 1
      go_wp2
      obtain ⟨z0, z1⟩ := two_res B2.out (.int .i64 0) (.int .i64 0)
      exact bodyPost_ret (v := .tuple #[.agg #[.int .i64 0, .int .i64 0], .bool false]) (by simp [results, Try.results30, go_sem, z0, z1]) rfl ⟨by rw [HF.out], two_below hz.out (by omega) _ _⟩
    · rcases hp3 : faultB (orI a c) (orI b d) with _ | _
      · have HF := Lib.hid (show jfV a b c d = .tuple #[.agg #[.int .i64 0, .int .i64 0], .bool false] by simp [jfV, jfOk, hp3])
        clear hp
        go_wp2_with fail
        refine (IsFault_c c d _).mono ?_
        rintro e w3 ⟨rfl, hb3⟩
        rw [hp2]
        replace hz := Lib.hid (hz.out.trans (hb3.mono hz.out.size))
        replace B0 := Lib.hid (B0.out.below hb3)
        replace B1 := Lib.hid (B1.out.below hb3)
        replace B2 := Lib.hid (B2.out.below hb3)
        replace B3 := Lib.hid (B3.out.below hb3)
        clear hb3 hp2 q10 q11
        obtain ⟨q30, q31⟩ := B3.out.two
        go_wp2_with fail
        refine (IsFault_c _ _ _).mono ?_
        rintro e w4 ⟨rfl, hb4⟩
        rw [hp3]
        replace hz := Lib.hid (hz.out.trans (hb4.mono hz.out.size))
        replace B0 := Lib.hid (B0.out.below hb4)
        replace B1 := Lib.hid (B1.out.below hb4)
        replace B2 := Lib.hid (B2.out.below hb4)
        replace B3 := Lib.hid (B3.out.below hb4)
        clear hb4 hp3 q30 q31
        obtain ⟨q20, q21⟩ := B2.out.two
        obtain ⟨q30, q31⟩ := B3.out.two
        have f0 := B2.out.frozen 0
        have f1 := B2.out.frozen 1
        go_wp2
        obtain ⟨z0, z1⟩ := two_res B2.out (.int .i64 0) (.int .i64 0)
        exact bodyPost_ret (v := .tuple #[.agg #[.int .i64 0, .int .i64 0], .bool false]) (by simp [results, Try.results30, go_sem, z0, z1]) rfl ⟨by rw [HF.out], two_below hz.out (by omega) _ _⟩
      · have HF := Lib.hid (show jfV a b c d = .tuple #[.agg #[.int .i64 (orI a c), .int .i64 (orI b d)], .bool true] by simp [jfV, jfOk, hp, hp2, hp3])
        clear hp
        go_wp2_with fail
        refine (IsFault_c c d _).mono ?_
        rintro e w3 ⟨rfl, hb3⟩
        rw [hp2]
        replace hz := Lib.hid (hz.out.trans (hb3.mono hz.out.size))
        replace B0 := Lib.hid (B0.out.below hb3)
        replace B1 := Lib.hid (B1.out.below hb3)
        replace B2 := Lib.hid (B2.out.below hb3)
        replace B3 := Lib.hid (B3.out.below hb3)
        clear hb3 hp2 q10 q11
        obtain ⟨q30, q31⟩ := B3.out.two
        go_wp2_with fail
        refine (IsFault_c _ _ _).mono ?_
        rintro e w4 ⟨rfl, hb4⟩
        rw [hp3]
        replace hz := Lib.hid (hz.out.trans (hb4.mono hz.out.size))
        replace B0 := Lib.hid (B0.out.below hb4)
        replace B1 := Lib.hid (B1.out.below hb4)
        replace B2 := Lib.hid (B2.out.below hb4)
        replace B3 := Lib.hid (B3.out.below hb4)
        clear hb4 hp3 q30 q31
        obtain ⟨q20, q21⟩ := B2.out.two
        obtain ⟨q30, q31⟩ := B3.out.two
        have f0 := B2.out.frozen 0
        have f1 := B2.out.frozen 1
        go_wp2
        obtain ⟨z0, z1⟩ := two_res B2.out (.int .i64 (orI a c)) (.int .i64 (orI b d))
        exact bodyPost_ret (v := .tuple #[.agg #[.int .i64 (orI a c), .int .i64 (orI b d)], .bool true]) (by simp [results, Try.results30, go_sem, z0, z1]) rfl ⟨by rw [HF.out], two_below hz.out (by omega) _ _⟩
theorem sJoinFaults_c (a b c d : Int) (w : World) : Calls Try.prog 31 #[.agg #[.int .i64 a, .int .i64 b], .agg #[.int .i64 c, .int .i64 d]] w fun e w' => e = .returned (jfV a b c d) ∧ Below w.heap.size w w' := by
  have B0 := Lib.hid (Bk.new w 42 #[.int .i64 a, .int .i64 b])
  have B1 := Lib.hid (Bk.new (w.alloc (.cells #[.int .i64 a, .int .i64 b] 42)) 42 #[.int .i64 c, .int .i64 d])
  have B2 := Lib.hid (Bk.new ((w.alloc (.cells #[.int .i64 a, .int .i64 b] 42)).alloc (.cells #[.int .i64 c, .int .i64 d] 42)) 42 #[.int .i64 0, .int .i64 0])
  have hsz : Hid (Below w.heap.size w (((w.alloc (.cells #[.int .i64 a, .int .i64 b] 42)).alloc (.cells #[.int .i64 c, .int .i64 d] 42)).alloc (.cells #[.int .i64 0, .int .i64 0] 42))) := Below.alc (Below.alc (below_one _) _) _
  replace B0 := Lib.hid ((B0.out.alloc (.cells #[.int .i64 c, .int .i64 d] 42)).alloc (.cells #[.int .i64 0, .int .i64 0] 42))
  replace B1 := Lib.hid (B1.out.alloc (.cells #[.int .i64 0, .int .i64 0] 42))
  simp only [World.size_alloc] at B1 B2
  have hor1 : bits .or .i64 a c = orI a c := rfl
  have hor2 : bits .or .i64 b d = orI b d := rfl
  go_enter Try.func31, Try.ntmps31
  go_wp2_with fail
  generalize (((w.alloc (.cells #[.int .i64 a, .int .i64 b] 42)).alloc (.cells #[.int .i64 c, .int .i64 d] 42)).alloc (.cells #[.int .i64 0, .int .i64 0] 42)) = w1 at *
  rcases hp : faultB a b with _ | _
  · have HF := Lib.hid (show jfV a b c d = .tuple #[.agg #[.int .i64 0, .int .i64 0], .bool false] by simp [jfV, jfOk, hp])
    refine (l3Fault_c a b _).mono ?_
    rintro e w2 ⟨rfl, hb2⟩
    rw [hp]
    have hz := Lib.hid (hsz.out.trans (hb2.mono hsz.out.size))
    replace B2 := Lib.hid (B2.out.below hb2)
    clear hb2 hp
    obtain ⟨q20, q21⟩ := B2.out.two
    have f0 := B2.out.frozen 0
    have f1 := B2.out.frozen 1
    go_wp2
    obtain ⟨z0, z1⟩ := two_res B2.out (.int .i64 0) (.int .i64 0)
    exact bodyPost_ret (v := .tuple #[.agg #[.int .i64 0, .int .i64 0], .bool false]) (by simp [results, Try.results31, go_sem, z0, z1]) rfl ⟨by rw [HF.out], two_below hz.out (by omega) _ _⟩
  · refine (l3Fault_c a b _).mono ?_
    rintro e w2 ⟨rfl, hb2⟩
    rw [hp]
    have hz := Lib.hid (hsz.out.trans (hb2.mono hsz.out.size))
    replace B0 := Lib.hid (B0.out.below hb2)
    replace B1 := Lib.hid (B1.out.below hb2)
    replace B2 := Lib.hid (B2.out.below hb2)
    clear hb2
    obtain ⟨q10, q11⟩ := B1.out.two
    rcases hp2 : faultB c d with _ | _
    · have HF := Lib.hid (show jfV a b c d = .tuple #[.agg #[.int .i64 0, .int .i64 0], .bool false] by simp [jfV, jfOk, hp2])
      clear hp
      go_wp2_with fail
      refine (l3Fault_c c d _).mono ?_
      rintro e w3 ⟨rfl, hb3⟩
      rw [hp2]
      replace hz := Lib.hid (hz.out.trans (hb3.mono hz.out.size))
      replace B2 := Lib.hid (B2.out.below hb3)
      clear hb3 hp2 q10 q11
      obtain ⟨q20, q21⟩ := B2.out.two
      have f0 := B2.out.frozen 0
      have f1 := B2.out.frozen 1
      go_wp2
      obtain ⟨z0, z1⟩ := two_res B2.out (.int .i64 0) (.int .i64 0)
      exact bodyPost_ret (v := .tuple #[.agg #[.int .i64 0, .int .i64 0], .bool false]) (by simp [results, Try.results31, go_sem, z0, z1]) rfl ⟨by rw [HF.out], two_below hz.out (by omega) _ _⟩
    · go_wp2_with fail
      refine (l3Fault_c c d _).mono ?_
      rintro e w3 ⟨rfl, hb3⟩
      rw [hp2]
      replace hz := Lib.hid (hz.out.trans (hb3.mono hz.out.size))
      have hs3 := hz.out.size
      obtain ⟨q00, q01⟩ := (B0.out.below hb3).two
      clear q10 q11
      obtain ⟨q10, q11⟩ := (B1.out.below hb3).two
      replace B2 := Lib.hid ((B2.out.below hb3).alloc (.cells #[.int .i64 (orI a c), .int .i64 (orI b d)] 42))
      have B3 := Lib.hid (Bk.new w3 42 #[.int .i64 (orI a c), .int .i64 (orI b d)])
      replace hz := Lib.hid (Below.alc hz.out (.cells #[.int .i64 (orI a c), .int .i64 (orI b d)] 42))
      clear hb3
      go_wp2_with fail
      generalize w3.alloc (.cells #[.int .i64 (orI a c), .int .i64 (orI b d)] 42) = w4 at *
      clear q10 q11 q00 q01
      rcases hp3 : faultB (orI a c) (orI b d) with _ | _
      · have HF := Lib.hid (show jfV a b c d = .tuple #[.agg #[.int .i64 0, .int .i64 0], .bool false] by simp [jfV, jfOk, hp3])
        clear hp hp2
        refine (l3Fault_c _ _ _).mono ?_
        rintro e w5 ⟨rfl, hb4⟩
        rw [hp3]
        replace hz := Lib.hid (hz.out.trans (hb4.mono hz.out.size))
        replace B2 := Lib.hid (B2.out.below hb4)
        clear hb4 hp3
        obtain ⟨q20, q21⟩ := B2.out.two
        have f0 := B2.out.frozen 0
        have f1 := B2.out.frozen 1
        go_wp2
        obtain ⟨z0, z1⟩ := two_res B2.out (.int .i64 0) (.int .i64 0)
        exact bodyPost_ret (v := .tuple #[.agg #[.int .i64 0, .int .i64 0], .bool false]) (by simp [results, Try.results31, go_sem, z0, z1]) rfl ⟨by rw [HF.out], two_below hz.out (by omega) _ _⟩
      · have HF := Lib.hid (show jfV a b c d = .tuple #[.agg #[.int .i64 (orI a c), .int .i64 (orI b d)], .bool true] by simp [jfV, jfOk, hp, hp2, hp3])
        clear hp hp2
        refine (l3Fault_c _ _ _).mono ?_
        rintro e w5 ⟨rfl, hb4⟩
        rw [hp3]
        replace hz := Lib.hid (hz.out.trans (hb4.mono hz.out.size))
        replace B2 := Lib.hid (B2.out.below hb4)
        replace B3 := Lib.hid (B3.out.below hb4)
        clear hb4 hp3
        obtain ⟨q30, q31⟩ := B3.out.two
        obtain ⟨q20, q21⟩ := B2.out.two
        have f0 := B2.out.frozen 0
        have f1 := B2.out.frozen 1
        go_wp2
        obtain ⟨z0, z1⟩ := two_res B2.out (.int .i64 (orI a c)) (.int .i64 (orI b d))
        exact bodyPost_ret (v := .tuple #[.agg #[.int .i64 (orI a c), .int .i64 (orI b d)], .bool true]) (by simp [results, Try.results31, go_sem, z0, z1]) rfl ⟨by rw [HF.out], two_below hz.out (by omega) _ _⟩
end Go.Proofs.Ytlipkplomndjcaa
namespace Go.Proofs.Ytlipkplomndjcaa
set_option linter.unusedVariables false
theorem mv_and_all : ∀ a b : Fin 128, mvC true ((a.1 &&& b.1 : Nat) : Int) = (((mvC true (a.1 : Int)).toNat &&& (mvC true (b.1 : Int)).toNat : Nat) : Int) := by decide +kernel
theorem mv_or_all : ∀ a b : Fin 128, mvC true ((a.1 ||| b.1 : Nat) : Int) = (((mvC true (a.1 : Int)).toNat ||| (mvC true (b.1 : Int)).toNat : Nat) : Int) := by decide +kernel
theorem mv_sub_all : ∀ a : Fin 128, mvC true ((127 - a.1 : Nat) : Int) = ((127 - (mvC true (a.1 : Int)).toNat : Nat) : Int) := by decide +kernel
theorem mv_mv_all : ∀ a : Fin 128, mvC true (mvC true (a.1 : Int)) = (a.1 : Int) := by decide +kernel
theorem mv_nat {a : Nat} (h : a < 128) : ∃ b : Nat, b < 128 ∧ mvC true (a : Int) = (b : Int) := by
  have := mvC_bd true (show (0 : Int) ≤ (a : Int) by omega) (by omega)
  obtain ⟨b, hb⟩ := Int.eq_ofNat_of_zero_le this.1
  exact ⟨b, by omega, hb⟩
theorem mv_mv {c : Int} (h0 : 0 ≤ c) (h1 : c ≤ 127) : mvC true (mvC true c) = c := by
  obtain ⟨a, rfl⟩ := Int.eq_ofNat_of_zero_le h0
  exact mv_mv_all ⟨a, by omega⟩
theorem sh_lt (d l c : Nat) (hl : l < 128) : (c &&& (127 - d)) ||| l < 128 := by
  have h1 : c &&& (127 - d) < 2 ^ 7 := Nat.and_lt_two_pow _ (by omega)
  exact Nat.or_lt_two_pow h1 (show l < 2 ^ 7 by omega)
theorem mv_sh {d l c : Int} (d0 : 0 ≤ d) (d1 : d ≤ 127) (l0 : 0 ≤ l) (l1 : l ≤ 127) (c0 : 0 ≤ c) (c1 : c ≤ 127) :
    mvC true (shC d l c) = shC (mvC true d) (mvC true l) (mvC true c) := by
  obtain ⟨d, rfl⟩ := Int.eq_ofNat_of_zero_le d0
  obtain ⟨l, rfl⟩ := Int.eq_ofNat_of_zero_le l0
  obtain ⟨c, rfl⟩ := Int.eq_ofNat_of_zero_le c0
  have hd : d < 128 := by omega
  have hl : l < 128 := by omega
  have hc : c < 128 := by omega
  have h1 : c &&& (127 - d) < 2 ^ 7 := Nat.and_lt_two_pow _ (by omega)
  unfold shC
  simp only [Int.toNat_natCast]
  rw [mv_or_all ⟨c &&& (127 - d), by omega⟩ ⟨l, hl⟩]
  simp only
  rw [mv_and_all ⟨c, hc⟩ ⟨127 - d, by omega⟩]
  simp only [Int.toNat_natCast]
  rw [mv_sub_all ⟨d, hd⟩]
  simp only [Int.toNat_natCast]
theorem mv_fault {d l : Int} (h : faultB d l = true) : faultB (mvC true d) (mvC true l) = true := by
  obtain ⟨d0, d1, l0, l1, h0⟩ := faultB_true h
  obtain ⟨d, rfl⟩ := Int.eq_ofNat_of_zero_le d0
  obtain ⟨l, rfl⟩ := Int.eq_ofNat_of_zero_le l0
  have hd := mvC_bd true (show (0 : Int) ≤ (d : Int) by omega) (by omega)
  have hl := mvC_bd true (show (0 : Int) ≤ (l : Int) by omega) (by omega)
  have hz : d &&& l = 0 := by unfold andC at h0; simpa using h0
  have := mv_and_all ⟨d, by omega⟩ ⟨l, by omega⟩
  simp only [hz] at this
  have h00 : mvC true ((0 : Nat) : Int) = 0 := by decide
  rw [h00] at this
  simp only [faultB, Bool.and_eq_true]
  refine ⟨inB_mk hd.1 hd.2, inB_mk hl.1 hl.2, ?_⟩
  unfold andC
  rw [← this]; decide
theorem sh_sh {d l c : Int} : shC d l (shC d l c) = shC d l c := by
  unfold shC
  simp only [Int.toNat_natCast]
  congr 1
  apply Nat.eq_of_testBit_eq
  intro i
  simp only [Nat.testBit_or, Nat.testBit_and]
  cases Nat.testBit l.toNat i <;> cases Nat.testBit (127 - d.toNat) i <;> cases Nat.testBit c.toNat i <;> rfl
/-- all that the law asks where a fault and a cell are valid -/
theorem shown_all {d l c : Int} (hf : faultB d l = true) (hc : cellB c = true) :
    scV d l (shC d l c) = .tuple #[.int .i64 (shC d l c), .bool true] ∧
    cellB (shC d l c) = true ∧
    scV (mvC true d) (mvC true l) (mvC true c) = .tuple #[.int .i64 (mvC true (shC d l c)), .bool true] ∧
    tfV (mvC true d) (mvC true l) = .tuple #[.agg #[.int .i64 d, .int .i64 l], .bool true] := by
  obtain ⟨d0, d1, l0, l1, _⟩ := faultB_true hf
  have hcb := cellB_true hc
  have hs := shC_bd (d := d) hcb.1 hcb.2 l0 l1
  have h1 : cellB (shC d l c) = true := inB_mk hs.1 hs.2
  have hm := mvC_bd true hcb.1 hcb.2
  refine ⟨?_, h1, ?_, ?_⟩
  · unfold scV scOk; rw [hf, h1]; simp [sh_sh]
  · unfold scV scOk; rw [mv_fault hf, show cellB (mvC true c) = true from inB_mk hm.1 hm.2, mv_sh d0 d1 l0 l1 hcb.1 hcb.2]; rfl
  · unfold tfV tfA; rw [mv_fault hf, if_pos rfl, if_pos rfl, mv_mv d0 d1, mv_mv l0 l1]
theorem srL_at {ps : List (Int × Int)} {r : List Int} (h : areB ps r = true) {k : Nat} {f : Int × Int} {c : Int} (hf : ps[k]? = some f) (hc : r[k]? = some c) :
    ∃ x, (srL ps r)[k]? = some x ∧ scV f.1 f.2 c = .tuple #[.int .i64 x, .bool true] := by
  have hk := (List.getElem?_eq_some_iff.1 hc).1
  refine ⟨shC f.1 f.2 c, ?_, ?_⟩
  · unfold srL; rw [if_pos h]
    unfold shownTo
    have h2 : (ps.zip r)[k]? = some (f, c) := by rw [List.getElem?_zip_eq_some]; exact ⟨hf, hc⟩
    rw [List.getElem?_map, List.getElem?_take, if_pos hk, h2]; rfl
  · have hfb : faultB f.1 f.2 = true := by
      simp only [areB, Bool.and_eq_true, List.all_eq_true] at h
      exact h.2.2 f (List.mem_of_getElem? hf)
    have hcb := rowB_cell (areB_row h) hc
    unfold scV scOk; rw [hfb, show cellB c = true from inB_mk hcb.1 hcb.2]; rfl
theorem srL_len {ps : List (Int × Int)} {r : List Int} (h : areB ps r = true) : (srL ps r).length = r.length := by
  unfold srL; rw [if_pos h]; unfold shownTo
  rw [List.length_map, List.length_take, List.length_zip, areB_len h]; omega
end Go.Proofs.Ytlipkplomndjcaa
namespace Go.Proofs.Ytlipkplomndjcaa
open Go.RowKit
set_option linter.unusedVariables false
section
variable {P : Program} {w : World}
theorem step_append_at {ops : Array Oper} {o : Oper} {a : Act} {K : Act → World → Prop} {Q : Exit → Act → World → Prop} {E : Prop} (hgd : o.guard = none) (s x : Operand) (t : TypeId)
    (ho : o.op = .call { callee := .builtin .append, args := #[s, x], argTypes := #[t, t] })
    (base : Nat) (e : TypeId) (i : TypeInfo) (z : Value) (size bytes : Nat) (ht : P.underlying t = some (.slice e)) (hi : P.info? e = some i) (hz : i.zero = some z)
    (hsize : i.size = size) (hby : i.bytes = bytes) (hzs : z.cells.size = size) (hsz : 0 < size)
    (v : Value) (n : Nat) (xs : List Value) (hs : a.eval s = v) (hown : w.ownsRow base e size v n xs)
    (ad : Addr) (m c : Nat) (news : List Value) (hx : a.eval x = .slice (some ad) m c) (hl : news.length = m * size) (hnews : ∀ j u, news[j]? = some u → w.cell? (ad.add j) = some u) (h1 : ∀ u ∈ news, u.oneCell' = true)
    (h63 : n + m ≤ maxLen) (hbytes : (n + m) * bytes ≤ 140737488355328) (hbase : base ≤ w.heap.size)
    (h : ∀ v' w', w'.ownsRow base e size v' (n + m) (xs ++ news) → w.grownBy w' v.ownBlock → (v'.ownBlock = v.ownBlock ∨ v'.ownBlock = some w.heap.size) → K (a.put o.dst v') w') :
    if Region.wanted o (yielded ops a.tmps) = true then Oper.wp P o a w K Q else E := by
  have hw : Region.wanted o (yielded ops a.tmps) = true := by simp [Region.wanted, hgd]
  rw [if_pos hw]
  obtain ⟨v', w', hr, h2, h3, _, h5⟩ := run_append_own_at (P := P) (w := w) base t o.type e i z size bytes ht hi hz hsize hby hzs hsz v n xs hown ad m c news hl hnews h1 h63 hbytes hbase
  unfold Oper.wp execOp
  simp only [ho, resolve, invoke, builtin, Sem.run_bind, Sem.run_pure, Result.andThen_ok, List.map_toArray, List.map_cons, List.map_nil, hs, hx, hr]
  exact h v' w' h2 h3 h5
end
theorem own_take {w : World} {lo g cap n : Nat} {e : TypeId} {l : List Int} (h : w.ownsRow lo e 1 (.slice (some ⟨g, 0, none⟩) n cap) n (ints l)) (k : Nat) : ∀ j u, (ints (l.take k))[j]? = some u → w.cell? ((⟨g, 0, none⟩ : Addr).add j) = some u := by
  intro j u hu
  rw [Addr.add_lit, Nat.zero_add]
  have hlen : (ints l).length = n * 1 := h.1
  have hu2 : (ints l)[j]? = some u := by
    simp only [ints, List.map_take, List.getElem?_take] at hu ⊢
    split at hu
    · exact hu
    · cases hu
  have hj := (List.getElem?_eq_some_iff.1 hu2).1
  rw [h.cellAt j (by omega)]; exact hu2
theorem own_drop {w : World} {lo g cap n : Nat} {e : TypeId} {l : List Int} (h : w.ownsRow lo e 1 (.slice (some ⟨g, 0, none⟩) n cap) n (ints l)) (k : Nat) : ∀ j u, (ints (l.drop k))[j]? = some u → w.cell? ((⟨g, k, none⟩ : Addr).add j) = some u := by
  intro j u hu
  rw [Addr.add_lit]
  have hlen : (ints l).length = n * 1 := h.1
  have hu2 : (ints l)[k + j]? = some u := by simpa [ints, List.map_drop] using hu
  have hj := (List.getElem?_eq_some_iff.1 hu2).1
  rw [h.cellAt (k + j) (by omega)]; exact hu2
end Go.Proofs.Ytlipkplomndjcaa
namespace Go.Proofs.Ytlipkplomndjcaa
open Go.RowKit
set_option linter.unusedVariables false
set_option linter.unusedSimpArgs false
set_option maxRecDepth 100000

/-- What a draw of a slice of Faults gives. -/
def DrawP (w : World) (g m n : Nat) (e : Ending) (w' : World) : Prop :=
  ∃ (v : Value) (ps : List (Int × Int)), e = .returned v ∧ ps.length ≤ n ∧ Pairs w' v ps ∧ v.ownBlock ≠ some g ∧ CStep w w' g m
theorem own_block_ne {w : World} {lo g : Nat} {e : TypeId} {size n : Nat} {v : Value} {xs : List Value} (h : w.ownsRow lo e size v n xs) (hg : g < lo) : v.ownBlock ≠ some g := by
  rcases h.2 with ⟨rfl, _⟩ | ⟨k, cap, cur, rfl, hb, _⟩
  · simp [Value.ownBlock]
  · simp [Value.ownBlock]; omega
/-- the row without its first pair -/
theorem pairs_tail {w : World} {lo g cap : Nat} {p : Int × Int} {ps : List (Int × Int)} (h : w.ownsRow lo 42 2 (.slice (some ⟨g, 0, none⟩) (ps.length + 1) cap) (ps.length + 1) (flat2 (p :: ps))) (hc : cap ≤ 9223372036854775807) (hn : ps.length + 1 ≤ cap) :
    Pairs w (.slice (some ⟨g, 2, none⟩) ps.length (cap - 1)) ps := by
  refine ⟨_, _, rfl, by omega, by unfold maxLen; omega, ?_, fun _ => ⟨g, 2, rfl, fun j hj => ?_⟩⟩
  · have := h.1; simp [flat2] at this ⊢; omega
  · rw [h.cellAt (2 + j) (by omega)]
    rw [show 2 + j = j + 1 + 1 by omega]; rfl
theorem pairs_none {w : World} {a : Option Addr} {c : Nat} (hc : c ≤ 9223372036854775807) : Pairs w (.slice a 0 c) [] := ⟨a, c, rfl, Nat.zero_le _, by unfold maxLen; omega, rfl, fun h => absurd h (by decide)⟩
theorem own_setCell {w : World} {lo : Nat} {e : TypeId} {size n : Nat} {v : Value} {xs : List Value} (h : w.ownsRow lo e size v n xs) {p : Addr} (hp : v.ownBlock ≠ some p.block) (x : Value) : (w.setCell p x).ownsRow lo e size v n xs :=
  h.kept (row := some p.block) ⟨rfl, rfl, rfl, by simp [World.setCell], fun k hk hne => Below.heap_setCell _ _ _ _ (fun e => hne (by rw [e]))⟩ (.inr hp)
set_option maxHeartbeats 1000000 in
theorem panel3_c (v : Value) (xs : List Int) (g m : Nat) (w : World) (h : CurAt w g m) (hm : m + 500 < 4611686018427387904) (hv : Ints w v xs) (hl : xs.length ≤ 7) :
    Calls Try.prog 96 #[.pointer (some ⟨g, 0, none⟩), v] w (DrawP w g (m + 500) 7) := by
  have HC := Lib.hid h
  have hga := h.lt
  obtain ⟨a, c, rfl, _, _, _⟩ := hv.parts
  clear hv
  obtain ⟨i, hi, hz0, hz1, hz2⟩ := info_parts info_Fault
  have HO : Hid ((w.alloc (.cells #[] 42)).ownsRow w.heap.size 42 2 (.slice (some ⟨w.heap.size, 0, none⟩) 0 0) ([] : List (Int × Int)).length (flat2 [])) := World.ownsRow_lit (e := 42) (size := 2) (base := w.heap.size) w #[] 0 (Nat.le_refl _) (by decide) rfl
  have HS0 := Lib.hid ((CStep.refl HC.out).alloc (.cells #[] 42))
  clear h
  go_enter Try.func96, Try.ntmps96
  go_wp2
  go_loopw [5, 6] (fun o j wr => ∃ (k : Nat) (ps : List (Int × Int)), k ≤ xs.length ∧ j = .int .i64 (k : Int) ∧ ps.length = k ∧ wr.ownsRow w.heap.size 42 2 o ps.length (flat2 ps) ∧ CStep w wr g (m + 40 * k)) (fun _ j _ => xs.length - (intOf j).toNat)
  case atStart => exact ⟨0, [], by omega, rfl, rfl, HO.out, HS0.out⟩
  case round =>
    obtain ⟨k, ps, hk, rfl, rfl, ho, hs⟩ := hrel
    have NE : Hid (u5.ownBlock ≠ some wr.heap.size) := fun e => by have := (ho.lt _ e).2; omega
    have HS := Lib.hid (hs.alloc (.cells #[.int .i64 0, .int .i64 0] 42))
    have HS1 := Lib.hid hs
    have HB := Lib.hid (Bk.new wr 42 #[.int .i64 0, .int .i64 0])
    have HO1 := Lib.hid (ho.alloc (.cells #[.int .i64 0, .int .i64 0] 42))
    have HO2 := Lib.hid ho
    have hsz := hs.gr.size
    clear hs ho HO HS0
    by_cases hlt : ps.length < xs.length
    · have hd : decide ((ps.length : Int) < (xs.length : Int)) = true := by simp; omega
      go_wp2_with fail
      refine (one_c 2 g _ _ HS.out.cur (by omega)).mono ?_
      rintro e w2 ⟨b, rfl, hs⟩
      have HS2 := Lib.hid (HS.out.trans hs)
      have HB2 := Lib.hid (HB.out.step hs (by omega))
      have HO3 := Lib.hid (hs.row HO1.out hga)
      have hlt2 : wr.heap.size < w2.heap.size := HB2.out.lt
      clear hs HB HO1 HO2 HS HS1
      cases b with
      | false =>
        have q0 : w2.cell? ⟨wr.heap.size, 0, none⟩ = some (.int .i64 0) := HB2.out.cell 0
        have q1 : w2.cell? ⟨wr.heap.size, 1, none⟩ = some (.int .i64 0) := HB2.out.cell 1
        go_wp2_with (at_builtin; refine wpList_append_own_at _ rfl _ _ 27 rfl w.heap.size 42 i (.agg #[.int .i64 0, .int .i64 0]) 2 16 Try.underlying27 hi hz0 hz1 hz2 rfl (by decide) _ ps.length (flat2 ps) rfl (HO3.out.alloc _) ⟨w2.heap.size, 0, none⟩ 1 1 [.int .i64 0, .int .i64 0] rfl rfl (news_new _ [.int .i64 0, .int .i64 0] _) (by simp [Value.oneCell']) (by unfold maxLen; omega) (by omega) (by have := HS2.out.gr.size; simp; omega) ?_)
        intro v' w4 ho5 hg5 _ _
        have HS4 := Lib.hid ((HS2.out.alloc _).grown hg5 hga (fun k hk => ((HO3.out.alloc (.cells #[.int .i64 0, .int .i64 0] 42)).lt k hk).1))
        have HO4 := Lib.hid ho5
        clear ho5 hg5
        go_wp2
        go_roundw
        case rel => exact ⟨ps.length + 1, ps ++ [(0, 0)], by omega, by go_num, by simp, ownsRow_cast HO4.out (by simp) (flat2_snoc _ _ _).symm, HS4.out.mono (by omega)⟩
        case measure => simp [intOf]; omega
      | true =>
        go_wp2_with fail
        refine (fault3_c g _ _ HS2.out.cur (by omega)).mono ?_
        rintro e w3 ⟨d, l, rfl, hs⟩
        have HB3 := Lib.hid (HB2.out.step hs (by omega))
        have HO5 := Lib.hid (hs.row HO3.out hga)
        have HS5 := Lib.hid (HS2.out.trans hs)
        have r0 : w3.cell? ⟨wr.heap.size, 0, none⟩ = some (.int .i64 0) := HB3.out.cell 0
        have r1 : w3.cell? ⟨wr.heap.size, 1, none⟩ = some (.int .i64 0) := HB3.out.cell 1
        have f0 : w3.frozen? ⟨wr.heap.size, 0, none⟩ = false := HB3.out.frozen 0
        have f1 : w3.frozen? ⟨wr.heap.size, 1, none⟩ = false := HB3.out.frozen 1
        clear hs HB2 HO3 HS2
        have HO6 : Hid (((w3.setCell ⟨wr.heap.size, 0, none⟩ (.int .i64 d)).setCell ⟨wr.heap.size, 1, none⟩ (.int .i64 l)).ownsRow w.heap.size 42 2 u5 ps.length (flat2 ps)) := own_setCell (own_setCell HO5.out (p := ⟨wr.heap.size, 0, none⟩) NE.out _) (p := ⟨wr.heap.size, 1, none⟩) NE.out _
        have HS6 : Hid (CStep w ((w3.setCell ⟨wr.heap.size, 0, none⟩ (.int .i64 d)).setCell ⟨wr.heap.size, 1, none⟩ (.int .i64 l)) g _) := (HS5.out.store hga hsz _).store hga hsz _
        have e6 : ((w3.setCell ⟨wr.heap.size, 0, none⟩ (.int .i64 d)).setCell ⟨wr.heap.size, 1, none⟩ (.int .i64 l)).heap.size = w3.heap.size := by simp [World.setCell]
        have hn6 := Lib.hid (news_new ((w3.setCell ⟨wr.heap.size, 0, none⟩ (.int .i64 d)).setCell ⟨wr.heap.size, 1, none⟩ (.int .i64 l)) [.int .i64 d, .int .i64 l] 42)
        go_wp2_with (at_builtin; refine wpList_append_own_at _ rfl _ _ 27 rfl w.heap.size 42 i (.agg #[.int .i64 0, .int .i64 0]) 2 16 Try.underlying27 hi hz0 hz1 hz2 rfl (by decide) _ ps.length (flat2 ps) rfl (HO6.out.alloc _) ⟨w3.heap.size, 0, none⟩ 1 1 [.int .i64 d, .int .i64 l] rfl rfl (by have h := hn6.out; rw [e6] at h; exact h) (by simp [Value.oneCell']) (by unfold maxLen; omega) (by omega) (by have := HS6.out.gr.size; simp at this ⊢; omega) ?_)
        intro v' w4 ho5 hg5 _ _
        have HS4 := Lib.hid ((HS6.out.alloc _).grown hg5 hga (fun k hk => ((HO6.out.alloc (.cells #[.int .i64 d, .int .i64 l] 42)).lt k hk).1))
        have HO4 := Lib.hid ho5
        clear ho5 hg5
        go_wp2
        go_roundw
        case rel => exact ⟨ps.length + 1, ps ++ [(d, l)], by omega, by go_num, by simp, ownsRow_cast HO4.out (by simp) (flat2_snoc _ _ _).symm, HS4.out.mono (by omega)⟩
        case measure => simp [intOf]; omega
    · have hl7 : ps.length ≤ 7 := by omega
      have hd : decide ((ps.length : Int) < (xs.length : Int)) = false := by simp; omega
      by_cases h0 : ps.length = 0
      · have hps : ps = [] := List.eq_nil_of_length_eq_zero h0
        subst hps
        obtain ⟨a2, c2, rfl, _, _, _⟩ := (Pairs.of_own HO2.out).parts
        simp only [List.length_nil] at hd ⊢
        go_wp2
        go_ret
        exact ⟨_, [], rfl, by omega, Pairs.of_own HO2.out, own_block_ne HO2.out hga, HS1.out.mono (by omega)⟩
      · obtain ⟨b, cap, rfl, hb1, hb2, hc1, hc2⟩ := own_form HO2.out (by omega)
        have hd0 : 0 < ps.length := by omega
        go_wp2_with fail
        refine (one_c 30 g _ _ HS1.out.cur (by omega)).mono ?_
        rintro e w2 ⟨t, rfl, hs⟩
        have HS2 := Lib.hid (HS1.out.trans hs)
        have HO3 := Lib.hid (hs.row HO2.out hga)
        clear hs
        cases t with
        | false =>
          go_wp2
          go_ret
          exact ⟨_, ps, rfl, by omega, Pairs.of_own HO3.out, own_block_ne HO3.out hga, HS2.out.mono (by omega)⟩
        | true =>
          cases ps with
          | nil => exact absurd rfl h0
          | cons p ps =>
            have hl1 : ps.length + 1 ≤ 7 := by simpa using hl7
            simp only [List.length_cons] at hc1 hd HO3
            by_cases hcp : cap = 1
            · have hcp2 : (cap = 1) = True := eq_true hcp
              subst hcp
              have hps0 : ps = [] := List.eq_nil_of_length_eq_zero (by omega)
              subst hps0
              go_wp2
              go_ret
              exact ⟨_, [], rfl, by simp, pairs_none (by omega), by simp [Value.ownBlock]; omega, HS2.out.mono (by omega)⟩
            · have hcp2 : (cap = 1) = False := eq_false hcp
              go_wp2
              go_ret
              exact ⟨_, ps, rfl, by omega, pairs_tail HO3.out (by unfold maxLen at hc2; omega) hc1, by simp [Value.ownBlock]; omega, HS2.out.mono (by omega)⟩
end Go.Proofs.Ytlipkplomndjcaa
namespace Go.Proofs.Ytlipkplomndjcaa
open Go.RowKit
set_option linter.unusedVariables false
set_option linter.unusedSimpArgs false
set_option maxRecDepth 100000
def lenOf : Value → Nat
  | .slice _ n _ => n
  | _ => 0
set_option maxHeartbeats 2000000 in
theorem test7_c (g m : Nat) (w : World) (h : CurAt w g m) (hm : m + 300 < 4611686018427387904) :
    Calls Try.prog 142 #[.pointer (some ⟨g, 0, none⟩)] w (DrawS w g (m + 300) 11) := by
  have HC := Lib.hid h
  have hga := h.lt
  obtain ⟨i, hi, hz0, hz1, hz2⟩ := info_parts info_int
  have HO := Lib.hid (row_start w w.heap.size (Nat.le_refl _))
  clear h
  go_enter Try.func142, Try.ntmps142
  go_wp2_with fail
  refine (amongL_c [3, 2, 4, 1, 6, 0, 10, 5] g m _ _ (by simp) (HC.out.alloc (.cells #[] 3)) (by omega) (by decide) (by decide)).mono ?_
  rintro e w1 ⟨x, rfl, hx, hs⟩
  have HS := Lib.hid ((((CStep.refl HC.out).alloc (.cells #[] 3)).trans hs))
  have ho := hs.row HO.out hga
  obtain ⟨x0, x1⟩ : 0 ≤ x ∧ x ≤ 10 := by
    simp only [List.mem_cons, List.not_mem_nil, or_false] at hx; omega
  obtain ⟨k, rfl⟩ := Int.eq_ofNat_of_zero_le x0
  have hk : k ≤ 10 := by omega
  clear hs hx x0 x1 HO
  go_wp2
  go_loopw [3, 4] (fun o j wr => ∃ (k : Nat) (xs : List Int), k ≤ 10 ∧ j = .int .i64 (k : Int) ∧ xs.length + k ≤ 10 ∧ wr.ownsRow w.heap.size 3 1 o xs.length (xs.map (Value.int .i64)) ∧ CStep w wr g (m + 2 + 20 * (10 - k))) (fun _ j _ => (intOf j).toNat)
  case atStart => exact ⟨k, [], hk, rfl, by simpa using hk, ho, HS.out.mono (by omega)⟩
  case round =>
    obtain ⟨k, xs, hk, rfl, hl, ho, hs⟩ := hrel
    have HS := Lib.hid hs
    have HO := Lib.hid ho
    clear hs ho
    by_cases hk0 : 0 < k
    · have hd : decide (0 < (k : Int)) = true := by simp; omega
      go_wp2_with fail
      refine (pick_c 10 g _ _ HS.out.cur (by omega)).mono ?_
      rintro e w2 ⟨x1, rfl, _, hs⟩
      have HS2 := Lib.hid (HS.out.trans hs)
      have HO2 := Lib.hid (hs.row HO.out hga)
      clear hs HS HO
      go_wp2_with fail
      refine (pick_c 10 g _ _ HS2.out.cur (by omega)).mono ?_
      rintro e w3 ⟨x2, rfl, _, hs⟩
      have HS3 := Lib.hid (HS2.out.trans hs)
      have HO3 := Lib.hid (hs.row HO2.out hga)
      clear hs HS2 HO2
      go_wp2_with fail
      refine (pick_c 10 g _ _ HS3.out.cur (by omega)).mono ?_
      rintro e w4 ⟨x3, rfl, _, hs⟩
      have HS4 := Lib.hid (HS3.out.trans hs)
      have HO4 := Lib.hid (hs.row HO3.out hga)
      clear hs HS3 HO3
      go_wp2_with fail
      refine (amongL_c [x1, 8, 1, 2, x2, x3] g _ _ _ rfl HS4.out.cur (by omega) (by simp) (by simp)).mono ?_
      rintro e w5 ⟨x, rfl, _, hs⟩
      have HS5 := Lib.hid (HS4.out.trans hs)
      have HO5 := Lib.hid (hs.row HO4.out hga)
      clear hs HS4 HO4
      go_wp2_with (at_builtin; refine wpList_append_own_at _ rfl _ _ 24 rfl w.heap.size 3 i (.int .i64 0) 1 8 Try.underlying24 hi hz0 hz1 hz2 rfl (by decide) _ xs.length (xs.map (Value.int .i64)) rfl (HO5.out.alloc _) ⟨w5.heap.size, 0, none⟩ 1 1 [.int .i64 x] rfl rfl (news_new _ [.int .i64 x] _) (by simp [Value.oneCell']) (by unfold maxLen; omega) (by omega) (by have := HS5.out.gr.size; simp; omega) ?_)
      intro v' w6 ho5 hg5 _ _
      have HS6 := Lib.hid ((HS5.out.alloc _).grown hg5 hga (fun k hk => ((HO5.out.alloc (.cells #[.int .i64 x] 3)).lt k hk).1))
      have HO6 := Lib.hid ho5
      clear ho5 hg5
      go_wp2
      go_roundw
      case rel => exact ⟨k - 1, xs ++ [x], by omega, by go_num, by simp; omega, ownsRow_cast HO6.out (by simp) (ints_snoc _ _).symm, HS6.out.mono (by omega)⟩
      case measure => simp [intOf]; omega
    · obtain rfl : k = 0 := by omega
      clear hk0
      go_wp2_with fail
      refine (pick_c 40 g _ _ HS.out.cur (by omega)).mono ?_
      rintro e w2 ⟨x, rfl, _, hs⟩
      have HS2 := Lib.hid (HS.out.trans hs)
      have HO2 := Lib.hid (hs.row HO.out hga)
      clear hs HS HO
      by_cases e0 : x = 0
      · subst e0
        go_wp2_with fail
        refine (amongL_c [10, -1, 4611686018427387904] g _ _ _ rfl HS2.out.cur (by omega) (by decide) (by decide)).mono ?_
        rintro e w3 ⟨y, rfl, _, hs⟩
        have HS3 := Lib.hid (HS2.out.trans hs)
        have HO3 := Lib.hid (hs.row HO2.out hga)
        clear hs HS2 HO2
        go_wp2_with (at_builtin; refine wpList_append_own_at _ rfl _ _ 24 rfl w.heap.size 3 i (.int .i64 0) 1 8 Try.underlying24 hi hz0 hz1 hz2 rfl (by decide) _ xs.length (xs.map (Value.int .i64)) rfl (HO3.out.alloc _) ⟨w3.heap.size, 0, none⟩ 1 1 [.int .i64 y] rfl rfl (news_new _ [.int .i64 y] _) (by simp [Value.oneCell']) (by unfold maxLen; omega) (by omega) (by have := HS3.out.gr.size; simp; omega) ?_)
        intro v' w6 ho5 hg5 _ _
        have HS6 := Lib.hid ((HS3.out.alloc _).grown hg5 hga (fun k hk => ((HO3.out.alloc (.cells #[.int .i64 y] 3)).lt k hk).1))
        have HO6 := Lib.hid ho5
        clear ho5 hg5
        go_wp2
        go_ret
        exact ⟨_, xs ++ [y], rfl, by simp; omega, ownsRow_cast HO6.out (by simp) (ints_snoc _ _).symm, HS6.out.mono (by omega)⟩
      · by_cases e1 : x = 1
        · subst e1
          go_wp2
          go_loopw [3] (fun o wr => ∃ (xs : List Int), xs.length ≤ 11 ∧ wr.ownsRow w.heap.size 3 1 o xs.length (xs.map (Value.int .i64)) ∧ CStep w wr g (m + 2 + 20 * (10 - 0) + 2)) (fun o _ => 11 - lenOf o)
          case atStart => exact ⟨xs, by omega, HO2.out, HS2.out⟩
          case round =>
            obtain ⟨xs, hl, ho, hs⟩ := hrel
            obtain ⟨aa, cc, hvv, _, _, _⟩ := (Ints.of_own ho).parts
            subst hvv
            have HS3 := Lib.hid hs
            have HO3 := Lib.hid ho
            clear hs ho HS2 HO2
            by_cases hlt : xs.length < 11
            · have hd : decide ((xs.length : Int) < 11) = true := by simp; omega
              go_wp2_with (at_builtin; refine wpList_append_own_at _ rfl _ _ 24 rfl w.heap.size 3 i (.int .i64 0) 1 8 Try.underlying24 hi hz0 hz1 hz2 rfl (by decide) _ xs.length (xs.map (Value.int .i64)) rfl (HO3.out.alloc _) ⟨wr.heap.size, 0, none⟩ 1 1 [.int .i64 8] rfl rfl (news_new _ [.int .i64 8] _) (by simp [Value.oneCell']) (by unfold maxLen; omega) (by omega) (by have := HS3.out.gr.size; simp; omega) ?_)
              intro v' w6 ho5 hg5 _ _
              have HS6 := Lib.hid ((HS3.out.alloc _).grown hg5 hga (fun k hk => ((HO3.out.alloc (.cells #[.int .i64 8] 3)).lt k hk).1))
              obtain ⟨b, cap, rfl, _⟩ := own_form ho5 (by omega)
              have HO6 := Lib.hid ho5
              clear ho5 hg5
              go_wp2
              go_roundw
              case rel => exact ⟨xs ++ [8], by simp; omega, ownsRow_cast HO6.out (by simp) (ints_snoc _ _).symm, HS6.out⟩
              case measure => simp [lenOf]; omega
            · have hd : decide ((xs.length : Int) < 11) = false := by simp; omega
              go_wp2
              go_ret
              exact ⟨_, xs, rfl, hl, HO3.out, HS3.out.mono (by omega)⟩
        · go_wp2
          go_ret
          exact ⟨_, xs, rfl, by omega, HO2.out, HS2.out.mono (by omega)⟩
theorem DrawFoundStates_c (v : Value) (xs : List Nat) (w : World) (h : Code w v xs) :
    Calls Try.prog 76 #[v] w fun e w' => ∃ (u : Value) (ys : List Int), e = .returned u ∧ ys.length ≤ 11 ∧ w'.ownsRow w.heap.size 3 1 u ys.length (ys.map (Value.int .i64)) ∧ Below w.heap.size w w' := by
  have HK := Lib.hid (cur_new h)
  obtain ⟨a, c, rfl, _⟩ := h
  go_enter Try.func76, Try.ntmps76
  go_wp2_with fail
  refine (test7_c w.heap.size 0 _ HK.out (by omega)).mono ?_
  rintro e w1 ⟨u, ys, rfl, hl, ho, hs⟩
  have HS := Lib.hid hs
  have HO := Lib.hid (own_lo ho (lo' := w.heap.size) (by simp))
  clear hs ho
  go_wp2
  go_ret
  exact ⟨_, ys, rfl, hl, HO.out, draw_below HS.out⟩
theorem ints_take {w : World} {a : Option Addr} {c : Nat} {xs : List Int} (h : Ints w (.slice a xs.length c) xs) (n : Nat) (hn : n ≤ xs.length) : Ints w (.slice a n c) (xs.take n) := by
  obtain ⟨a', c', e, h1, h2, h3, h4⟩ := h
  cases e
  have hl : (xs.take n).length = n := by rw [List.length_take]; omega
  refine ⟨a, c, by rw [hl], by rw [hl]; omega, h2, by rw [List.length_map, Nat.mul_one], fun hn0 => ?_⟩
  rw [hl] at hn0 ⊢
  obtain ⟨b, off, e, hc⟩ := h4 (by omega)
  refine ⟨b, off, e, fun j hj => ?_⟩
  rw [hc j (by omega), List.map_take, List.getElem?_take, if_pos (by omega)]
/-- one of the first numbers of those that are written where they are asked for, a few more now and then -/
theorem amongT_c (xs : List Int) (n : Nat) (b g m : Nat) (w : World) (h : CurAt w g m) (hm : m + 2 < 4611686018427387904) (hv : Ints w (.slice (some ⟨b, 0, none⟩) xs.length xs.length) xs) (hne : b ≠ g) (hn0 : 0 < n) (hn : n ≤ xs.length) :
    Calls Try.prog 79 #[.pointer (some ⟨g, 0, none⟩), .slice (some ⟨b, 0, none⟩) n xs.length] w (DrawI w g (m + 2) fun x => x ∈ xs) :=
  (among_c _ (xs.take n) g m _ h hm (ints_take hv n hn) (by simpa [Value.ownBlock] using hne) (by rw [List.length_take]; omega)).mono fun e w' ⟨x, he, hx, hs⟩ => ⟨x, he, List.mem_of_mem_take hx, hs⟩
theorem div11 {x : Int} (h0 : 0 ≤ x) (h1 : x < 24) : Int.tdiv x 11 = 0 ∨ Int.tdiv x 11 = 1 ∨ Int.tdiv x 11 = 2 := by
  rw [Int.tdiv_eq_ediv_of_nonneg h0]; omega
theorem DrawCountFullTests_c (v : Value) (xs : List Nat) (w : World) (h : Code w v xs) :
    Calls Try.prog 72 #[v] w fun e w' => ∃ x : Int, e = .returned (.int .i64 x) ∧ Below w.heap.size w w' := by
  have HK := Lib.hid (cur_new h)
  obtain ⟨a, c, rfl, _⟩ := h
  have HI := Lib.hid (ints_lit (w.alloc (.cells #[.slice a xs.length c, .int .i64 0, .int .u64 0] 88)) [3, 2, 4, 10, 5, 0, 11, -1] (by decide))
  rw [World.size_alloc] at HI
  go_enter Try.func72, Try.ntmps72
  go_wp2_with fail
  refine (pick_c 24 w.heap.size 0 _ (HK.out.alloc _) (by omega)).mono ?_
  rintro e w1 ⟨x, rfl, hx, hs⟩
  have HS : Hid (CStep (w.alloc (.cells #[.slice a xs.length c, .int .i64 0, .int .u64 0] 88)) w1 w.heap.size 2) := ((CStep.refl HK.out).alloc _).trans hs
  have HI2 : Hid (Ints w1 (.slice (some ⟨w.heap.size + 1, 0, none⟩) 8 8) [3, 2, 4, 10, 5, 0, 11, -1]) := HI.out.grown hs.gr (.inr (by simp [Value.ownBlock]))
  have hx0 := hx.1
  have hx1 := hx.2 (by omega)
  clear hs hx
  rcases div11 hx0 hx1 with hq | hq | hq
  · go_wp2_with fail
    refine (amongT_c [3, 2, 4, 10, 5, 0, 11, -1] 6 (w.heap.size + 1) w.heap.size 2 _ HS.out.cur (by omega) HI2.out (by omega) (by decide) (by decide)).mono ?_
    rintro e w2 ⟨y, rfl, _, hs⟩
    have HS2 := Lib.hid (HS.out.trans hs)
    clear hs
    go_wp2
    go_ret
    exact ⟨_, rfl, draw_below HS2.out⟩
  · go_wp2_with fail
    refine (amongT_c [3, 2, 4, 10, 5, 0, 11, -1] 7 (w.heap.size + 1) w.heap.size 2 _ HS.out.cur (by omega) HI2.out (by omega) (by decide) (by decide)).mono ?_
    rintro e w2 ⟨y, rfl, _, hs⟩
    have HS2 := Lib.hid (HS.out.trans hs)
    clear hs
    go_wp2
    go_ret
    exact ⟨_, rfl, draw_below HS2.out⟩
  · go_wp2_with fail
    refine (amongT_c [3, 2, 4, 10, 5, 0, 11, -1] 8 (w.heap.size + 1) w.heap.size 2 _ HS.out.cur (by omega) HI2.out (by omega) (by decide) (by decide)).mono ?_
    rintro e w2 ⟨y, rfl, _, hs⟩
    have HS2 := Lib.hid (HS.out.trans hs)
    clear hs
    go_wp2
    go_ret
    exact ⟨_, rfl, draw_below HS2.out⟩
end Go.Proofs.Ytlipkplomndjcaa
