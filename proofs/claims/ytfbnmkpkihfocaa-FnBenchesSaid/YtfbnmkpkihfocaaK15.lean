/- Texts of this claim, gathered: LwLBenches. -/
import Derived.Test.YtfbnmkpkihfocaaK14
namespace Go.Proofs.Ytfbnmkpkihfocaa
open Go.RowKit
set_option linter.unusedVariables false
set_option linter.unusedSimpArgs false
set_option maxRecDepth 100000
set_option maxHeartbeats 100000000 in
theorem FnBenches_walk (v : Value) (xs : List Nat) (w : World) (h : Code w v xs) :
    Calls Try.prog 4 #[v] w fun e w' => e = .returned (.bool true) ∧ Below w.heap.size w w' := by
  have HK := Lib.hid h
  obtain ⟨a, c, rfl, _⟩ := h
  have HV := Lib.hid (vBig_c _ _ _ HK.out)
  by_cases hbig : 65536 < xs.length
  · have hd : decide (65536 < xs.length) = true := decide_eq_true hbig
    go_enter Try.func4, Try.ntmps4
    go_wp2_with fail
    refine HV.out.mono ?_
    rintro e w1 ⟨rfl, rfl⟩
    go_wp2
    go_ret
    exact ⟨rfl, Below.refl _ _⟩
  have hd : decide (65536 < xs.length) = false := decide_eq_false hbig
  go_enter Try.func4, Try.ntmps4
  go_wp2_with fail
  refine HV.out.mono ?_
  rintro e _ ⟨rfl, rfl⟩
  have BX := Lib.hid (Below.refl w.heap.size w)
  go_wp2_with fail
  refine (DrawNewBench_c _ xs _ HK.out).mono ?_
  rintro e w1 ⟨v1, r1, rfl, i1, hb1⟩
  replace BX := Lib.hid (Below.chain BX.out hb1)
  replace HK := Lib.hid (HK.out.below hb1)
  have I1 := Lib.hid (i1)
  clear hb1
  clear i1
  have hA := nbB_len r1
  have HA : Hid (rowB r1 = true → goodB (nbB r1) = true) := nbB_good
  have NB1 := fun W h => NewBench_c v1 r1 W h
  have NB2 := fun W h => sNewBench_c v1 r1 W h
  generalize nbB r1 = A at *
  generalize rowB r1 = okA at *
  unfold mkV aggI at NB1 NB2
  replace NB1 := Lib.hid NB1
  replace NB2 := Lib.hid NB2
  go_wp2_with fail
  refine (NB1.out _ I1.out).mono ?_
  rintro e w2 ⟨rfl, hb2⟩
  replace BX := Lib.hid (Below.chain BX.out hb2)
  replace HK := Lib.hid (HK.out.below hb2)
  replace I1 := Lib.hid (I1.out.below hb2)
  clear hb2
  have tbX4 := (Bk.new w2 50 zBA).there (n := 19) (by decide)
  have hxX4 := below_cells (ints A) (w2.alloc (.cells zBA 50)) w2.heap.size 0 (below_one (w := w2) (.cells zBA 50)) (Nat.le_refl _)
  replace BX := Lib.hid (Below.chain BX.out hxX4)
  replace HK := Lib.hid (HK.out.below hxX4)
  replace I1 := Lib.hid (I1.out.below hxX4)
  have X4 := Lib.hid (show Bk ((w2.alloc (.cells zBA 50)).setCells w2.heap.size 0 (ints A)) w2.heap.size 50 (ints A).toArray from Bk.putB (b := zeroI) (Bk.new w2 50 zBA) zero_len hA)
  clear hxX4
  unfold zBA at *
  go_wp2_with (refine wpList_storeB rfl _ _ rfl _ A rfl rfl ?_ hA ?_; exact tbX4)
  clear tbX4
  generalize World.setCells _ w2.heap.size 0 (ints A) = wb1 at *
  refine (NB2.out _ I1.out).mono ?_
  rintro e w3 ⟨rfl, hb3⟩
  replace BX := Lib.hid (Below.chain BX.out hb3)
  replace HK := Lib.hid (HK.out.below hb3)
  replace I1 := Lib.hid (I1.out.below hb3)
  replace X4 := Lib.hid (X4.out.below hb3)
  clear hb3
  have tbX6 := (Bk.new w3 50 zBA).there (n := 19) (by decide)
  have hxX6 := below_cells (ints A) (w3.alloc (.cells zBA 50)) w3.heap.size 0 (below_one (w := w3) (.cells zBA 50)) (Nat.le_refl _)
  replace BX := Lib.hid (Below.chain BX.out hxX6)
  replace HK := Lib.hid (HK.out.below hxX6)
  replace I1 := Lib.hid (I1.out.below hxX6)
  replace X4 := Lib.hid (X4.out.below hxX6)
  have X6 := Lib.hid (show Bk ((w3.alloc (.cells zBA 50)).setCells w3.heap.size 0 (ints A)) w3.heap.size 50 (ints A).toArray from Bk.putB (b := zeroI) (Bk.new w3 50 zBA) zero_len hA)
  clear hxX6
  unfold zBA at *
  clear I1 NB1 NB2
  go_wp2_with (refine wpList_storeB rfl _ _ rfl _ A rfl rfl ?_ hA ?_; exact tbX6)
  clear tbX6
  generalize World.setCells _ w3.heap.size 0 (ints A) = wb2 at *
  refine (vCut_c 1 _ xs _ HK.out (by omega) (by decide)).mono ?_
  rintro e w4 ⟨vc1, ys1, rfl, hcy, _, hb4⟩
  replace BX := Lib.hid (Below.chain BX.out hb4)
  replace HK := Lib.hid (HK.out.below hb4)
  replace X4 := Lib.hid (X4.out.below hb4)
  replace X6 := Lib.hid (X6.out.below hb4)
  have HY := Lib.hid (hcy)
  clear hb4
  clear hcy
  go_wp2_with fail
  refine (DrawDoJob_c _ ys1 _ HY.out).mono ?_
  rintro e w5 ⟨b, jk, ja, jb, hl, rfl, hb5⟩
  replace BX := Lib.hid (Below.chain BX.out hb5)
  replace HK := Lib.hid (HK.out.below hb5)
  replace X4 := Lib.hid (X4.out.below hb5)
  replace X6 := Lib.hid (X6.out.below hb5)
  replace HY := Lib.hid (HY.out.below hb5)
  clear hb5
  clear HY
  obtain ⟨Y, ok1, hdj, hY, hF⟩ := djV_full hl jk ja jb
  have HF := Lib.hid hF
  have DJ1 := fun W => DoJob_c b jk ja jb W hl
  have DJ2 := fun W => sDoJob_c b jk ja jb W hl
  rw [hdj] at DJ1 DJ2
  have IB1 := fun W => IsBench_c b W hl
  have IB2 := fun W => sIsBench_c b W hl
  have SR1 := fun W => SentRow_c b W hl
  have SR2 := fun W => sSentRow_c b W hl
  have BR1 := fun W => BenchRow_c b W hl
  have BR2 := fun W => sBenchRow_c b W hl
  have BL := fun h1 h2 => bn_law (b := b) (k := jk) (a := ja) (v := jb) hl h1 h2
  clear hF
  generalize brL b false = SL at *
  unfold mkV aggI jobV at *
  replace DJ1 := Lib.hid DJ1
  replace DJ2 := Lib.hid DJ2
  replace IB1 := Lib.hid IB1
  replace IB2 := Lib.hid IB2
  replace SR1 := Lib.hid SR1
  replace SR2 := Lib.hid SR2
  replace BR1 := Lib.hid BR1
  replace BR2 := Lib.hid BR2
  replace BL := Lib.hid BL
  have HDJ := Lib.hid hdj
  clear hdj
  have tb8 := ((Bk.new w5 50 zBA).alloc (.cells #[.int .i64 0, .int .i64 0, .int .i64 0] 54)).there (n := 19) (by decide)
  have j8 := (Bk.new (w5.alloc (.cells zBA 50)) 54 #[.int .i64 0, .int .i64 0, .int .i64 0]).far (ints b) (g2 := w5.heap.size) 0 (by simp)
  have hx8 := (((below_cells (ints b) ((w5.alloc (.cells zBA 50)).alloc (.cells #[.int .i64 0, .int .i64 0, .int .i64 0] 54)) w5.heap.size 0 (Below.alc (below_one (w := w5) (.cells zBA 50)) _) (Nat.le_refl _)).setCell (p := ⟨w5.heap.size + 1, 0, none⟩) (by simp) (.int .i64 jk)).setCell (p := ⟨w5.heap.size + 1, 1, none⟩) (by simp) (.int .i64 ja)).setCell (p := ⟨w5.heap.size + 1, 2, none⟩) (by simp) (.int .i64 jb)
  rw [World.size_alloc] at j8
  replace BX := Lib.hid (Below.chain BX.out hx8)
  replace HK := Lib.hid (HK.out.below hx8)
  replace X4 := Lib.hid (X4.out.below hx8)
  replace X6 := Lib.hid (X6.out.below hx8)
  have q80 := j8.cell 0
  have q81 := j8.cell 1
  have q82 := j8.cell 2
  have e80 := j8.frozen 0
  have e81 := j8.frozen 1
  have e82 := j8.frozen 2
  have X9 := Lib.hid (three_resB j8 (.int .i64 jk) (.int .i64 ja) (.int .i64 jb))
  have X8 := Lib.hid ((((show Bk (((w5.alloc (.cells zBA 50)).alloc (.cells #[.int .i64 0, .int .i64 0, .int .i64 0] 54)).setCells w5.heap.size 0 (ints b)) w5.heap.size 50 (ints b).toArray from Bk.putB (b := zeroI) ((Bk.new w5 50 zBA).alloc (.cells #[.int .i64 0, .int .i64 0, .int .i64 0] 54)) zero_len hl).other (p := ⟨w5.heap.size + 1, 0, none⟩) (by simp) (.int .i64 jk)).other (p := ⟨w5.heap.size + 1, 1, none⟩) (by simp) (.int .i64 ja)).other (p := ⟨w5.heap.size + 1, 2, none⟩) (by simp) (.int .i64 jb))
  have L8 := X8.out.range
  have p0 := X9.out.cell 0
  have p1 := X9.out.cell 1
  have p2 := X9.out.cell 2
  clear hx8 j8
  simp at q80 q81 q82 e80 e81 e82
  unfold zBA at *
  go_wp2_with (first | (refine wpList_storeB rfl _ _ rfl _ b rfl rfl ?_ hl ?_; exact tb8) | (refine wpList_loadB rfl _ rfl _ rfl b ?_ hl ?_; exact L8))
  clear tb8 L8 q80 q81 q82 e80 e81 e82 p0 p1 p2
  generalize World.setCell (World.setCell (World.setCell _ _ _) _ _) _ _ = wbj at *
  refine (DJ1.out _).mono ?_
  rintro e w6 ⟨rfl, hb6⟩
  replace BX := Lib.hid (Below.chain BX.out hb6)
  replace HK := Lib.hid (HK.out.below hb6)
  replace X4 := Lib.hid (X4.out.below hb6)
  replace X6 := Lib.hid (X6.out.below hb6)
  replace X8 := Lib.hid (X8.out.below hb6)
  replace X9 := Lib.hid (X9.out.below hb6)
  clear hb6
  have tbX10 := (Bk.new w6 50 zBA).there (n := 19) (by decide)
  have hxX10 := below_cells (ints Y) (w6.alloc (.cells zBA 50)) w6.heap.size 0 (below_one (w := w6) (.cells zBA 50)) (Nat.le_refl _)
  replace BX := Lib.hid (Below.chain BX.out hxX10)
  replace HK := Lib.hid (HK.out.below hxX10)
  replace X4 := Lib.hid (X4.out.below hxX10)
  replace X6 := Lib.hid (X6.out.below hxX10)
  replace X8 := Lib.hid (X8.out.below hxX10)
  replace X9 := Lib.hid (X9.out.below hxX10)
  have X10 := Lib.hid (show Bk ((w6.alloc (.cells zBA 50)).setCells w6.heap.size 0 (ints Y)) w6.heap.size 50 (ints Y).toArray from Bk.putB (b := zeroI) (Bk.new w6 50 zBA) zero_len hY)
  clear hxX10
  unfold zBA at *
  have p0 := X9.out.cell 0
  have p1 := X9.out.cell 1
  have p2 := X9.out.cell 2
  simp only [List.getElem?_toArray, List.getElem?_cons_zero, List.getElem?_cons_succ] at p0 p1 p2
  have LX8 := (X8.out).range
  go_wp2_with (first | (refine wpList_storeB rfl _ _ rfl _ Y rfl rfl ?_ hY ?_; exact tbX10) | (refine wpList_loadB rfl _ rfl _ rfl b ?_ hl ?_; exact LX8))
  clear tbX10
  generalize World.setCells _ w6.heap.size 0 (ints Y) = wb3 at *
  clear p0 p1 p2
  refine (DJ2.out _).mono ?_
  rintro e w7 ⟨rfl, hb7⟩
  replace BX := Lib.hid (Below.chain BX.out hb7)
  replace HK := Lib.hid (HK.out.below hb7)
  replace X4 := Lib.hid (X4.out.below hb7)
  replace X6 := Lib.hid (X6.out.below hb7)
  replace X8 := Lib.hid (X8.out.below hb7)
  replace X9 := Lib.hid (X9.out.below hb7)
  replace X10 := Lib.hid (X10.out.below hb7)
  clear hb7 LX8
  have tbX12 := (Bk.new w7 50 zBA).there (n := 19) (by decide)
  have hxX12 := below_cells (ints Y) (w7.alloc (.cells zBA 50)) w7.heap.size 0 (below_one (w := w7) (.cells zBA 50)) (Nat.le_refl _)
  replace BX := Lib.hid (Below.chain BX.out hxX12)
  replace HK := Lib.hid (HK.out.below hxX12)
  replace X4 := Lib.hid (X4.out.below hxX12)
  replace X6 := Lib.hid (X6.out.below hxX12)
  replace X8 := Lib.hid (X8.out.below hxX12)
  replace X9 := Lib.hid (X9.out.below hxX12)
  replace X10 := Lib.hid (X10.out.below hxX12)
  have X12 := Lib.hid (show Bk ((w7.alloc (.cells zBA 50)).setCells w7.heap.size 0 (ints Y)) w7.heap.size 50 (ints Y).toArray from Bk.putB (b := zeroI) (Bk.new w7 50 zBA) zero_len hY)
  clear hxX12
  unfold zBA at *
  go_wp2_with (refine wpList_storeB rfl _ _ rfl _ Y rfl rfl ?_ hY ?_; exact tbX12)
  clear tbX12
  generalize World.setCells _ w7.heap.size 0 (ints Y) = wb4 at *
  refine (vCut_c 2 _ xs _ HK.out (by omega) (by decide)).mono ?_
  rintro e w8 ⟨vc2, ys2, rfl, hcy, _, hb8⟩
  replace BX := Lib.hid (Below.chain BX.out hb8)
  replace HK := Lib.hid (HK.out.below hb8)
  replace X4 := Lib.hid (X4.out.below hb8)
  replace X6 := Lib.hid (X6.out.below hb8)
  replace X8 := Lib.hid (X8.out.below hb8)
  replace X9 := Lib.hid (X9.out.below hb8)
  replace X10 := Lib.hid (X10.out.below hb8)
  replace X12 := Lib.hid (X12.out.below hb8)
  have HY := Lib.hid (hcy)
  clear hb8
  clear hcy
  clear HK
  go_wp2_with fail
  refine (DrawDoJobs_c _ ys2 _ HY.out).mono ?_
  rintro e w9 ⟨bu, v15, js, hbu, rfl, i15, hb9⟩
  replace BX := Lib.hid (Below.chain BX.out hb9)
  replace X4 := Lib.hid (X4.out.below hb9)
  replace X6 := Lib.hid (X6.out.below hb9)
  replace X8 := Lib.hid (X8.out.below hb9)
  replace X9 := Lib.hid (X9.out.below hb9)
  replace X10 := Lib.hid (X10.out.below hb9)
  replace X12 := Lib.hid (X12.out.below hb9)
  replace HY := Lib.hid (HY.out.below hb9)
  have I15 := Lib.hid (i15)
  clear hb9
  clear i15
  clear HY
  have DS1 := fun W h => DoJobs_c bu v15 js W hbu h
  have DS2 := fun W h => sDoJobs_c bu v15 js W hbu h
  obtain ⟨E, mn, ok2, hds, hE, hG2⟩ := djsV_good hbu js
  rw [hds] at DS1 DS2
  have HG2 := Lib.hid hG2
  clear hds hG2
  unfold trV aggI at DS1 DS2
  replace DS1 := Lib.hid DS1
  replace DS2 := Lib.hid DS2
  have tbX14 := (Bk.new w9 50 zBA).there (n := 19) (by decide)
  have hxX14 := below_cells (ints bu) (w9.alloc (.cells zBA 50)) w9.heap.size 0 (below_one (w := w9) (.cells zBA 50)) (Nat.le_refl _)
  replace BX := Lib.hid (Below.chain BX.out hxX14)
  replace X4 := Lib.hid (X4.out.below hxX14)
  replace X6 := Lib.hid (X6.out.below hxX14)
  replace X8 := Lib.hid (X8.out.below hxX14)
  replace X9 := Lib.hid (X9.out.below hxX14)
  replace X10 := Lib.hid (X10.out.below hxX14)
  replace X12 := Lib.hid (X12.out.below hxX14)
  replace I15 := Lib.hid (I15.out.below hxX14)
  have X14 := Lib.hid (show Bk ((w9.alloc (.cells zBA 50)).setCells w9.heap.size 0 (ints bu)) w9.heap.size 50 (ints bu).toArray from Bk.putB (b := zeroI) (Bk.new w9 50 zBA) zero_len hbu)
  clear hxX14
  unfold zBA at *
  have LX14 := (X14.out).range
  go_wp2_with (first | (refine wpList_storeB rfl _ _ rfl _ bu rfl rfl ?_ hbu ?_; exact tbX14) | (refine wpList_loadB rfl _ rfl _ rfl bu ?_ hbu ?_; exact LX14))
  clear tbX14
  generalize World.setCells _ w9.heap.size 0 (ints bu) = wb5 at *
  refine (DS1.out _ I15.out).mono ?_
  rintro e w10 ⟨rfl, hb10⟩
  replace BX := Lib.hid (Below.chain BX.out hb10)
  replace X4 := Lib.hid (X4.out.below hb10)
  replace X6 := Lib.hid (X6.out.below hb10)
  replace X8 := Lib.hid (X8.out.below hb10)
  replace X9 := Lib.hid (X9.out.below hb10)
  replace X10 := Lib.hid (X10.out.below hb10)
  replace X12 := Lib.hid (X12.out.below hb10)
  replace I15 := Lib.hid (I15.out.below hb10)
  replace X14 := Lib.hid (X14.out.below hb10)
  clear hb10 LX14
  have tbX16 := (Bk.new w10 50 zBA).there (n := 19) (by decide)
  have hxX16 := below_cells (ints E) (w10.alloc (.cells zBA 50)) w10.heap.size 0 (below_one (w := w10) (.cells zBA 50)) (Nat.le_refl _)
  replace BX := Lib.hid (Below.chain BX.out hxX16)
  replace X4 := Lib.hid (X4.out.below hxX16)
  replace X6 := Lib.hid (X6.out.below hxX16)
  replace X8 := Lib.hid (X8.out.below hxX16)
  replace X9 := Lib.hid (X9.out.below hxX16)
  replace X10 := Lib.hid (X10.out.below hxX16)
  replace X12 := Lib.hid (X12.out.below hxX16)
  replace I15 := Lib.hid (I15.out.below hxX16)
  replace X14 := Lib.hid (X14.out.below hxX16)
  have X16 := Lib.hid (show Bk ((w10.alloc (.cells zBA 50)).setCells w10.heap.size 0 (ints E)) w10.heap.size 50 (ints E).toArray from Bk.putB (b := zeroI) (Bk.new w10 50 zBA) zero_len hE)
  clear hxX16
  unfold zBA at *
  have LX14 := (X14.out).range
  go_wp2_with (first | (refine wpList_storeB rfl _ _ rfl _ E rfl rfl ?_ hE ?_; exact tbX16) | (refine wpList_loadB rfl _ rfl _ rfl bu ?_ hbu ?_; exact LX14))
  clear tbX16
  generalize World.setCells _ w10.heap.size 0 (ints E) = wb6 at *
  refine (DS2.out _ I15.out).mono ?_
  rintro e w11 ⟨rfl, hb11⟩
  replace BX := Lib.hid (Below.chain BX.out hb11)
  replace X4 := Lib.hid (X4.out.below hb11)
  replace X6 := Lib.hid (X6.out.below hb11)
  replace X8 := Lib.hid (X8.out.below hb11)
  replace X9 := Lib.hid (X9.out.below hb11)
  replace X10 := Lib.hid (X10.out.below hb11)
  replace X12 := Lib.hid (X12.out.below hb11)
  replace I15 := Lib.hid (I15.out.below hb11)
  replace X14 := Lib.hid (X14.out.below hb11)
  replace X16 := Lib.hid (X16.out.below hb11)
  clear hb11 LX14
  clear I15 X14 DS1 DS2
  have tbX19 := (Bk.new w11 50 zBA).there (n := 19) (by decide)
  have hxX19 := below_cells (ints E) (w11.alloc (.cells zBA 50)) w11.heap.size 0 (below_one (w := w11) (.cells zBA 50)) (Nat.le_refl _)
  replace BX := Lib.hid (Below.chain BX.out hxX19)
  replace X4 := Lib.hid (X4.out.below hxX19)
  replace X6 := Lib.hid (X6.out.below hxX19)
  replace X8 := Lib.hid (X8.out.below hxX19)
  replace X9 := Lib.hid (X9.out.below hxX19)
  replace X10 := Lib.hid (X10.out.below hxX19)
  replace X12 := Lib.hid (X12.out.below hxX19)
  replace X16 := Lib.hid (X16.out.below hxX19)
  have X19 := Lib.hid (show Bk ((w11.alloc (.cells zBA 50)).setCells w11.heap.size 0 (ints E)) w11.heap.size 50 (ints E).toArray from Bk.putB (b := zeroI) (Bk.new w11 50 zBA) zero_len hE)
  clear hxX19
  unfold zBA at *
  have LX8 := (X8.out).range
  go_wp2_with (first | (refine wpList_storeB rfl _ _ rfl _ E rfl rfl ?_ hE ?_; exact tbX19) | (refine wpList_loadB rfl _ rfl _ rfl b ?_ hl ?_; exact LX8))
  clear tbX19
  generalize World.setCells _ w11.heap.size 0 (ints E) = wb7 at *
  refine (SR1.out _).mono ?_
  rintro e w12 ⟨u22, rfl, ho, hb12⟩
  replace BX := Lib.hid (Below.chain BX.out hb12)
  replace X4 := Lib.hid (X4.out.below hb12)
  replace X6 := Lib.hid (X6.out.below hb12)
  replace X8 := Lib.hid (X8.out.below hb12)
  replace X9 := Lib.hid (X9.out.below hb12)
  replace X10 := Lib.hid (X10.out.below hb12)
  replace X12 := Lib.hid (X12.out.below hb12)
  replace X16 := Lib.hid (X16.out.below hb12)
  replace X19 := Lib.hid (X19.out.below hb12)
  have H22 := Lib.hid (Ints.of_own ho)
  clear hb12 LX8
  clear ho
  have LX8 := (X8.out).range
  go_wp2_with (refine wpList_loadB rfl _ rfl _ rfl b ?_ hl ?_; exact LX8)
  refine (SR2.out _).mono ?_
  rintro e w13 ⟨u24, rfl, ho, hb13⟩
  replace BX := Lib.hid (Below.chain BX.out hb13)
  replace X4 := Lib.hid (X4.out.below hb13)
  replace X6 := Lib.hid (X6.out.below hb13)
  replace X8 := Lib.hid (X8.out.below hb13)
  replace X9 := Lib.hid (X9.out.below hb13)
  replace X10 := Lib.hid (X10.out.below hb13)
  replace X12 := Lib.hid (X12.out.below hb13)
  replace X16 := Lib.hid (X16.out.below hb13)
  replace X19 := Lib.hid (X19.out.below hb13)
  replace H22 := Lib.hid (H22.out.below hb13)
  have H24 := Lib.hid (Ints.of_own ho)
  clear hb13 LX8
  clear ho
  have LX8 := (X8.out).range
  go_wp2_with (refine wpList_loadB rfl _ rfl _ rfl b ?_ hl ?_; exact LX8)
  refine (BR1.out _).mono ?_
  rintro e w14 ⟨u26, rfl, ho, hb14⟩
  replace BX := Lib.hid (Below.chain BX.out hb14)
  replace X4 := Lib.hid (X4.out.below hb14)
  replace X6 := Lib.hid (X6.out.below hb14)
  replace X8 := Lib.hid (X8.out.below hb14)
  replace X9 := Lib.hid (X9.out.below hb14)
  replace X10 := Lib.hid (X10.out.below hb14)
  replace X12 := Lib.hid (X12.out.below hb14)
  replace X16 := Lib.hid (X16.out.below hb14)
  replace X19 := Lib.hid (X19.out.below hb14)
  replace H22 := Lib.hid (H22.out.below hb14)
  replace H24 := Lib.hid (H24.out.below hb14)
  have H26 := Lib.hid (Ints.of_own ho)
  clear hb14 LX8
  clear ho
  have LX8 := (X8.out).range
  go_wp2_with (refine wpList_loadB rfl _ rfl _ rfl b ?_ hl ?_; exact LX8)
  refine (BR2.out _).mono ?_
  rintro e w15 ⟨u28, rfl, ho, hb15⟩
  replace BX := Lib.hid (Below.chain BX.out hb15)
  replace X4 := Lib.hid (X4.out.below hb15)
  replace X6 := Lib.hid (X6.out.below hb15)
  replace X8 := Lib.hid (X8.out.below hb15)
  replace X9 := Lib.hid (X9.out.below hb15)
  replace X10 := Lib.hid (X10.out.below hb15)
  replace X12 := Lib.hid (X12.out.below hb15)
  replace X16 := Lib.hid (X16.out.below hb15)
  replace X19 := Lib.hid (X19.out.below hb15)
  replace H22 := Lib.hid (H22.out.below hb15)
  replace H24 := Lib.hid (H24.out.below hb15)
  replace H26 := Lib.hid (H26.out.below hb15)
  have H28 := Lib.hid (Ints.of_own ho)
  clear hb15 LX8
  clear ho
  clear DJ2 SR1 SR2 BR1 BR2
  have eqA := fun W => bench_equal hA W
  have eqY := fun W => bench_equal hY W
  have eqE := fun W => bench_equal hE W
  have eqG := bench_guard
  go_wp2_with fail
  refine wp_region_noPanic ?_
  refine wp_region_held_drew (S := fun w' : World => Below w15.heap.size w15 w') (by kernel_rfl) (Below.refl _ _).drew (fun hHeld => ?_)
  refine' wpAnyH_take (i := 0) (oi := _) (v := _) ?e_1 ?a_1 ?b_1 ?c_1 ?q_1 ?y_1 hHeld ?r_1
  case e_1 => (simp only [List.getElem?_toArray, List.getElem?_cons_zero, List.getElem?_cons_succ]; exact rfl)
  case a_1 => kernel_rfl
  case b_1 => kernel_rfl
  case c_1 => kernel_rfl
  case q_1 => exact fun _ _ _ h => h
  case y_1 =>
    refine' yieldsIf_load_mid ?hw_1 _ _ rfl _ _ rfl (ints A) _ ?hS_1 ?hu_1 ?hd_1 ?hi_1
    case hw_1 => rfl
    case hS_1 => exact fun (w' : World) (h : Below w15.heap.size w15 w') => (X4.out.below h).range
    case hu_1 => exact Try.underlying50
    case hd_1 => rfl
    case hi_1 => exact hi19 hA
  try simp only [Act.put, List.setIfInBounds_toArray, List.set_cons_zero, List.set_cons_succ]
  refine' wpAnyH_take (i := 1) (oi := _) (v := _) ?e_2 ?a_2 ?b_2 ?c_2 ?q_2 ?y_2 hHeld ?r_2
  case e_2 => (simp only [List.getElem?_toArray, List.getElem?_cons_zero, List.getElem?_cons_succ]; exact rfl)
  case a_2 => kernel_rfl
  case b_2 => kernel_rfl
  case c_2 => kernel_rfl
  case q_2 => exact fun _ _ _ h => h
  case y_2 =>
    refine' yieldsIf_load_mid ?hw_2 _ _ rfl _ _ rfl (ints A) _ ?hS_2 ?hu_2 ?hd_2 ?hi_2
    case hw_2 => rfl
    case hS_2 => exact fun (w' : World) (h : Below w15.heap.size w15 w') => (X6.out.below h).range
    case hu_2 => exact Try.underlying50
    case hd_2 => rfl
    case hi_2 => exact hi19 hA
  try simp only [Act.put, List.setIfInBounds_toArray, List.set_cons_zero, List.set_cons_succ]
  refine' wpAnyH_take (i := 2) (oi := _) (v := _) ?e_3 ?a_3 ?b_3 ?c_3 ?q_3 ?y_3 hHeld ?r_3
  case e_3 => (simp only [List.getElem?_toArray, List.getElem?_cons_zero, List.getElem?_cons_succ]; exact rfl)
  case a_3 => kernel_rfl
  case b_3 => kernel_rfl
  case c_3 => kernel_rfl
  case q_3 => exact fun _ _ _ h => h
  case y_3 => exact Or.inl ⟨by rfl, by (intro w hSw; (try dsimp only at hSw); go_simp; first | done | with_reducible rfl)⟩
  try simp only [Act.put, List.setIfInBounds_toArray, List.set_cons_zero, List.set_cons_succ]
  refine' wpAnyH_take (i := 3) (oi := _) (v := _) ?e_4 ?a_4 ?b_4 ?c_4 ?q_4 ?y_4 hHeld ?r_4
  case e_4 => (simp only [List.getElem?_toArray, List.getElem?_cons_zero, List.getElem?_cons_succ]; exact rfl)
  case a_4 => kernel_rfl
  case b_4 => kernel_rfl
  case c_4 => kernel_rfl
  case q_4 => exact fun _ _ _ h => h
  case y_4 => exact Or.inl ⟨by rfl, by (intro w hSw; (try dsimp only at hSw); go_simp; first | done | with_reducible rfl)⟩
  try simp only [Act.put, List.setIfInBounds_toArray, List.set_cons_zero, List.set_cons_succ]
  refine' wpAnyH_take (i := 4) (oi := _) (v := _) ?e_5 ?a_5 ?b_5 ?c_5 ?q_5 ?y_5 hHeld ?r_5
  case e_5 => (simp only [List.getElem?_toArray, List.getElem?_cons_zero, List.getElem?_cons_succ]; exact rfl)
  case a_5 => kernel_rfl
  case b_5 => kernel_rfl
  case c_5 => kernel_rfl
  case q_5 => exact fun _ _ _ h => h
  case y_5 => exact Or.inl ⟨by rfl, by (intro w hSw; (try dsimp only at hSw); go_simp; first | done | with_reducible rfl)⟩
  try simp only [Act.put, List.setIfInBounds_toArray, List.set_cons_zero, List.set_cons_succ]
  refine' wpAnyH_take (i := 5) (oi := _) (v := _) ?e_6 ?a_6 ?b_6 ?c_6 ?q_6 ?y_6 hHeld ?r_6
  case e_6 => (simp only [List.getElem?_toArray, List.getElem?_cons_zero, List.getElem?_cons_succ]; exact rfl)
  case a_6 => kernel_rfl
  case b_6 => kernel_rfl
  case c_6 => kernel_rfl
  case q_6 => exact fun _ _ _ h => h
  case y_6 => exact Or.inl ⟨by rfl, by (intro w hSw; (try dsimp only at hSw); go_simp; first | done | with_reducible rfl)⟩
  try simp only [Act.put, List.setIfInBounds_toArray, List.set_cons_zero, List.set_cons_succ]
  refine' wpAnyH_take (i := 6) (oi := _) (v := _) ?e_7 ?a_7 ?b_7 ?c_7 ?q_7 ?y_7 hHeld ?r_7
  case e_7 => (simp only [List.getElem?_toArray, List.getElem?_cons_zero, List.getElem?_cons_succ]; exact rfl)
  case a_7 => kernel_rfl
  case b_7 => kernel_rfl
  case c_7 => kernel_rfl
  case q_7 => exact fun _ _ _ h => h
  case y_7 => exact Or.inl ⟨by rfl, by (intro w hSw; (try dsimp only at hSw); go_simp; first | done | with_reducible rfl)⟩
  try simp only [Act.put, List.setIfInBounds_toArray, List.set_cons_zero, List.set_cons_succ]
  refine' wpAnyH_take (i := 7) (oi := _) (v := _) ?e_8 ?a_8 ?b_8 ?c_8 ?q_8 ?y_8 hHeld ?r_8
  case e_8 => (simp only [List.getElem?_toArray, List.getElem?_cons_zero, List.getElem?_cons_succ]; exact rfl)
  case a_8 => kernel_rfl
  case b_8 => kernel_rfl
  case c_8 => kernel_rfl
  case q_8 => exact fun _ _ _ h => h
  case y_8 => exact Or.inl ⟨by rfl, by (intro w hSw; (try dsimp only at hSw); go_simp; first | done | with_reducible rfl)⟩
  try simp only [Act.put, List.setIfInBounds_toArray, List.set_cons_zero, List.set_cons_succ]
  refine' wpAnyH_take (i := 8) (oi := _) (v := _) ?e_9 ?a_9 ?b_9 ?c_9 ?q_9 ?y_9 hHeld ?r_9
  case e_9 => (simp only [List.getElem?_toArray, List.getElem?_cons_zero, List.getElem?_cons_succ]; exact rfl)
  case a_9 => kernel_rfl
  case b_9 => kernel_rfl
  case c_9 => kernel_rfl
  case q_9 => exact fun _ _ _ h => h
  case y_9 => exact Or.inl ⟨by rfl, by (intro w hSw; (try dsimp only at hSw); go_simp; first | done | with_reducible rfl)⟩
  try simp only [Act.put, List.setIfInBounds_toArray, List.set_cons_zero, List.set_cons_succ]
  refine' wpAnyH_take (i := 9) (oi := _) (v := _) ?e_10 ?a_10 ?b_10 ?c_10 ?q_10 ?y_10 hHeld ?r_10
  case e_10 => (simp only [List.getElem?_toArray, List.getElem?_cons_zero, List.getElem?_cons_succ]; exact rfl)
  case a_10 => kernel_rfl
  case b_10 => kernel_rfl
  case c_10 => kernel_rfl
  case q_10 => exact fun _ _ _ h => h
  case y_10 =>
    refine' yieldsIf_load_mid ?hw_10 _ _ rfl _ _ rfl (ints Y) _ ?hS_10 ?hu_10 ?hd_10 ?hi_10
    case hw_10 => rfl
    case hS_10 => exact fun (w' : World) (h : Below w15.heap.size w15 w') => (X10.out.below h).range
    case hu_10 => exact Try.underlying50
    case hd_10 => rfl
    case hi_10 => exact hi19 hY
  try simp only [Act.put, List.setIfInBounds_toArray, List.set_cons_zero, List.set_cons_succ]
  refine' wpAnyH_take (i := 10) (oi := _) (v := _) ?e_11 ?a_11 ?b_11 ?c_11 ?q_11 ?y_11 hHeld ?r_11
  case e_11 => (simp only [List.getElem?_toArray, List.getElem?_cons_zero, List.getElem?_cons_succ]; exact rfl)
  case a_11 => kernel_rfl
  case b_11 => kernel_rfl
  case c_11 => kernel_rfl
  case q_11 => exact fun _ _ _ h => h
  case y_11 =>
    refine' yieldsIf_load_mid ?hw_11 _ _ rfl _ _ rfl (ints Y) _ ?hS_11 ?hu_11 ?hd_11 ?hi_11
    case hw_11 => rfl
    case hS_11 => exact fun (w' : World) (h : Below w15.heap.size w15 w') => (X12.out.below h).range
    case hu_11 => exact Try.underlying50
    case hd_11 => rfl
    case hi_11 => exact hi19 hY
  try simp only [Act.put, List.setIfInBounds_toArray, List.set_cons_zero, List.set_cons_succ]
  refine' wpAnyH_take (i := 11) (oi := _) (v := _) ?e_12 ?a_12 ?b_12 ?c_12 ?q_12 ?y_12 hHeld ?r_12
  case e_12 => (simp only [List.getElem?_toArray, List.getElem?_cons_zero, List.getElem?_cons_succ]; exact rfl)
  case a_12 => kernel_rfl
  case b_12 => kernel_rfl
  case c_12 => kernel_rfl
  case q_12 => exact fun _ _ _ h => h
  case y_12 => exact Or.inl ⟨by rfl, by (intro w hSw; (try dsimp only at hSw); go_simp; first | done | with_reducible rfl)⟩
  try simp only [Act.put, List.setIfInBounds_toArray, List.set_cons_zero, List.set_cons_succ]
  refine' wpAnyH_take (i := 12) (oi := _) (v := _) ?e_13 ?a_13 ?b_13 ?c_13 ?q_13 ?y_13 hHeld ?r_13
  case e_13 => (simp only [List.getElem?_toArray, List.getElem?_cons_zero, List.getElem?_cons_succ]; exact rfl)
  case a_13 => kernel_rfl
  case b_13 => kernel_rfl
  case c_13 => kernel_rfl
  case q_13 => exact fun _ _ _ h => h
  case y_13 => exact Or.inl ⟨by rfl, by (intro w hSw; (try dsimp only at hSw); go_simp; first | done | with_reducible rfl)⟩
  try simp only [Act.put, List.setIfInBounds_toArray, List.set_cons_zero, List.set_cons_succ]
  refine' wpAnyH_take (i := 13) (oi := _) (v := _) ?e_14 ?a_14 ?b_14 ?c_14 ?q_14 ?y_14 hHeld ?r_14
  case e_14 => (simp only [List.getElem?_toArray, List.getElem?_cons_zero, List.getElem?_cons_succ]; exact rfl)
  case a_14 => kernel_rfl
  case b_14 => kernel_rfl
  case c_14 => kernel_rfl
  case q_14 => exact fun _ _ _ h => h
  case y_14 => exact Or.inl ⟨by rfl, by (intro w hSw; (try dsimp only at hSw); go_simp; first | done | with_reducible rfl)⟩
  try simp only [Act.put, List.setIfInBounds_toArray, List.set_cons_zero, List.set_cons_succ]
  refine' wpAnyH_take (i := 14) (oi := _) (v := _) ?e_15 ?a_15 ?b_15 ?c_15 ?q_15 ?y_15 hHeld ?r_15
  case e_15 => (simp only [List.getElem?_toArray, List.getElem?_cons_zero, List.getElem?_cons_succ]; exact rfl)
  case a_15 => kernel_rfl
  case b_15 => kernel_rfl
  case c_15 => kernel_rfl
  case q_15 => exact fun _ _ _ h => h
  case y_15 => exact Or.inl ⟨by rfl, by (intro w hSw; (try dsimp only at hSw); go_simp; first | done | with_reducible rfl)⟩
  try simp only [Act.put, List.setIfInBounds_toArray, List.set_cons_zero, List.set_cons_succ]
  refine' wpAnyH_take (i := 15) (oi := _) (v := _) ?e_16 ?a_16 ?b_16 ?c_16 ?q_16 ?y_16 hHeld ?r_16
  case e_16 => (simp only [List.getElem?_toArray, List.getElem?_cons_zero, List.getElem?_cons_succ]; exact rfl)
  case a_16 => kernel_rfl
  case b_16 => kernel_rfl
  case c_16 => kernel_rfl
  case q_16 => exact fun _ _ _ h => h
  case y_16 => exact Or.inl ⟨by rfl, by (intro w hSw; (try dsimp only at hSw); go_simp; first | done | with_reducible rfl)⟩
  try simp only [Act.put, List.setIfInBounds_toArray, List.set_cons_zero, List.set_cons_succ]
  refine' wpAnyH_take (i := 16) (oi := _) (v := _) ?e_17 ?a_17 ?b_17 ?c_17 ?q_17 ?y_17 hHeld ?r_17
  case e_17 => (simp only [List.getElem?_toArray, List.getElem?_cons_zero, List.getElem?_cons_succ]; exact rfl)
  case a_17 => kernel_rfl
  case b_17 => kernel_rfl
  case c_17 => kernel_rfl
  case q_17 => exact fun _ _ _ h => h
  case y_17 => exact Or.inl ⟨by rfl, by (intro w hSw; (try dsimp only at hSw); go_simp; first | done | with_reducible rfl)⟩
  try simp only [Act.put, List.setIfInBounds_toArray, List.set_cons_zero, List.set_cons_succ]
  refine' wpAnyH_take (i := 17) (oi := _) (v := _) ?e_18 ?a_18 ?b_18 ?c_18 ?q_18 ?y_18 hHeld ?r_18
  case e_18 => (simp only [List.getElem?_toArray, List.getElem?_cons_zero, List.getElem?_cons_succ]; exact rfl)
  case a_18 => kernel_rfl
  case b_18 => kernel_rfl
  case c_18 => kernel_rfl
  case q_18 => exact fun _ _ _ h => h
  case y_18 => exact Or.inl ⟨by rfl, by (intro w hSw; (try dsimp only at hSw); go_simp; first | done | with_reducible rfl)⟩
  try simp only [Act.put, List.setIfInBounds_toArray, List.set_cons_zero, List.set_cons_succ]
  refine' wpAnyH_take (i := 18) (oi := _) (v := _) ?e_19 ?a_19 ?b_19 ?c_19 ?q_19 ?y_19 hHeld ?r_19
  case e_19 => (simp only [List.getElem?_toArray, List.getElem?_cons_zero, List.getElem?_cons_succ]; exact rfl)
  case a_19 => kernel_rfl
  case b_19 => kernel_rfl
  case c_19 => kernel_rfl
  case q_19 => exact fun _ _ _ h => h
  case y_19 => exact Or.inl ⟨by rfl, by (intro w hSw; (try dsimp only at hSw); go_simp; first | done | with_reducible rfl)⟩
  try simp only [Act.put, List.setIfInBounds_toArray, List.set_cons_zero, List.set_cons_succ]
  refine' wpAnyH_take (i := 19) (oi := _) (v := _) ?e_20 ?a_20 ?b_20 ?c_20 ?q_20 ?y_20 hHeld ?r_20
  case e_20 => (simp only [List.getElem?_toArray, List.getElem?_cons_zero, List.getElem?_cons_succ]; exact rfl)
  case a_20 => kernel_rfl
  case b_20 => kernel_rfl
  case c_20 => kernel_rfl
  case q_20 => exact fun _ _ _ h => h
  case y_20 =>
    refine' yieldsIf_load_mid ?hw_20 _ _ rfl _ _ rfl (ints E) _ ?hS_20 ?hu_20 ?hd_20 ?hi_20
    case hw_20 => rfl
    case hS_20 => exact fun (w' : World) (h : Below w15.heap.size w15 w') => (X16.out.below h).range
    case hu_20 => exact Try.underlying50
    case hd_20 => rfl
    case hi_20 => exact hi19 hE
  try simp only [Act.put, List.setIfInBounds_toArray, List.set_cons_zero, List.set_cons_succ]
  refine' wpAnyH_take (i := 20) (oi := _) (v := _) ?e_21 ?a_21 ?b_21 ?c_21 ?q_21 ?y_21 hHeld ?r_21
  case e_21 => (simp only [List.getElem?_toArray, List.getElem?_cons_zero, List.getElem?_cons_succ]; exact rfl)
  case a_21 => kernel_rfl
  case b_21 => kernel_rfl
  case c_21 => kernel_rfl
  case q_21 => exact fun _ _ _ h => h
  case y_21 =>
    refine' yieldsIf_load_mid ?hw_21 _ _ rfl _ _ rfl (ints E) _ ?hS_21 ?hu_21 ?hd_21 ?hi_21
    case hw_21 => rfl
    case hS_21 => exact fun (w' : World) (h : Below w15.heap.size w15 w') => (X19.out.below h).range
    case hu_21 => exact Try.underlying50
    case hd_21 => rfl
    case hi_21 => exact hi19 hE
  try simp only [Act.put, List.setIfInBounds_toArray, List.set_cons_zero, List.set_cons_succ]
  refine' wpAnyH_take (i := 21) (oi := _) (v := _) ?e_22 ?a_22 ?b_22 ?c_22 ?q_22 ?y_22 hHeld ?r_22
  case e_22 => (simp only [List.getElem?_toArray, List.getElem?_cons_zero, List.getElem?_cons_succ]; exact rfl)
  case a_22 => kernel_rfl
  case b_22 => kernel_rfl
  case c_22 => kernel_rfl
  case q_22 => exact fun _ _ _ h => h
  case y_22 => exact Or.inl ⟨by rfl, by (intro w hSw; (try dsimp only at hSw); go_simp; first | done | with_reducible rfl)⟩
  try simp only [Act.put, List.setIfInBounds_toArray, List.set_cons_zero, List.set_cons_succ]
  refine' wpAnyH_take (i := 22) (oi := _) (v := _) ?e_23 ?a_23 ?b_23 ?c_23 ?q_23 ?y_23 hHeld ?r_23
  case e_23 => (simp only [List.getElem?_toArray, List.getElem?_cons_zero, List.getElem?_cons_succ]; exact rfl)
  case a_23 => kernel_rfl
  case b_23 => kernel_rfl
  case c_23 => kernel_rfl
  case q_23 => exact fun _ _ _ h => h
  case y_23 => exact Or.inl ⟨by rfl, by (intro w hSw; (try dsimp only at hSw); go_simp; first | done | with_reducible rfl)⟩
  try simp only [Act.put, List.setIfInBounds_toArray, List.set_cons_zero, List.set_cons_succ]
  refine' wpAnyH_take (i := 23) (oi := _) (v := _) ?e_24 ?a_24 ?b_24 ?c_24 ?q_24 ?y_24 hHeld ?r_24
  case e_24 => (simp only [List.getElem?_toArray, List.getElem?_cons_zero, List.getElem?_cons_succ]; exact rfl)
  case a_24 => kernel_rfl
  case b_24 => kernel_rfl
  case c_24 => kernel_rfl
  case q_24 => exact fun _ _ _ h => h
  case y_24 => exact Or.inl ⟨by rfl, by (intro w hSw; (try dsimp only at hSw); go_simp; first | done | with_reducible rfl)⟩
  try simp only [Act.put, List.setIfInBounds_toArray, List.set_cons_zero, List.set_cons_succ]
  refine' wpAnyH_take (i := 24) (oi := _) (v := _) ?e_25 ?a_25 ?b_25 ?c_25 ?q_25 ?y_25 hHeld ?r_25
  case e_25 => (simp only [List.getElem?_toArray, List.getElem?_cons_zero, List.getElem?_cons_succ]; exact rfl)
  case a_25 => kernel_rfl
  case b_25 => kernel_rfl
  case c_25 => kernel_rfl
  case q_25 => exact fun _ _ _ h => h
  case y_25 => exact Or.inl ⟨by rfl, by (intro w hSw; (try dsimp only at hSw); go_simp; first | done | with_reducible rfl)⟩
  try simp only [Act.put, List.setIfInBounds_toArray, List.set_cons_zero, List.set_cons_succ]
  refine' wpAnyH_take (i := 25) (oi := _) (v := _) ?e_26 ?a_26 ?b_26 ?c_26 ?q_26 ?y_26 hHeld ?r_26
  case e_26 => (simp only [List.getElem?_toArray, List.getElem?_cons_zero, List.getElem?_cons_succ]; exact rfl)
  case a_26 => kernel_rfl
  case b_26 => kernel_rfl
  case c_26 => kernel_rfl
  case q_26 => exact fun _ _ _ h => h
  case y_26 => exact Or.inl ⟨by rfl, by (intro w hSw; (try dsimp only at hSw); go_simp; first | done | with_reducible rfl)⟩
  try simp only [Act.put, List.setIfInBounds_toArray, List.set_cons_zero, List.set_cons_succ]
  refine' wpAnyH_take (i := 26) (oi := _) (v := _) ?e_27 ?a_27 ?b_27 ?c_27 ?q_27 ?y_27 hHeld ?r_27
  case e_27 => (simp only [List.getElem?_toArray, List.getElem?_cons_zero, List.getElem?_cons_succ]; exact rfl)
  case a_27 => kernel_rfl
  case b_27 => kernel_rfl
  case c_27 => kernel_rfl
  case q_27 => exact fun _ _ _ h => h
  case y_27 => exact Or.inl ⟨by rfl, by (intro w hSw; (try dsimp only at hSw); go_simp; first | done | with_reducible rfl)⟩
  try simp only [Act.put, List.setIfInBounds_toArray, List.set_cons_zero, List.set_cons_succ]
  refine' wpAnyH_take (i := 27) (oi := _) (v := _) ?e_28 ?a_28 ?b_28 ?c_28 ?q_28 ?y_28 hHeld ?r_28
  case e_28 => (simp only [List.getElem?_toArray, List.getElem?_cons_zero, List.getElem?_cons_succ]; exact rfl)
  case a_28 => kernel_rfl
  case b_28 => kernel_rfl
  case c_28 => kernel_rfl
  case q_28 => exact fun _ _ _ h => h
  case y_28 => exact Or.inl ⟨by rfl, by (intro w hSw; (try dsimp only at hSw); go_simp; first | done | with_reducible rfl)⟩
  try simp only [Act.put, List.setIfInBounds_toArray, List.set_cons_zero, List.set_cons_succ]
  refine' wpAnyH_take (i := 28) (oi := _) (v := _) ?e_29 ?a_29 ?b_29 ?c_29 ?q_29 ?y_29 hHeld ?r_29
  case e_29 => (simp only [List.getElem?_toArray, List.getElem?_cons_zero, List.getElem?_cons_succ]; exact rfl)
  case a_29 => kernel_rfl
  case b_29 => kernel_rfl
  case c_29 => kernel_rfl
  case q_29 => exact fun _ _ _ h => h
  case y_29 => exact Or.inl ⟨by rfl, by (intro w hSw; (try dsimp only at hSw); go_simp; first | done | with_reducible rfl)⟩
  try simp only [Act.put, List.setIfInBounds_toArray, List.set_cons_zero, List.set_cons_succ]
  refine' wpAnyH_take (i := 29) (oi := _) (v := _) ?e_30 ?a_30 ?b_30 ?c_30 ?q_30 ?y_30 hHeld ?r_30
  case e_30 => (simp only [List.getElem?_toArray, List.getElem?_cons_zero, List.getElem?_cons_succ]; exact rfl)
  case a_30 => kernel_rfl
  case b_30 => kernel_rfl
  case c_30 => kernel_rfl
  case q_30 => exact fun _ _ _ h => h
  case y_30 => exact Or.inl ⟨by rfl, by (intro w hSw; (try dsimp only at hSw); go_simp; first | done | with_reducible rfl)⟩
  try simp only [Act.put, List.setIfInBounds_toArray, List.set_cons_zero, List.set_cons_succ]
  refine' wpAnyH_take (i := 30) (oi := _) (v := _) ?e_31 ?a_31 ?b_31 ?c_31 ?q_31 ?y_31 hHeld ?r_31
  case e_31 => (simp only [List.getElem?_toArray, List.getElem?_cons_zero, List.getElem?_cons_succ]; exact rfl)
  case a_31 => kernel_rfl
  case b_31 => kernel_rfl
  case c_31 => kernel_rfl
  case q_31 => exact fun _ _ _ h => h
  case y_31 => exact Or.inl ⟨by rfl, by (intro w hSw; (try dsimp only at hSw); go_simp; first | done | with_reducible rfl)⟩
  try simp only [Act.put, List.setIfInBounds_toArray, List.set_cons_zero, List.set_cons_succ]
  refine' wpAnyH_take (i := 31) (oi := _) (v := _) ?e_32 ?a_32 ?b_32 ?c_32 ?q_32 ?y_32 hHeld ?r_32
  case e_32 => (simp only [List.getElem?_toArray, List.getElem?_cons_zero, List.getElem?_cons_succ]; exact rfl)
  case a_32 => kernel_rfl
  case b_32 => kernel_rfl
  case c_32 => kernel_rfl
  case q_32 => exact fun _ _ _ h => h
  case y_32 => exact Or.inl ⟨by rfl, by (intro w hSw; (try dsimp only at hSw); go_simp; first | done | with_reducible rfl)⟩
  try simp only [Act.put, List.setIfInBounds_toArray, List.set_cons_zero, List.set_cons_succ]
  refine' wpAnyH_take (i := 32) (oi := _) (v := _) ?e_33 ?a_33 ?b_33 ?c_33 ?q_33 ?y_33 hHeld ?r_33
  case e_33 => (simp only [List.getElem?_toArray, List.getElem?_cons_zero, List.getElem?_cons_succ]; exact rfl)
  case a_33 => kernel_rfl
  case b_33 => kernel_rfl
  case c_33 => kernel_rfl
  case q_33 => exact fun _ _ _ h => h
  case y_33 => exact Or.inl ⟨by rfl, by (intro w hSw; (try dsimp only at hSw); go_simp; first | done | with_reducible rfl)⟩
  try simp only [Act.put, List.setIfInBounds_toArray, List.set_cons_zero, List.set_cons_succ]
  refine' wpAnyH_take (i := 33) (oi := _) (v := _) ?e_34 ?a_34 ?b_34 ?c_34 ?q_34 ?y_34 hHeld ?r_34
  case e_34 => (simp only [List.getElem?_toArray, List.getElem?_cons_zero, List.getElem?_cons_succ]; exact rfl)
  case a_34 => kernel_rfl
  case b_34 => kernel_rfl
  case c_34 => kernel_rfl
  case q_34 => exact fun _ _ _ h => h
  case y_34 => exact Or.inl ⟨by rfl, by (intro w hSw; (try dsimp only at hSw); go_simp; first | done | with_reducible rfl)⟩
  try simp only [Act.put, List.setIfInBounds_toArray, List.set_cons_zero, List.set_cons_succ]
  refine' wpAnyH_take (i := 34) (oi := _) (v := _) ?e_35 ?a_35 ?b_35 ?c_35 ?q_35 ?y_35 hHeld ?r_35
  case e_35 => (simp only [List.getElem?_toArray, List.getElem?_cons_zero, List.getElem?_cons_succ]; exact rfl)
  case a_35 => kernel_rfl
  case b_35 => kernel_rfl
  case c_35 => kernel_rfl
  case q_35 => exact fun _ _ _ h => h
  case y_35 => exact Or.inl ⟨by rfl, by (intro w hSw; (try dsimp only at hSw); go_simp; first | done | with_reducible rfl)⟩
  try simp only [Act.put, List.setIfInBounds_toArray, List.set_cons_zero, List.set_cons_succ]
  refine' wpAnyH_take (i := 35) (oi := _) (v := _) ?e_36 ?a_36 ?b_36 ?c_36 ?q_36 ?y_36 hHeld ?r_36
  case e_36 => (simp only [List.getElem?_toArray, List.getElem?_cons_zero, List.getElem?_cons_succ]; exact rfl)
  case a_36 => kernel_rfl
  case b_36 => kernel_rfl
  case c_36 => kernel_rfl
  case q_36 => exact fun _ _ _ h => h
  case y_36 => exact Or.inl ⟨by rfl, by (intro w hSw; (try dsimp only at hSw); go_simp; first | done | with_reducible rfl)⟩
  try simp only [Act.put, List.setIfInBounds_toArray, List.set_cons_zero, List.set_cons_succ]
  refine' wpAnyH_take (i := 36) (oi := _) (v := _) ?e_37 ?a_37 ?b_37 ?c_37 ?q_37 ?y_37 hHeld ?r_37
  case e_37 => (simp only [List.getElem?_toArray, List.getElem?_cons_zero, List.getElem?_cons_succ]; exact rfl)
  case a_37 => kernel_rfl
  case b_37 => kernel_rfl
  case c_37 => kernel_rfl
  case q_37 => exact fun _ _ _ h => h
  case y_37 => exact Or.inl ⟨by rfl, by (intro w hSw; (try dsimp only at hSw); go_simp; first | done | with_reducible rfl)⟩
  try simp only [Act.put, List.setIfInBounds_toArray, List.set_cons_zero, List.set_cons_succ]
  refine' wpAnyH_take (i := 37) (oi := _) (v := _) ?e_38 ?a_38 ?b_38 ?c_38 ?q_38 ?y_38 hHeld ?r_38
  case e_38 => (simp only [List.getElem?_toArray, List.getElem?_cons_zero, List.getElem?_cons_succ]; exact rfl)
  case a_38 => kernel_rfl
  case b_38 => kernel_rfl
  case c_38 => kernel_rfl
  case q_38 => exact fun _ _ _ h => h
  case y_38 => exact Or.inl ⟨by rfl, by (intro w hSw; (try dsimp only at hSw); go_simp; first | done | with_reducible rfl)⟩
  try simp only [Act.put, List.setIfInBounds_toArray, List.set_cons_zero, List.set_cons_succ]
  refine' wpAnyH_take (i := 38) (oi := _) (v := _) ?e_39 ?a_39 ?b_39 ?c_39 ?q_39 ?y_39 hHeld ?r_39
  case e_39 => (simp only [List.getElem?_toArray, List.getElem?_cons_zero, List.getElem?_cons_succ]; exact rfl)
  case a_39 => kernel_rfl
  case b_39 => kernel_rfl
  case c_39 => kernel_rfl
  case q_39 => exact fun _ _ _ h => h
  case y_39 => exact Or.inl ⟨by rfl, by (intro w hSw; (try dsimp only at hSw); go_simp; first | done | with_reducible rfl)⟩
  try simp only [Act.put, List.setIfInBounds_toArray, List.set_cons_zero, List.set_cons_succ]
  refine' wpAnyH_take (i := 39) (oi := _) (v := _) ?e_40 ?a_40 ?b_40 ?c_40 ?q_40 ?y_40 hHeld ?r_40
  case e_40 => (simp only [List.getElem?_toArray, List.getElem?_cons_zero, List.getElem?_cons_succ]; exact rfl)
  case a_40 => kernel_rfl
  case b_40 => kernel_rfl
  case c_40 => kernel_rfl
  case q_40 => exact fun _ _ _ h => h
  case y_40 => exact Or.inl ⟨by rfl, by (intro w hSw; (try dsimp only at hSw); go_simp; first | done | with_reducible rfl)⟩
  try simp only [Act.put, List.setIfInBounds_toArray, List.set_cons_zero, List.set_cons_succ]
  refine' wpAnyH_take (i := 40) (oi := _) (v := _) ?e_41 ?a_41 ?b_41 ?c_41 ?q_41 ?y_41 hHeld ?r_41
  case e_41 => (simp only [List.getElem?_toArray, List.getElem?_cons_zero, List.getElem?_cons_succ]; exact rfl)
  case a_41 => kernel_rfl
  case b_41 => kernel_rfl
  case c_41 => kernel_rfl
  case q_41 => exact fun _ _ _ h => h
  case y_41 => exact Or.inl ⟨by rfl, by (intro w hSw; (try dsimp only at hSw); go_simp; first | done | with_reducible rfl)⟩
  try simp only [Act.put, List.setIfInBounds_toArray, List.set_cons_zero, List.set_cons_succ]
  refine wpAnyH_ready (rs := [41]) (by kernel_rfl) (by simp) ?_
  refine' AllReadyH.cons (o := _) ?e_42 ?st_42 AllReadyH.nil
  case e_42 => (simp only [List.getElem?_toArray, List.getElem?_cons_zero, List.getElem?_cons_succ]; exact rfl)
  intro K hK
  go_simp
  have lB := hHeld
  refine (vIntsSame_c u22 u24 SL _ (Ints.below H22.out lB) (Ints.below H24.out lB)).mono ?_
  rintro e c1 ⟨rfl, hb1⟩
  go_wp2_with fail
  refine hK.out _ _ (chain_back hb1 lB) (fun hHeld => ?_)
  clear lB hb1
  clear hK K
  try simp only [Act.put, List.setIfInBounds_toArray, List.set_cons_zero, List.set_cons_succ]
  refine' wpAnyH_take (i := 42) (oi := _) (v := _) ?e_43 ?a_43 ?b_43 ?c_43 ?q_43 ?y_43 hHeld ?r_43
  case e_43 => (simp only [List.getElem?_toArray, List.getElem?_cons_zero, List.getElem?_cons_succ]; exact rfl)
  case a_43 => kernel_rfl
  case b_43 => kernel_rfl
  case c_43 => kernel_rfl
  case q_43 => exact fun _ _ _ h => h
  case y_43 => exact Or.inl ⟨by rfl, by (intro w hSw; (try dsimp only at hSw); go_simp; first | done | with_reducible rfl)⟩
  try simp only [Act.put, List.setIfInBounds_toArray, List.set_cons_zero, List.set_cons_succ]
  refine' wpAnyH_take (i := 43) (oi := _) (v := _) ?e_44 ?a_44 ?b_44 ?c_44 ?q_44 ?y_44 hHeld ?r_44
  case e_44 => (simp only [List.getElem?_toArray, List.getElem?_cons_zero, List.getElem?_cons_succ]; exact rfl)
  case a_44 => kernel_rfl
  case b_44 => kernel_rfl
  case c_44 => kernel_rfl
  case q_44 => exact fun _ _ _ h => h
  case y_44 => exact Or.inl ⟨by rfl, by (intro w hSw; (try dsimp only at hSw); go_simp; first | done | with_reducible rfl)⟩
  try simp only [Act.put, List.setIfInBounds_toArray, List.set_cons_zero, List.set_cons_succ]
  refine' wpAnyH_take (i := 44) (oi := _) (v := _) ?e_45 ?a_45 ?b_45 ?c_45 ?q_45 ?y_45 hHeld ?r_45
  case e_45 => (simp only [List.getElem?_toArray, List.getElem?_cons_zero, List.getElem?_cons_succ]; exact rfl)
  case a_45 => kernel_rfl
  case b_45 => kernel_rfl
  case c_45 => kernel_rfl
  case q_45 => exact fun _ _ _ h => h
  case y_45 => exact Or.inl ⟨by rfl, by (intro w hSw; (try dsimp only at hSw); go_simp; first | done | with_reducible rfl)⟩
  try simp only [Act.put, List.setIfInBounds_toArray, List.set_cons_zero, List.set_cons_succ]
  refine' wpAnyH_take (i := 45) (oi := _) (v := _) ?e_46 ?a_46 ?b_46 ?c_46 ?q_46 ?y_46 hHeld ?r_46
  case e_46 => (simp only [List.getElem?_toArray, List.getElem?_cons_zero, List.getElem?_cons_succ]; exact rfl)
  case a_46 => kernel_rfl
  case b_46 => kernel_rfl
  case c_46 => kernel_rfl
  case q_46 => exact fun _ _ _ h => h
  case y_46 => exact Or.inl ⟨by rfl, by (intro w hSw; (try dsimp only at hSw); go_simp; first | done | with_reducible rfl)⟩
  try simp only [Act.put, List.setIfInBounds_toArray, List.set_cons_zero, List.set_cons_succ]
  refine' wpAnyH_take (i := 46) (oi := _) (v := _) ?e_47 ?a_47 ?b_47 ?c_47 ?q_47 ?y_47 hHeld ?r_47
  case e_47 => (simp only [List.getElem?_toArray, List.getElem?_cons_zero, List.getElem?_cons_succ]; exact rfl)
  case a_47 => kernel_rfl
  case b_47 => kernel_rfl
  case c_47 => kernel_rfl
  case q_47 => exact fun _ _ _ h => h
  case y_47 => exact Or.inl ⟨by rfl, by (intro w hSw; (try dsimp only at hSw); go_simp; first | done | with_reducible rfl)⟩
  try simp only [Act.put, List.setIfInBounds_toArray, List.set_cons_zero, List.set_cons_succ]
  refine' wpAnyH_take (i := 47) (oi := _) (v := _) ?e_48 ?a_48 ?b_48 ?c_48 ?q_48 ?y_48 hHeld ?r_48
  case e_48 => (simp only [List.getElem?_toArray, List.getElem?_cons_zero, List.getElem?_cons_succ]; exact rfl)
  case a_48 => kernel_rfl
  case b_48 => kernel_rfl
  case c_48 => kernel_rfl
  case q_48 => exact fun _ _ _ h => h
  case y_48 => exact Or.inl ⟨by rfl, by (intro w hSw; (try dsimp only at hSw); go_simp; first | done | with_reducible rfl)⟩
  try simp only [Act.put, List.setIfInBounds_toArray, List.set_cons_zero, List.set_cons_succ]
  refine' wpAnyH_take (i := 48) (oi := _) (v := _) ?e_49 ?a_49 ?b_49 ?c_49 ?q_49 ?y_49 hHeld ?r_49
  case e_49 => (simp only [List.getElem?_toArray, List.getElem?_cons_zero, List.getElem?_cons_succ]; exact rfl)
  case a_49 => kernel_rfl
  case b_49 => kernel_rfl
  case c_49 => kernel_rfl
  case q_49 => exact fun _ _ _ h => h
  case y_49 => exact Or.inl ⟨by rfl, by (intro w hSw; (try dsimp only at hSw); go_simp; first | done | with_reducible rfl)⟩
  try simp only [Act.put, List.setIfInBounds_toArray, List.set_cons_zero, List.set_cons_succ]
  refine' wpAnyH_take (i := 49) (oi := _) (v := _) ?e_50 ?a_50 ?b_50 ?c_50 ?q_50 ?y_50 hHeld ?r_50
  case e_50 => (simp only [List.getElem?_toArray, List.getElem?_cons_zero, List.getElem?_cons_succ]; exact rfl)
  case a_50 => kernel_rfl
  case b_50 => kernel_rfl
  case c_50 => kernel_rfl
  case q_50 => exact fun _ _ _ h => h
  case y_50 => exact Or.inl ⟨by rfl, by (intro w hSw; (try dsimp only at hSw); go_simp; first | done | with_reducible rfl)⟩
  try simp only [Act.put, List.setIfInBounds_toArray, List.set_cons_zero, List.set_cons_succ]
  refine' wpAnyH_take (i := 50) (oi := _) (v := _) ?e_51 ?a_51 ?b_51 ?c_51 ?q_51 ?y_51 hHeld ?r_51
  case e_51 => (simp only [List.getElem?_toArray, List.getElem?_cons_zero, List.getElem?_cons_succ]; exact rfl)
  case a_51 => kernel_rfl
  case b_51 => kernel_rfl
  case c_51 => kernel_rfl
  case q_51 => exact fun _ _ _ h => h
  case y_51 => exact Or.inl ⟨by rfl, by (intro w hSw; (try dsimp only at hSw); go_simp; first | done | with_reducible rfl)⟩
  try simp only [Act.put, List.setIfInBounds_toArray, List.set_cons_zero, List.set_cons_succ]
  refine' wpAnyH_take (i := 51) (oi := _) (v := _) ?e_52 ?a_52 ?b_52 ?c_52 ?q_52 ?y_52 hHeld ?r_52
  case e_52 => (simp only [List.getElem?_toArray, List.getElem?_cons_zero, List.getElem?_cons_succ]; exact rfl)
  case a_52 => kernel_rfl
  case b_52 => kernel_rfl
  case c_52 => kernel_rfl
  case q_52 => exact fun _ _ _ h => h
  case y_52 => exact Or.inl ⟨by rfl, by (intro w hSw; (try dsimp only at hSw); go_simp; first | done | with_reducible rfl)⟩
  try simp only [Act.put, List.setIfInBounds_toArray, List.set_cons_zero, List.set_cons_succ]
  refine wpAnyH_ready (rs := [52]) (by kernel_rfl) (by simp) ?_
  refine' AllReadyH.cons (o := _) ?e_53 ?st_53 AllReadyH.nil
  case e_53 => (simp only [List.getElem?_toArray, List.getElem?_cons_zero, List.getElem?_cons_succ]; exact rfl)
  intro K hK
  go_simp
  have lB := hHeld
  refine (vIntsSame_c u26 u28 (brL b true) _ (Ints.below H26.out lB) (Ints.below H28.out lB)).mono ?_
  rintro e c2 ⟨rfl, hb2⟩
  go_wp2_with fail
  refine hK.out _ _ (chain_back hb2 lB) (fun hHeld => ?_)
  clear lB hb2
  clear hK K
  try simp only [Act.put, List.setIfInBounds_toArray, List.set_cons_zero, List.set_cons_succ]
  refine' wpAnyH_take (i := 53) (oi := _) (v := _) ?e_54 ?a_54 ?b_54 ?c_54 ?q_54 ?y_54 hHeld ?r_54
  case e_54 => (simp only [List.getElem?_toArray, List.getElem?_cons_zero, List.getElem?_cons_succ]; exact rfl)
  case a_54 => kernel_rfl
  case b_54 => kernel_rfl
  case c_54 => kernel_rfl
  case q_54 => exact fun _ _ _ h => h
  case y_54 => exact Or.inl ⟨by rfl, by (intro w hSw; (try dsimp only at hSw); go_simp; first | done | with_reducible rfl)⟩
  try simp only [Act.put, List.setIfInBounds_toArray, List.set_cons_zero, List.set_cons_succ]
  refine' wpAnyH_take (i := 54) (oi := _) (v := _) ?e_55 ?a_55 ?b_55 ?c_55 ?q_55 ?y_55 hHeld ?r_55
  case e_55 => (simp only [List.getElem?_toArray, List.getElem?_cons_zero, List.getElem?_cons_succ]; exact rfl)
  case a_55 => kernel_rfl
  case b_55 => kernel_rfl
  case c_55 => kernel_rfl
  case q_55 => exact fun _ _ _ h => h
  case y_55 => exact Or.inl ⟨by rfl, by (intro w hSw; (try dsimp only at hSw); go_simp; first | done | with_reducible rfl)⟩
  try simp only [Act.put, List.setIfInBounds_toArray, List.set_cons_zero, List.set_cons_succ]
  refine' wpAnyH_take (i := 55) (oi := _) (v := _) ?e_56 ?a_56 ?b_56 ?c_56 ?q_56 ?y_56 hHeld ?r_56
  case e_56 => (simp only [List.getElem?_toArray, List.getElem?_cons_zero, List.getElem?_cons_succ]; exact rfl)
  case a_56 => kernel_rfl
  case b_56 => kernel_rfl
  case c_56 => kernel_rfl
  case q_56 => exact fun _ _ _ h => h
  case y_56 => exact Or.inl ⟨by rfl, by (intro w hSw; (try dsimp only at hSw); go_simp; first | done | with_reducible rfl)⟩
  try simp only [Act.put, List.setIfInBounds_toArray, List.set_cons_zero, List.set_cons_succ]
  refine' wpAnyH_take (i := 56) (oi := _) (v := _) ?e_57 ?a_57 ?b_57 ?c_57 ?q_57 ?y_57 hHeld ?r_57
  case e_57 => (simp only [List.getElem?_toArray, List.getElem?_cons_zero, List.getElem?_cons_succ]; exact rfl)
  case a_57 => kernel_rfl
  case b_57 => kernel_rfl
  case c_57 => kernel_rfl
  case q_57 => exact fun _ _ _ h => h
  case y_57 =>
    refine' yieldsIf_load_mid ?hw_57 _ _ rfl _ _ rfl (ints b) _ ?hS_57 ?hu_57 ?hd_57 ?hi_57
    case hw_57 => rfl
    case hS_57 => exact fun (w' : World) (h : Below w15.heap.size w15 w') => (X8.out.below h).range
    case hu_57 => exact Try.underlying50
    case hd_57 => rfl
    case hi_57 => exact hi19 hl
  try simp only [Act.put, List.setIfInBounds_toArray, List.set_cons_zero, List.set_cons_succ]
  refine' wpAnyH_take (i := 58) (oi := _) (v := _) ?e_58 ?a_58 ?b_58 ?c_58 ?q_58 ?y_58 hHeld ?r_58
  case e_58 => (simp only [List.getElem?_toArray, List.getElem?_cons_zero, List.getElem?_cons_succ]; exact rfl)
  case a_58 => kernel_rfl
  case b_58 => kernel_rfl
  case c_58 => kernel_rfl
  case q_58 => exact fun _ _ _ h => h
  case y_58 =>
    refine' yieldsIf_load_mid ?hw_58 _ _ rfl _ _ rfl (ints b) _ ?hS_58 ?hu_58 ?hd_58 ?hi_58
    case hw_58 => rfl
    case hS_58 => exact fun (w' : World) (h : Below w15.heap.size w15 w') => (X8.out.below h).range
    case hu_58 => exact Try.underlying50
    case hd_58 => rfl
    case hi_58 => exact hi19 hl
  try simp only [Act.put, List.setIfInBounds_toArray, List.set_cons_zero, List.set_cons_succ]
  refine wpAnyH_ready (rs := [57]) (by kernel_rfl) (by simp) ?_
  refine' AllReadyH.cons (o := _) ?e_59 ?st_59 AllReadyH.nil
  case e_59 => (simp only [List.getElem?_toArray, List.getElem?_cons_zero, List.getElem?_cons_succ]; exact rfl)
  intro K hK
  go_simp
  have lB := hHeld
  refine (IB1.out _).mono ?_
  rintro e c3 ⟨rfl, hb3⟩
  go_wp2_with fail
  refine hK.out _ _ (chain_back hb3 lB) (fun hHeld => ?_)
  clear lB hb3
  clear hK K
  try simp only [Act.put, List.setIfInBounds_toArray, List.set_cons_zero, List.set_cons_succ]
  refine wpAnyH_ready (rs := [59]) (by kernel_rfl) (by simp) ?_
  refine' AllReadyH.cons (o := _) ?e_60 ?st_60 AllReadyH.nil
  case e_60 => (simp only [List.getElem?_toArray, List.getElem?_cons_zero, List.getElem?_cons_succ]; exact rfl)
  intro K hK
  go_simp
  have lB := hHeld
  refine (IB2.out _).mono ?_
  rintro e c4 ⟨rfl, hb4⟩
  go_wp2_with fail
  refine hK.out _ _ (chain_back hb4 lB) (fun hHeld => ?_)
  clear lB hb4
  clear hK K
  try simp only [Act.put, List.setIfInBounds_toArray, List.set_cons_zero, List.set_cons_succ]
  refine' wpAnyH_take (i := 60) (oi := _) (v := _) ?e_61 ?a_61 ?b_61 ?c_61 ?q_61 ?y_61 hHeld ?r_61
  case e_61 => (simp only [List.getElem?_toArray, List.getElem?_cons_zero, List.getElem?_cons_succ]; exact rfl)
  case a_61 => kernel_rfl
  case b_61 => kernel_rfl
  case c_61 => kernel_rfl
  case q_61 => exact fun _ _ _ h => h
  case y_61 => exact Or.inl ⟨by rfl, by (intro w hSw; (try dsimp only at hSw); go_simp; first | done | with_reducible rfl)⟩
  try simp only [Act.put, List.setIfInBounds_toArray, List.set_cons_zero, List.set_cons_succ]
  refine' wpAnyH_take (i := 61) (oi := _) (v := _) ?e_62 ?a_62 ?b_62 ?c_62 ?q_62 ?y_62 hHeld ?r_62
  case e_62 => (simp only [List.getElem?_toArray, List.getElem?_cons_zero, List.getElem?_cons_succ]; exact rfl)
  case a_62 => kernel_rfl
  case b_62 => kernel_rfl
  case c_62 => kernel_rfl
  case q_62 => exact fun _ _ _ h => h
  case y_62 => exact Or.inl ⟨by rfl, by (intro w hSw; (try dsimp only at hSw); go_simp; first | done | with_reducible rfl)⟩
  try simp only [Act.put, List.setIfInBounds_toArray, List.set_cons_zero, List.set_cons_succ]
  refine' wpAnyH_take (i := 62) (oi := _) (v := _) ?e_63 ?a_63 ?b_63 ?c_63 ?q_63 ?y_63 hHeld ?r_63
  case e_63 => (simp only [List.getElem?_toArray, List.getElem?_cons_zero, List.getElem?_cons_succ]; exact rfl)
  case a_63 => kernel_rfl
  case b_63 => kernel_rfl
  case c_63 => kernel_rfl
  case q_63 => exact fun _ _ _ h => h
  case y_63 => exact Or.inl ⟨by rfl, by (intro w hSw; (try dsimp only at hSw); go_simp; first | done | with_reducible rfl)⟩
  try simp only [Act.put, List.setIfInBounds_toArray, List.set_cons_zero, List.set_cons_succ]
  refine' wpAnyH_take (i := 63) (oi := _) (v := _) ?e_64 ?a_64 ?b_64 ?c_64 ?q_64 ?y_64 hHeld ?r_64
  case e_64 => (simp only [List.getElem?_toArray, List.getElem?_cons_zero, List.getElem?_cons_succ]; exact rfl)
  case a_64 => kernel_rfl
  case b_64 => kernel_rfl
  case c_64 => kernel_rfl
  case q_64 => exact fun _ _ _ h => h
  case y_64 => exact Or.inl ⟨by rfl, by (intro w hSw; (try dsimp only at hSw); go_simp; first | done | with_reducible rfl)⟩
  try simp only [Act.put, List.setIfInBounds_toArray, List.set_cons_zero, List.set_cons_succ]
  refine' wpAnyH_take (i := 64) (oi := _) (v := _) ?e_65 ?a_65 ?b_65 ?c_65 ?q_65 ?y_65 hHeld ?r_65
  case e_65 => (simp only [List.getElem?_toArray, List.getElem?_cons_zero, List.getElem?_cons_succ]; exact rfl)
  case a_65 => kernel_rfl
  case b_65 => kernel_rfl
  case c_65 => kernel_rfl
  case q_65 => exact fun _ _ _ h => h
  case y_65 =>
    refine' yieldsIf_load_mid ?hw_65 _ _ rfl _ _ rfl (ints b) _ ?hS_65 ?hu_65 ?hd_65 ?hi_65
    case hw_65 => rfl
    case hS_65 => exact fun (w' : World) (h : Below w15.heap.size w15 w') => (X8.out.below h).range
    case hu_65 => exact Try.underlying50
    case hd_65 => rfl
    case hi_65 => exact hi19 hl
  try simp only [Act.put, List.setIfInBounds_toArray, List.set_cons_zero, List.set_cons_succ]
  refine wpAnyH_ready (rs := [65]) (by kernel_rfl) (by simp) ?_
  refine' AllReadyH.cons (o := _) ?e_66 ?st_66 AllReadyH.nil
  case e_66 => (simp only [List.getElem?_toArray, List.getElem?_cons_zero, List.getElem?_cons_succ]; exact rfl)
  intro K hK
  go_simp
  have lB := hHeld
  refine (IB1.out _).mono ?_
  rintro e c5 ⟨rfl, hb5⟩
  go_wp2_with fail
  refine hK.out _ _ (chain_back hb5 lB) (fun hHeld => ?_)
  clear lB hb5
  clear hK K
  try simp only [Act.put, List.setIfInBounds_toArray, List.set_cons_zero, List.set_cons_succ]
  refine' wpAnyH_take (i := 66) (oi := _) (v := _) ?e_67 ?a_67 ?b_67 ?c_67 ?q_67 ?y_67 hHeld ?r_67
  case e_67 => (simp only [List.getElem?_toArray, List.getElem?_cons_zero, List.getElem?_cons_succ]; exact rfl)
  case a_67 => kernel_rfl
  case b_67 => kernel_rfl
  case c_67 => kernel_rfl
  case q_67 => exact fun _ _ _ h => h
  case y_67 => exact Or.inl ⟨by rfl, by (intro w hSw; (try dsimp only at hSw); go_simp; first | done | with_reducible rfl)⟩
  try simp only [Act.put, List.setIfInBounds_toArray, List.set_cons_zero, List.set_cons_succ]
  refine' wpAnyH_take (i := 67) (oi := _) (v := _) ?e_68 ?a_68 ?b_68 ?c_68 ?q_68 ?y_68 hHeld ?r_68
  case e_68 => (simp only [List.getElem?_toArray, List.getElem?_cons_zero, List.getElem?_cons_succ]; exact rfl)
  case a_68 => kernel_rfl
  case b_68 => kernel_rfl
  case c_68 => kernel_rfl
  case q_68 => exact fun _ _ _ h => h
  case y_68 => exact Or.inl ⟨by rfl, by (intro w hSw; (try dsimp only at hSw); go_simp; first | done | with_reducible rfl)⟩
  try simp only [Act.put, List.setIfInBounds_toArray, List.set_cons_zero, List.set_cons_succ]
  refine' wpAnyH_take (i := 68) (oi := _) (v := _) ?e_69 ?a_69 ?b_69 ?c_69 ?q_69 ?y_69 hHeld ?r_69
  case e_69 => (simp only [List.getElem?_toArray, List.getElem?_cons_zero, List.getElem?_cons_succ]; exact rfl)
  case a_69 => kernel_rfl
  case b_69 => kernel_rfl
  case c_69 => kernel_rfl
  case q_69 => exact fun _ _ _ h => h
  case y_69 => exact Or.inl ⟨by rfl, by (intro w hSw; (try dsimp only at hSw); go_simp; first | done | with_reducible rfl)⟩
  try simp only [Act.put, List.setIfInBounds_toArray, List.set_cons_zero, List.set_cons_succ]
  refine' wpAnyH_take (i := 69) (oi := _) (v := _) ?e_70 ?a_70 ?b_70 ?c_70 ?q_70 ?y_70 hHeld ?r_70
  case e_70 => (simp only [List.getElem?_toArray, List.getElem?_cons_zero, List.getElem?_cons_succ]; exact rfl)
  case a_70 => kernel_rfl
  case b_70 => kernel_rfl
  case c_70 => kernel_rfl
  case q_70 => exact fun _ _ _ h => h
  case y_70 => exact Or.inl ⟨by rfl, by (intro w hSw; (try dsimp only at hSw); go_simp; first | done | with_reducible rfl)⟩
  try simp only [Act.put, List.setIfInBounds_toArray, List.set_cons_zero, List.set_cons_succ]
  refine' wpAnyH_take (i := 70) (oi := _) (v := _) ?e_71 ?a_71 ?b_71 ?c_71 ?q_71 ?y_71 hHeld ?r_71
  case e_71 => (simp only [List.getElem?_toArray, List.getElem?_cons_zero, List.getElem?_cons_succ]; exact rfl)
  case a_71 => kernel_rfl
  case b_71 => kernel_rfl
  case c_71 => kernel_rfl
  case q_71 => exact fun _ _ _ h => h
  case y_71 => exact Or.inl ⟨by rfl, by (intro w hSw; (try dsimp only at hSw); go_simp; first | done | with_reducible rfl)⟩
  try simp only [Act.put, List.setIfInBounds_toArray, List.set_cons_zero, List.set_cons_succ]
  refine' wpAnyH_take (i := 71) (oi := _) (v := _) ?e_72 ?a_72 ?b_72 ?c_72 ?q_72 ?y_72 hHeld ?r_72
  case e_72 => (simp only [List.getElem?_toArray, List.getElem?_cons_zero, List.getElem?_cons_succ]; exact rfl)
  case a_72 => kernel_rfl
  case b_72 => kernel_rfl
  case c_72 => kernel_rfl
  case q_72 => exact fun _ _ _ h => h
  case y_72 => exact Or.inl ⟨by rfl, by (intro w hSw; (try dsimp only at hSw); go_simp; first | done | with_reducible rfl)⟩
  try simp only [Act.put, List.setIfInBounds_toArray, List.set_cons_zero, List.set_cons_succ]
  refine' wpAnyH_take (i := 72) (oi := _) (v := _) ?e_73 ?a_73 ?b_73 ?c_73 ?q_73 ?y_73 hHeld ?r_73
  case e_73 => (simp only [List.getElem?_toArray, List.getElem?_cons_zero, List.getElem?_cons_succ]; exact rfl)
  case a_73 => kernel_rfl
  case b_73 => kernel_rfl
  case c_73 => kernel_rfl
  case q_73 => exact fun _ _ _ h => h
  case y_73 => exact Or.inl ⟨by rfl, by (intro w hSw; (try dsimp only at hSw); go_simp; first | done | with_reducible rfl)⟩
  try simp only [Act.put, List.setIfInBounds_toArray, List.set_cons_zero, List.set_cons_succ]
  refine wpAnyH_done (by kernel_rfl) ?_ _
  refine NoPanic.normal ?_
  have lB := hHeld

  replace BX := Lib.hid (Below.chain BX.out lB)
  clear X6 X12 X19 H22 H24 H28
  replace X4 := Lib.hid (X4.out.below lB)
  replace X8 := Lib.hid (X8.out.below lB)
  replace X9 := Lib.hid (X9.out.below lB)
  replace X10 := Lib.hid (X10.out.below lB)
  replace X16 := Lib.hid (X16.out.below lB)
  replace H26 := Lib.hid (H26.out.below lB)
  clear lB hHeld eqA eqY eqE
  rename World => wz
  clear IB1 IB2 eqG
  have eqG := bench_guard
  cases okA with
  | false =>
    as_aux_lemma =>
      clear X4 HA
      cases ok2 with
      | false =>
        as_aux_lemma =>
          clear X16 HG2
          cases ok1 with
          | false =>
            as_aux_lemma =>
              go_wp2
              go_ret
              exact ⟨rfl, BX.out⟩
          | true =>
            as_aux_lemma =>
              obtain ⟨hg, hp, hYe⟩ := HF.out rfl
              obtain ⟨g1, g2, g3, g4, g5⟩ := BL.out hg hp
              rw [← hYe] at g1 g2 g3 g5
              obtain ⟨n, hn0⟩ : ∃ n, bg b 18 = n := ⟨_, rfl⟩
              have HN := Lib.hid hn0
              rw [hn0] at g3 g4 g5
              obtain ⟨n0, n1⟩ := g4
              have hc18 := Lib.hid g3
              have HL5 := Lib.hid g5
              have IY := Lib.hid (fun W => IsBench_c Y W hY)
              have BY := Lib.hid (fun W => BenchRow_c Y W hY)
              rw [g1] at IY BY
              clear hg hp hYe g1 g2 g3 g5 BL HF HDJ hn0
              have L10 := X10.out.range
              go_wp2_with (refine wpList_loadB rfl _ rfl _ rfl Y ?_ hY ?_; exact L10)
              refine (BY.out _).mono ?_
              rintro e wb ⟨uc, rfl, ho, hbB⟩
              have Hc := Lib.hid (Ints.of_own ho)
              clear ho L10 BY
              replace X8 := Lib.hid (X8.out.below hbB)
              replace X9 := Lib.hid (X9.out.below hbB)
              replace X10 := Lib.hid (X10.out.below hbB)
              replace H26 := Lib.hid (H26.out.below hbB)
              replace BX := Lib.hid (Below.chain BX.out hbB)
              clear hbB
              have L10 := X10.out.range
              go_wp2_with (refine wpList_loadB rfl _ rfl _ rfl Y ?_ hY ?_; exact L10)
              refine (IY.out _).mono ?_
              rintro e wc ⟨rfl, hbC⟩
              clear L10 IY
              replace X8 := Lib.hid (X8.out.below hbC)
              replace X9 := Lib.hid (X9.out.below hbC)
              replace X10 := Lib.hid (X10.out.below hbC)
              replace H26 := Lib.hid (H26.out.below hbC)
              replace Hc := Lib.hid (Hc.out.below hbC)
              replace BX := Lib.hid (Below.chain BX.out hbC)
              clear hbC
              have c10 := cell18 X10.out.range (j := 18) (by omega)
              have c8 := cell18 X8.out.range (j := 18) (by omega)
              rw [hc18.out] at c10
              rw [HN.out] at c8
              have p0 := X9.out.cell 0
              simp only [List.getElem?_toArray, List.getElem?_cons_zero] at p0
              by_cases h6 : jk = 6
              · subst h6
                as_aux_lemma =>
                  obtain ⟨hrw, hrow, HL5b⟩ := HL5.out (by omega)
                  have hrow2 : brL Y true = brvL true (brL b true) := hrow
                  rw [hrow2] at Hc
                  clear hrow hrow2
                  have TR := Lib.hid (fun W h => TurnRow_c u26 (brL b true) W h)
                  have MR := Lib.hid (fun W h => MirrorRow_c u26 (brL b true) W h)
                  rw [hrw] at TR MR
                  clear hrw
                  go_wp2_with fail
                  refine (TR.out _ H26.out).mono ?_
                  rintro e wt ⟨us, rfl, ho, hbD⟩
                  have Hs := Lib.hid (Ints.of_own ho)
                  clear ho p0 c10 c8
                  replace X8 := Lib.hid (X8.out.below hbD)
                  replace X9 := Lib.hid (X9.out.below hbD)
                  replace X10 := Lib.hid (X10.out.below hbD)
                  replace H26 := Lib.hid (H26.out.below hbD)
                  replace Hc := Lib.hid (Hc.out.below hbD)
                  replace BX := Lib.hid (Below.chain BX.out hbD)
                  clear hbD
                  have p0 := X9.out.cell 0
                  simp only [List.getElem?_toArray, List.getElem?_cons_zero] at p0
                  clear H26
                  go_wp2_with fail
                  refine (vIntsSame_c us uc _ _ Hs.out Hc.out).mono ?_
                  rintro e we ⟨rfl, hbE⟩
                  clear Hs Hc TR MR p0
                  replace X8 := Lib.hid (X8.out.below hbE)
                  replace X9 := Lib.hid (X9.out.below hbE)
                  replace X10 := Lib.hid (X10.out.below hbE)
                  replace BX := Lib.hid (Below.chain BX.out hbE)
                  clear hbE
                  have c10 := cell18 X10.out.range (j := 18) (by omega)
                  rw [hc18.out] at c10
                  have BN := Lib.hid HL5b
                  by_cases hn : n + 1 = 1000
                  · as_aux_lemma =>
                      go_wp2
                      go_ret
                      exact ⟨rfl, BX.out⟩
                  · as_aux_lemma =>
                      obtain ⟨H, hdj2, hH, hHb⟩ := BN.out hn
                      have DJ3 := Lib.hid (fun W => DoJob_c Y 6 ja jb W hY)
                      rw [hdj2] at DJ3
                      unfold aggI jobV at DJ3
                      have HHB := Lib.hid hHb
                      clear hdj2 hHb
                      have L10 := X10.out.range
                      have p0 := X9.out.cell 0
                      have p1 := X9.out.cell 1
                      have p2 := X9.out.cell 2
                      simp only [List.getElem?_toArray, List.getElem?_cons_zero, List.getElem?_cons_succ] at p0 p1 p2
                      go_wp2_with (refine wpList_loadB rfl _ rfl _ rfl Y ?_ hY ?_; exact L10)
                      refine (DJ3.out _).mono ?_
                      rintro e wf ⟨rfl, hbF⟩
                      clear L10 p0 p1 p2 c10 X10 X9 DJ3
                      replace X8 := Lib.hid (X8.out.below hbF)
                      replace BX := Lib.hid (Below.chain BX.out hbF)
                      clear hbF
                      have hne := X8.out.lt
                      have tb := (Bk.new wf 50 zBA).there (n := 19) (by decide)
                      have hx := below_cells (ints H) (wf.alloc (.cells zBA 50)) wf.heap.size 0 (below_one (w := wf) (.cells zBA 50)) (Nat.le_refl _)
                      have X34 : Bk ((wf.alloc (.cells zBA 50)).setCells wf.heap.size 0 (ints H)) wf.heap.size 50 (ints H).toArray := Bk.putB (b := zeroI) (Bk.new wf 50 zBA) zero_len hH
                      have X8a := X8.out.below hx
                      have c8 := cell18 X8a.range (j := 18) (by omega)
                      have f34 := X34.frozen 18
                      obtain ⟨u34, z34⟩ := there_some (X34.there (n := 19) (by rw [ints_size hH]; decide)) (j := 18) (by omega)
                      have R34 : Bk (((wf.alloc (.cells zBA 50)).setCells wf.heap.size 0 (ints H)).setCell ⟨wf.heap.size, 18, none⟩ (.int .i64 (bg b 18))) wf.heap.size 50 (ints b).toArray := by
                        have h2 := X34.setI 18 (bg b 18)
                        rw [HN.out] at h2 ⊢
                        rw [HHB.out] at h2
                        exact h2
                      have R8 := X8a.other (p := ⟨wf.heap.size, 18, none⟩) (by simp; omega) (.int .i64 (bg b 18))
                      have hz := Lib.hid (hx.setCell (p := ⟨wf.heap.size, 18, none⟩) (Nat.le_refl _) (.int .i64 (bg b 18)))
                      replace BX := Lib.hid (Below.chain BX.out hz.out)
                      have L34 := R34.range
                      have L8 := R8.range
                      have eqB := fun W => bench_equal hl W
                      clear X34 X8a R34 R8 hz hx X8
                      unfold zBA at *
                      go_wp2_with (first | (refine wpList_storeB rfl _ _ rfl _ H rfl rfl ?_ hH ?_; exact tb) | (refine wpList_loadB rfl _ rfl _ rfl b ?_ hl ?_; first | exact L34 | exact L8))
                      go_ret
                      exact ⟨rfl, BX.out⟩
              · by_cases h7 : jk = 7
                · subst h7
                  as_aux_lemma =>
                    obtain ⟨hrw, hrow, HL5b⟩ := HL5.out (by omega)
                    have hrow2 : brL Y true = brvL false (brL b true) := hrow
                    rw [hrow2] at Hc
                    clear hrow hrow2
                    have TR := Lib.hid (fun W h => TurnRow_c u26 (brL b true) W h)
                    have MR := Lib.hid (fun W h => MirrorRow_c u26 (brL b true) W h)
                    rw [hrw] at TR MR
                    clear hrw
                    go_wp2_with fail
                    refine (TR.out _ H26.out).mono ?_
                    rintro e wt ⟨us, rfl, ho, hbD⟩
                    have Hs := Lib.hid (Ints.of_own ho)
                    clear ho p0 c10 c8
                    replace X8 := Lib.hid (X8.out.below hbD)
                    replace X9 := Lib.hid (X9.out.below hbD)
                    replace X10 := Lib.hid (X10.out.below hbD)
                    replace H26 := Lib.hid (H26.out.below hbD)
                    replace Hc := Lib.hid (Hc.out.below hbD)
                    replace BX := Lib.hid (Below.chain BX.out hbD)
                    clear hbD
                    have p0 := X9.out.cell 0
                    simp only [List.getElem?_toArray, List.getElem?_cons_zero] at p0
                    go_wp2_with fail
                    refine (MR.out _ H26.out).mono ?_
                    rintro e wm ⟨us2, rfl, ho, hbD⟩
                    clear Hs p0
                    have Hs := Lib.hid (Ints.of_own ho)
                    clear ho
                    replace X8 := Lib.hid (X8.out.below hbD)
                    replace X9 := Lib.hid (X9.out.below hbD)
                    replace X10 := Lib.hid (X10.out.below hbD)
                    replace Hc := Lib.hid (Hc.out.below hbD)
                    replace BX := Lib.hid (Below.chain BX.out hbD)
                    clear hbD
                    have p0 := X9.out.cell 0
                    simp only [List.getElem?_toArray, List.getElem?_cons_zero] at p0
                    clear H26
                    go_wp2_with fail
                    refine (vIntsSame_c us2 uc _ _ Hs.out Hc.out).mono ?_
                    rintro e we ⟨rfl, hbE⟩
                    clear Hs Hc TR MR p0
                    replace X8 := Lib.hid (X8.out.below hbE)
                    replace X9 := Lib.hid (X9.out.below hbE)
                    replace X10 := Lib.hid (X10.out.below hbE)
                    replace BX := Lib.hid (Below.chain BX.out hbE)
                    clear hbE
                    have c10 := cell18 X10.out.range (j := 18) (by omega)
                    rw [hc18.out] at c10
                    have BN := Lib.hid HL5b
                    by_cases hn : n + 1 = 1000
                    · as_aux_lemma =>
                        go_wp2
                        go_ret
                        exact ⟨rfl, BX.out⟩
                    · as_aux_lemma =>
                        obtain ⟨H, hdj2, hH, hHb⟩ := BN.out hn
                        have DJ3 := Lib.hid (fun W => DoJob_c Y 7 ja jb W hY)
                        rw [hdj2] at DJ3
                        unfold aggI jobV at DJ3
                        have HHB := Lib.hid hHb
                        clear hdj2 hHb
                        have L10 := X10.out.range
                        have p0 := X9.out.cell 0
                        have p1 := X9.out.cell 1
                        have p2 := X9.out.cell 2
                        simp only [List.getElem?_toArray, List.getElem?_cons_zero, List.getElem?_cons_succ] at p0 p1 p2
                        go_wp2_with (refine wpList_loadB rfl _ rfl _ rfl Y ?_ hY ?_; exact L10)
                        refine (DJ3.out _).mono ?_
                        rintro e wf ⟨rfl, hbF⟩
                        clear L10 p0 p1 p2 c10 X10 X9 DJ3
                        replace X8 := Lib.hid (X8.out.below hbF)
                        replace BX := Lib.hid (Below.chain BX.out hbF)
                        clear hbF
                        have hne := X8.out.lt
                        have tb := (Bk.new wf 50 zBA).there (n := 19) (by decide)
                        have hx := below_cells (ints H) (wf.alloc (.cells zBA 50)) wf.heap.size 0 (below_one (w := wf) (.cells zBA 50)) (Nat.le_refl _)
                        have X34 : Bk ((wf.alloc (.cells zBA 50)).setCells wf.heap.size 0 (ints H)) wf.heap.size 50 (ints H).toArray := Bk.putB (b := zeroI) (Bk.new wf 50 zBA) zero_len hH
                        have X8a := X8.out.below hx
                        have c8 := cell18 X8a.range (j := 18) (by omega)
                        have f34 := X34.frozen 18
                        obtain ⟨u34, z34⟩ := there_some (X34.there (n := 19) (by rw [ints_size hH]; decide)) (j := 18) (by omega)
                        have R34 : Bk (((wf.alloc (.cells zBA 50)).setCells wf.heap.size 0 (ints H)).setCell ⟨wf.heap.size, 18, none⟩ (.int .i64 (bg b 18))) wf.heap.size 50 (ints b).toArray := by
                          have h2 := X34.setI 18 (bg b 18)
                          rw [HN.out] at h2 ⊢
                          rw [HHB.out] at h2
                          exact h2
                        have R8 := X8a.other (p := ⟨wf.heap.size, 18, none⟩) (by simp; omega) (.int .i64 (bg b 18))
                        have hz := Lib.hid (hx.setCell (p := ⟨wf.heap.size, 18, none⟩) (Nat.le_refl _) (.int .i64 (bg b 18)))
                        replace BX := Lib.hid (Below.chain BX.out hz.out)
                        have L34 := R34.range
                        have L8 := R8.range
                        have eqB := fun W => bench_equal hl W
                        clear X34 X8a R34 R8 hz hx X8
                        unfold zBA at *
                        go_wp2_with (first | (refine wpList_storeB rfl _ _ rfl _ H rfl rfl ?_ hH ?_; exact tb) | (refine wpList_loadB rfl _ rfl _ rfl b ?_ hl ?_; first | exact L34 | exact L8))
                        go_ret
                        exact ⟨rfl, BX.out⟩
                · have e6 : (jk != 6) = true := by simpa using h6
                  have e7 : (jk != 7) = true := by simpa using h7
                  clear h6 h7
                  as_aux_lemma =>
                    go_wp2
                    go_ret
                    exact ⟨rfl, BX.out⟩
      | true =>
        as_aux_lemma =>
          have IA := Lib.hid (fun W => IsBench_c E W hE)
          rw [HG2.out rfl] at IA
          have LXA := X16.out.range
          go_wp2_with (refine wpList_loadB rfl _ rfl _ rfl E ?_ hE ?_; exact LXA)
          refine (IA.out _).mono ?_
          rintro e wq ⟨rfl, hbA⟩
          clear LXA IA
          replace X8 := Lib.hid (X8.out.below hbA)
          replace X9 := Lib.hid (X9.out.below hbA)
          replace X10 := Lib.hid (X10.out.below hbA)
          replace X16 := Lib.hid (X16.out.below hbA)
          replace H26 := Lib.hid (H26.out.below hbA)
          replace BX := Lib.hid (Below.chain BX.out hbA)
          clear hbA
          clear X16 HG2
          cases ok1 with
          | false =>
            as_aux_lemma =>
              go_wp2
              go_ret
              exact ⟨rfl, BX.out⟩
          | true =>
            as_aux_lemma =>
              obtain ⟨hg, hp, hYe⟩ := HF.out rfl
              obtain ⟨g1, g2, g3, g4, g5⟩ := BL.out hg hp
              rw [← hYe] at g1 g2 g3 g5
              obtain ⟨n, hn0⟩ : ∃ n, bg b 18 = n := ⟨_, rfl⟩
              have HN := Lib.hid hn0
              rw [hn0] at g3 g4 g5
              obtain ⟨n0, n1⟩ := g4
              have hc18 := Lib.hid g3
              have HL5 := Lib.hid g5
              have IY := Lib.hid (fun W => IsBench_c Y W hY)
              have BY := Lib.hid (fun W => BenchRow_c Y W hY)
              rw [g1] at IY BY
              clear hg hp hYe g1 g2 g3 g5 BL HF HDJ hn0
              have L10 := X10.out.range
              go_wp2_with (refine wpList_loadB rfl _ rfl _ rfl Y ?_ hY ?_; exact L10)
              refine (BY.out _).mono ?_
              rintro e wb ⟨uc, rfl, ho, hbB⟩
              have Hc := Lib.hid (Ints.of_own ho)
              clear ho L10 BY
              replace X8 := Lib.hid (X8.out.below hbB)
              replace X9 := Lib.hid (X9.out.below hbB)
              replace X10 := Lib.hid (X10.out.below hbB)
              replace H26 := Lib.hid (H26.out.below hbB)
              replace BX := Lib.hid (Below.chain BX.out hbB)
              clear hbB
              have L10 := X10.out.range
              go_wp2_with (refine wpList_loadB rfl _ rfl _ rfl Y ?_ hY ?_; exact L10)
              refine (IY.out _).mono ?_
              rintro e wc ⟨rfl, hbC⟩
              clear L10 IY
              replace X8 := Lib.hid (X8.out.below hbC)
              replace X9 := Lib.hid (X9.out.below hbC)
              replace X10 := Lib.hid (X10.out.below hbC)
              replace H26 := Lib.hid (H26.out.below hbC)
              replace Hc := Lib.hid (Hc.out.below hbC)
              replace BX := Lib.hid (Below.chain BX.out hbC)
              clear hbC
              have c10 := cell18 X10.out.range (j := 18) (by omega)
              have c8 := cell18 X8.out.range (j := 18) (by omega)
              rw [hc18.out] at c10
              rw [HN.out] at c8
              have p0 := X9.out.cell 0
              simp only [List.getElem?_toArray, List.getElem?_cons_zero] at p0
              by_cases h6 : jk = 6
              · subst h6
                as_aux_lemma =>
                  obtain ⟨hrw, hrow, HL5b⟩ := HL5.out (by omega)
                  have hrow2 : brL Y true = brvL true (brL b true) := hrow
                  rw [hrow2] at Hc
                  clear hrow hrow2
                  have TR := Lib.hid (fun W h => TurnRow_c u26 (brL b true) W h)
                  have MR := Lib.hid (fun W h => MirrorRow_c u26 (brL b true) W h)
                  rw [hrw] at TR MR
                  clear hrw
                  go_wp2_with fail
                  refine (TR.out _ H26.out).mono ?_
                  rintro e wt ⟨us, rfl, ho, hbD⟩
                  have Hs := Lib.hid (Ints.of_own ho)
                  clear ho p0 c10 c8
                  replace X8 := Lib.hid (X8.out.below hbD)
                  replace X9 := Lib.hid (X9.out.below hbD)
                  replace X10 := Lib.hid (X10.out.below hbD)
                  replace H26 := Lib.hid (H26.out.below hbD)
                  replace Hc := Lib.hid (Hc.out.below hbD)
                  replace BX := Lib.hid (Below.chain BX.out hbD)
                  clear hbD
                  have p0 := X9.out.cell 0
                  simp only [List.getElem?_toArray, List.getElem?_cons_zero] at p0
                  clear H26
                  go_wp2_with fail
                  refine (vIntsSame_c us uc _ _ Hs.out Hc.out).mono ?_
                  rintro e we ⟨rfl, hbE⟩
                  clear Hs Hc TR MR p0
                  replace X8 := Lib.hid (X8.out.below hbE)
                  replace X9 := Lib.hid (X9.out.below hbE)
                  replace X10 := Lib.hid (X10.out.below hbE)
                  replace BX := Lib.hid (Below.chain BX.out hbE)
                  clear hbE
                  have c10 := cell18 X10.out.range (j := 18) (by omega)
                  rw [hc18.out] at c10
                  have BN := Lib.hid HL5b
                  by_cases hn : n + 1 = 1000
                  · as_aux_lemma =>
                      go_wp2
                      go_ret
                      exact ⟨rfl, BX.out⟩
                  · as_aux_lemma =>
                      obtain ⟨H, hdj2, hH, hHb⟩ := BN.out hn
                      have DJ3 := Lib.hid (fun W => DoJob_c Y 6 ja jb W hY)
                      rw [hdj2] at DJ3
                      unfold aggI jobV at DJ3
                      have HHB := Lib.hid hHb
                      clear hdj2 hHb
                      have L10 := X10.out.range
                      have p0 := X9.out.cell 0
                      have p1 := X9.out.cell 1
                      have p2 := X9.out.cell 2
                      simp only [List.getElem?_toArray, List.getElem?_cons_zero, List.getElem?_cons_succ] at p0 p1 p2
                      go_wp2_with (refine wpList_loadB rfl _ rfl _ rfl Y ?_ hY ?_; exact L10)
                      refine (DJ3.out _).mono ?_
                      rintro e wf ⟨rfl, hbF⟩
                      clear L10 p0 p1 p2 c10 X10 X9 DJ3
                      replace X8 := Lib.hid (X8.out.below hbF)
                      replace BX := Lib.hid (Below.chain BX.out hbF)
                      clear hbF
                      have hne := X8.out.lt
                      have tb := (Bk.new wf 50 zBA).there (n := 19) (by decide)
                      have hx := below_cells (ints H) (wf.alloc (.cells zBA 50)) wf.heap.size 0 (below_one (w := wf) (.cells zBA 50)) (Nat.le_refl _)
                      have X34 : Bk ((wf.alloc (.cells zBA 50)).setCells wf.heap.size 0 (ints H)) wf.heap.size 50 (ints H).toArray := Bk.putB (b := zeroI) (Bk.new wf 50 zBA) zero_len hH
                      have X8a := X8.out.below hx
                      have c8 := cell18 X8a.range (j := 18) (by omega)
                      have f34 := X34.frozen 18
                      obtain ⟨u34, z34⟩ := there_some (X34.there (n := 19) (by rw [ints_size hH]; decide)) (j := 18) (by omega)
                      have R34 : Bk (((wf.alloc (.cells zBA 50)).setCells wf.heap.size 0 (ints H)).setCell ⟨wf.heap.size, 18, none⟩ (.int .i64 (bg b 18))) wf.heap.size 50 (ints b).toArray := by
                        have h2 := X34.setI 18 (bg b 18)
                        rw [HN.out] at h2 ⊢
                        rw [HHB.out] at h2
                        exact h2
                      have R8 := X8a.other (p := ⟨wf.heap.size, 18, none⟩) (by simp; omega) (.int .i64 (bg b 18))
                      have hz := Lib.hid (hx.setCell (p := ⟨wf.heap.size, 18, none⟩) (Nat.le_refl _) (.int .i64 (bg b 18)))
                      replace BX := Lib.hid (Below.chain BX.out hz.out)
                      have L34 := R34.range
                      have L8 := R8.range
                      have eqB := fun W => bench_equal hl W
                      clear X34 X8a R34 R8 hz hx X8
                      unfold zBA at *
                      go_wp2_with (first | (refine wpList_storeB rfl _ _ rfl _ H rfl rfl ?_ hH ?_; exact tb) | (refine wpList_loadB rfl _ rfl _ rfl b ?_ hl ?_; first | exact L34 | exact L8))
                      go_ret
                      exact ⟨rfl, BX.out⟩
              · by_cases h7 : jk = 7
                · subst h7
                  as_aux_lemma =>
                    obtain ⟨hrw, hrow, HL5b⟩ := HL5.out (by omega)
                    have hrow2 : brL Y true = brvL false (brL b true) := hrow
                    rw [hrow2] at Hc
                    clear hrow hrow2
                    have TR := Lib.hid (fun W h => TurnRow_c u26 (brL b true) W h)
                    have MR := Lib.hid (fun W h => MirrorRow_c u26 (brL b true) W h)
                    rw [hrw] at TR MR
                    clear hrw
                    go_wp2_with fail
                    refine (TR.out _ H26.out).mono ?_
                    rintro e wt ⟨us, rfl, ho, hbD⟩
                    have Hs := Lib.hid (Ints.of_own ho)
                    clear ho p0 c10 c8
                    replace X8 := Lib.hid (X8.out.below hbD)
                    replace X9 := Lib.hid (X9.out.below hbD)
                    replace X10 := Lib.hid (X10.out.below hbD)
                    replace H26 := Lib.hid (H26.out.below hbD)
                    replace Hc := Lib.hid (Hc.out.below hbD)
                    replace BX := Lib.hid (Below.chain BX.out hbD)
                    clear hbD
                    have p0 := X9.out.cell 0
                    simp only [List.getElem?_toArray, List.getElem?_cons_zero] at p0
                    go_wp2_with fail
                    refine (MR.out _ H26.out).mono ?_
                    rintro e wm ⟨us2, rfl, ho, hbD⟩
                    clear Hs p0
                    have Hs := Lib.hid (Ints.of_own ho)
                    clear ho
                    replace X8 := Lib.hid (X8.out.below hbD)
                    replace X9 := Lib.hid (X9.out.below hbD)
                    replace X10 := Lib.hid (X10.out.below hbD)
                    replace Hc := Lib.hid (Hc.out.below hbD)
                    replace BX := Lib.hid (Below.chain BX.out hbD)
                    clear hbD
                    have p0 := X9.out.cell 0
                    simp only [List.getElem?_toArray, List.getElem?_cons_zero] at p0
                    clear H26
                    go_wp2_with fail
                    refine (vIntsSame_c us2 uc _ _ Hs.out Hc.out).mono ?_
                    rintro e we ⟨rfl, hbE⟩
                    clear Hs Hc TR MR p0
                    replace X8 := Lib.hid (X8.out.below hbE)
                    replace X9 := Lib.hid (X9.out.below hbE)
                    replace X10 := Lib.hid (X10.out.below hbE)
                    replace BX := Lib.hid (Below.chain BX.out hbE)
                    clear hbE
                    have c10 := cell18 X10.out.range (j := 18) (by omega)
                    rw [hc18.out] at c10
                    have BN := Lib.hid HL5b
                    by_cases hn : n + 1 = 1000
                    · as_aux_lemma =>
                        go_wp2
                        go_ret
                        exact ⟨rfl, BX.out⟩
                    · as_aux_lemma =>
                        obtain ⟨H, hdj2, hH, hHb⟩ := BN.out hn
                        have DJ3 := Lib.hid (fun W => DoJob_c Y 7 ja jb W hY)
                        rw [hdj2] at DJ3
                        unfold aggI jobV at DJ3
                        have HHB := Lib.hid hHb
                        clear hdj2 hHb
                        have L10 := X10.out.range
                        have p0 := X9.out.cell 0
                        have p1 := X9.out.cell 1
                        have p2 := X9.out.cell 2
                        simp only [List.getElem?_toArray, List.getElem?_cons_zero, List.getElem?_cons_succ] at p0 p1 p2
                        go_wp2_with (refine wpList_loadB rfl _ rfl _ rfl Y ?_ hY ?_; exact L10)
                        refine (DJ3.out _).mono ?_
                        rintro e wf ⟨rfl, hbF⟩
                        clear L10 p0 p1 p2 c10 X10 X9 DJ3
                        replace X8 := Lib.hid (X8.out.below hbF)
                        replace BX := Lib.hid (Below.chain BX.out hbF)
                        clear hbF
                        have hne := X8.out.lt
                        have tb := (Bk.new wf 50 zBA).there (n := 19) (by decide)
                        have hx := below_cells (ints H) (wf.alloc (.cells zBA 50)) wf.heap.size 0 (below_one (w := wf) (.cells zBA 50)) (Nat.le_refl _)
                        have X34 : Bk ((wf.alloc (.cells zBA 50)).setCells wf.heap.size 0 (ints H)) wf.heap.size 50 (ints H).toArray := Bk.putB (b := zeroI) (Bk.new wf 50 zBA) zero_len hH
                        have X8a := X8.out.below hx
                        have c8 := cell18 X8a.range (j := 18) (by omega)
                        have f34 := X34.frozen 18
                        obtain ⟨u34, z34⟩ := there_some (X34.there (n := 19) (by rw [ints_size hH]; decide)) (j := 18) (by omega)
                        have R34 : Bk (((wf.alloc (.cells zBA 50)).setCells wf.heap.size 0 (ints H)).setCell ⟨wf.heap.size, 18, none⟩ (.int .i64 (bg b 18))) wf.heap.size 50 (ints b).toArray := by
                          have h2 := X34.setI 18 (bg b 18)
                          rw [HN.out] at h2 ⊢
                          rw [HHB.out] at h2
                          exact h2
                        have R8 := X8a.other (p := ⟨wf.heap.size, 18, none⟩) (by simp; omega) (.int .i64 (bg b 18))
                        have hz := Lib.hid (hx.setCell (p := ⟨wf.heap.size, 18, none⟩) (Nat.le_refl _) (.int .i64 (bg b 18)))
                        replace BX := Lib.hid (Below.chain BX.out hz.out)
                        have L34 := R34.range
                        have L8 := R8.range
                        have eqB := fun W => bench_equal hl W
                        clear X34 X8a R34 R8 hz hx X8
                        unfold zBA at *
                        go_wp2_with (first | (refine wpList_storeB rfl _ _ rfl _ H rfl rfl ?_ hH ?_; exact tb) | (refine wpList_loadB rfl _ rfl _ rfl b ?_ hl ?_; first | exact L34 | exact L8))
                        go_ret
                        exact ⟨rfl, BX.out⟩
                · have e6 : (jk != 6) = true := by simpa using h6
                  have e7 : (jk != 7) = true := by simpa using h7
                  clear h6 h7
                  as_aux_lemma =>
                    go_wp2
                    go_ret
                    exact ⟨rfl, BX.out⟩
  | true =>
    as_aux_lemma =>
      have IA := Lib.hid (fun W => IsBench_c A W hA)
      rw [HA.out rfl] at IA
      have LXA := X4.out.range
      go_wp2_with (refine wpList_loadB rfl _ rfl _ rfl A ?_ hA ?_; exact LXA)
      refine (IA.out _).mono ?_
      rintro e wp ⟨rfl, hbA⟩
      clear LXA IA
      replace X8 := Lib.hid (X8.out.below hbA)
      replace X9 := Lib.hid (X9.out.below hbA)
      replace X10 := Lib.hid (X10.out.below hbA)
      replace X16 := Lib.hid (X16.out.below hbA)
      replace H26 := Lib.hid (H26.out.below hbA)
      replace BX := Lib.hid (Below.chain BX.out hbA)
      clear hbA
      clear X4 HA
      cases ok2 with
      | false =>
        as_aux_lemma =>
          clear X16 HG2
          cases ok1 with
          | false =>
            as_aux_lemma =>
              go_wp2
              go_ret
              exact ⟨rfl, BX.out⟩
          | true =>
            as_aux_lemma =>
              obtain ⟨hg, hp, hYe⟩ := HF.out rfl
              obtain ⟨g1, g2, g3, g4, g5⟩ := BL.out hg hp
              rw [← hYe] at g1 g2 g3 g5
              obtain ⟨n, hn0⟩ : ∃ n, bg b 18 = n := ⟨_, rfl⟩
              have HN := Lib.hid hn0
              rw [hn0] at g3 g4 g5
              obtain ⟨n0, n1⟩ := g4
              have hc18 := Lib.hid g3
              have HL5 := Lib.hid g5
              have IY := Lib.hid (fun W => IsBench_c Y W hY)
              have BY := Lib.hid (fun W => BenchRow_c Y W hY)
              rw [g1] at IY BY
              clear hg hp hYe g1 g2 g3 g5 BL HF HDJ hn0
              have L10 := X10.out.range
              go_wp2_with (refine wpList_loadB rfl _ rfl _ rfl Y ?_ hY ?_; exact L10)
              refine (BY.out _).mono ?_
              rintro e wb ⟨uc, rfl, ho, hbB⟩
              have Hc := Lib.hid (Ints.of_own ho)
              clear ho L10 BY
              replace X8 := Lib.hid (X8.out.below hbB)
              replace X9 := Lib.hid (X9.out.below hbB)
              replace X10 := Lib.hid (X10.out.below hbB)
              replace H26 := Lib.hid (H26.out.below hbB)
              replace BX := Lib.hid (Below.chain BX.out hbB)
              clear hbB
              have L10 := X10.out.range
              go_wp2_with (refine wpList_loadB rfl _ rfl _ rfl Y ?_ hY ?_; exact L10)
              refine (IY.out _).mono ?_
              rintro e wc ⟨rfl, hbC⟩
              clear L10 IY
              replace X8 := Lib.hid (X8.out.below hbC)
              replace X9 := Lib.hid (X9.out.below hbC)
              replace X10 := Lib.hid (X10.out.below hbC)
              replace H26 := Lib.hid (H26.out.below hbC)
              replace Hc := Lib.hid (Hc.out.below hbC)
              replace BX := Lib.hid (Below.chain BX.out hbC)
              clear hbC
              have c10 := cell18 X10.out.range (j := 18) (by omega)
              have c8 := cell18 X8.out.range (j := 18) (by omega)
              rw [hc18.out] at c10
              rw [HN.out] at c8
              have p0 := X9.out.cell 0
              simp only [List.getElem?_toArray, List.getElem?_cons_zero] at p0
              by_cases h6 : jk = 6
              · subst h6
                as_aux_lemma =>
                  obtain ⟨hrw, hrow, HL5b⟩ := HL5.out (by omega)
                  have hrow2 : brL Y true = brvL true (brL b true) := hrow
                  rw [hrow2] at Hc
                  clear hrow hrow2
                  have TR := Lib.hid (fun W h => TurnRow_c u26 (brL b true) W h)
                  have MR := Lib.hid (fun W h => MirrorRow_c u26 (brL b true) W h)
                  rw [hrw] at TR MR
                  clear hrw
                  go_wp2_with fail
                  refine (TR.out _ H26.out).mono ?_
                  rintro e wt ⟨us, rfl, ho, hbD⟩
                  have Hs := Lib.hid (Ints.of_own ho)
                  clear ho p0 c10 c8
                  replace X8 := Lib.hid (X8.out.below hbD)
                  replace X9 := Lib.hid (X9.out.below hbD)
                  replace X10 := Lib.hid (X10.out.below hbD)
                  replace H26 := Lib.hid (H26.out.below hbD)
                  replace Hc := Lib.hid (Hc.out.below hbD)
                  replace BX := Lib.hid (Below.chain BX.out hbD)
                  clear hbD
                  have p0 := X9.out.cell 0
                  simp only [List.getElem?_toArray, List.getElem?_cons_zero] at p0
                  clear H26
                  go_wp2_with fail
                  refine (vIntsSame_c us uc _ _ Hs.out Hc.out).mono ?_
                  rintro e we ⟨rfl, hbE⟩
                  clear Hs Hc TR MR p0
                  replace X8 := Lib.hid (X8.out.below hbE)
                  replace X9 := Lib.hid (X9.out.below hbE)
                  replace X10 := Lib.hid (X10.out.below hbE)
                  replace BX := Lib.hid (Below.chain BX.out hbE)
                  clear hbE
                  have c10 := cell18 X10.out.range (j := 18) (by omega)
                  rw [hc18.out] at c10
                  have BN := Lib.hid HL5b
                  by_cases hn : n + 1 = 1000
                  · as_aux_lemma =>
                      go_wp2
                      go_ret
                      exact ⟨rfl, BX.out⟩
                  · as_aux_lemma =>
                      obtain ⟨H, hdj2, hH, hHb⟩ := BN.out hn
                      have DJ3 := Lib.hid (fun W => DoJob_c Y 6 ja jb W hY)
                      rw [hdj2] at DJ3
                      unfold aggI jobV at DJ3
                      have HHB := Lib.hid hHb
                      clear hdj2 hHb
                      have L10 := X10.out.range
                      have p0 := X9.out.cell 0
                      have p1 := X9.out.cell 1
                      have p2 := X9.out.cell 2
                      simp only [List.getElem?_toArray, List.getElem?_cons_zero, List.getElem?_cons_succ] at p0 p1 p2
                      go_wp2_with (refine wpList_loadB rfl _ rfl _ rfl Y ?_ hY ?_; exact L10)
                      refine (DJ3.out _).mono ?_
                      rintro e wf ⟨rfl, hbF⟩
                      clear L10 p0 p1 p2 c10 X10 X9 DJ3
                      replace X8 := Lib.hid (X8.out.below hbF)
                      replace BX := Lib.hid (Below.chain BX.out hbF)
                      clear hbF
                      have hne := X8.out.lt
                      have tb := (Bk.new wf 50 zBA).there (n := 19) (by decide)
                      have hx := below_cells (ints H) (wf.alloc (.cells zBA 50)) wf.heap.size 0 (below_one (w := wf) (.cells zBA 50)) (Nat.le_refl _)
                      have X34 : Bk ((wf.alloc (.cells zBA 50)).setCells wf.heap.size 0 (ints H)) wf.heap.size 50 (ints H).toArray := Bk.putB (b := zeroI) (Bk.new wf 50 zBA) zero_len hH
                      have X8a := X8.out.below hx
                      have c8 := cell18 X8a.range (j := 18) (by omega)
                      have f34 := X34.frozen 18
                      obtain ⟨u34, z34⟩ := there_some (X34.there (n := 19) (by rw [ints_size hH]; decide)) (j := 18) (by omega)
                      have R34 : Bk (((wf.alloc (.cells zBA 50)).setCells wf.heap.size 0 (ints H)).setCell ⟨wf.heap.size, 18, none⟩ (.int .i64 (bg b 18))) wf.heap.size 50 (ints b).toArray := by
                        have h2 := X34.setI 18 (bg b 18)
                        rw [HN.out] at h2 ⊢
                        rw [HHB.out] at h2
                        exact h2
                      have R8 := X8a.other (p := ⟨wf.heap.size, 18, none⟩) (by simp; omega) (.int .i64 (bg b 18))
                      have hz := Lib.hid (hx.setCell (p := ⟨wf.heap.size, 18, none⟩) (Nat.le_refl _) (.int .i64 (bg b 18)))
                      replace BX := Lib.hid (Below.chain BX.out hz.out)
                      have L34 := R34.range
                      have L8 := R8.range
                      have eqB := fun W => bench_equal hl W
                      clear X34 X8a R34 R8 hz hx X8
                      unfold zBA at *
                      go_wp2_with (first | (refine wpList_storeB rfl _ _ rfl _ H rfl rfl ?_ hH ?_; exact tb) | (refine wpList_loadB rfl _ rfl _ rfl b ?_ hl ?_; first | exact L34 | exact L8))
                      go_ret
                      exact ⟨rfl, BX.out⟩
              · by_cases h7 : jk = 7
                · subst h7
                  as_aux_lemma =>
                    obtain ⟨hrw, hrow, HL5b⟩ := HL5.out (by omega)
                    have hrow2 : brL Y true = brvL false (brL b true) := hrow
                    rw [hrow2] at Hc
                    clear hrow hrow2
                    have TR := Lib.hid (fun W h => TurnRow_c u26 (brL b true) W h)
                    have MR := Lib.hid (fun W h => MirrorRow_c u26 (brL b true) W h)
                    rw [hrw] at TR MR
                    clear hrw
                    go_wp2_with fail
                    refine (TR.out _ H26.out).mono ?_
                    rintro e wt ⟨us, rfl, ho, hbD⟩
                    have Hs := Lib.hid (Ints.of_own ho)
                    clear ho p0 c10 c8
                    replace X8 := Lib.hid (X8.out.below hbD)
                    replace X9 := Lib.hid (X9.out.below hbD)
                    replace X10 := Lib.hid (X10.out.below hbD)
                    replace H26 := Lib.hid (H26.out.below hbD)
                    replace Hc := Lib.hid (Hc.out.below hbD)
                    replace BX := Lib.hid (Below.chain BX.out hbD)
                    clear hbD
                    have p0 := X9.out.cell 0
                    simp only [List.getElem?_toArray, List.getElem?_cons_zero] at p0
                    go_wp2_with fail
                    refine (MR.out _ H26.out).mono ?_
                    rintro e wm ⟨us2, rfl, ho, hbD⟩
                    clear Hs p0
                    have Hs := Lib.hid (Ints.of_own ho)
                    clear ho
                    replace X8 := Lib.hid (X8.out.below hbD)
                    replace X9 := Lib.hid (X9.out.below hbD)
                    replace X10 := Lib.hid (X10.out.below hbD)
                    replace Hc := Lib.hid (Hc.out.below hbD)
                    replace BX := Lib.hid (Below.chain BX.out hbD)
                    clear hbD
                    have p0 := X9.out.cell 0
                    simp only [List.getElem?_toArray, List.getElem?_cons_zero] at p0
                    clear H26
                    go_wp2_with fail
                    refine (vIntsSame_c us2 uc _ _ Hs.out Hc.out).mono ?_
                    rintro e we ⟨rfl, hbE⟩
                    clear Hs Hc TR MR p0
                    replace X8 := Lib.hid (X8.out.below hbE)
                    replace X9 := Lib.hid (X9.out.below hbE)
                    replace X10 := Lib.hid (X10.out.below hbE)
                    replace BX := Lib.hid (Below.chain BX.out hbE)
                    clear hbE
                    have c10 := cell18 X10.out.range (j := 18) (by omega)
                    rw [hc18.out] at c10
                    have BN := Lib.hid HL5b
                    by_cases hn : n + 1 = 1000
                    · as_aux_lemma =>
                        go_wp2
                        go_ret
                        exact ⟨rfl, BX.out⟩
                    · as_aux_lemma =>
                        obtain ⟨H, hdj2, hH, hHb⟩ := BN.out hn
                        have DJ3 := Lib.hid (fun W => DoJob_c Y 7 ja jb W hY)
                        rw [hdj2] at DJ3
                        unfold aggI jobV at DJ3
                        have HHB := Lib.hid hHb
                        clear hdj2 hHb
                        have L10 := X10.out.range
                        have p0 := X9.out.cell 0
                        have p1 := X9.out.cell 1
                        have p2 := X9.out.cell 2
                        simp only [List.getElem?_toArray, List.getElem?_cons_zero, List.getElem?_cons_succ] at p0 p1 p2
                        go_wp2_with (refine wpList_loadB rfl _ rfl _ rfl Y ?_ hY ?_; exact L10)
                        refine (DJ3.out _).mono ?_
                        rintro e wf ⟨rfl, hbF⟩
                        clear L10 p0 p1 p2 c10 X10 X9 DJ3
                        replace X8 := Lib.hid (X8.out.below hbF)
                        replace BX := Lib.hid (Below.chain BX.out hbF)
                        clear hbF
                        have hne := X8.out.lt
                        have tb := (Bk.new wf 50 zBA).there (n := 19) (by decide)
                        have hx := below_cells (ints H) (wf.alloc (.cells zBA 50)) wf.heap.size 0 (below_one (w := wf) (.cells zBA 50)) (Nat.le_refl _)
                        have X34 : Bk ((wf.alloc (.cells zBA 50)).setCells wf.heap.size 0 (ints H)) wf.heap.size 50 (ints H).toArray := Bk.putB (b := zeroI) (Bk.new wf 50 zBA) zero_len hH
                        have X8a := X8.out.below hx
                        have c8 := cell18 X8a.range (j := 18) (by omega)
                        have f34 := X34.frozen 18
                        obtain ⟨u34, z34⟩ := there_some (X34.there (n := 19) (by rw [ints_size hH]; decide)) (j := 18) (by omega)
                        have R34 : Bk (((wf.alloc (.cells zBA 50)).setCells wf.heap.size 0 (ints H)).setCell ⟨wf.heap.size, 18, none⟩ (.int .i64 (bg b 18))) wf.heap.size 50 (ints b).toArray := by
                          have h2 := X34.setI 18 (bg b 18)
                          rw [HN.out] at h2 ⊢
                          rw [HHB.out] at h2
                          exact h2
                        have R8 := X8a.other (p := ⟨wf.heap.size, 18, none⟩) (by simp; omega) (.int .i64 (bg b 18))
                        have hz := Lib.hid (hx.setCell (p := ⟨wf.heap.size, 18, none⟩) (Nat.le_refl _) (.int .i64 (bg b 18)))
                        replace BX := Lib.hid (Below.chain BX.out hz.out)
                        have L34 := R34.range
                        have L8 := R8.range
                        have eqB := fun W => bench_equal hl W
                        clear X34 X8a R34 R8 hz hx X8
                        unfold zBA at *
                        go_wp2_with (first | (refine wpList_storeB rfl _ _ rfl _ H rfl rfl ?_ hH ?_; exact tb) | (refine wpList_loadB rfl _ rfl _ rfl b ?_ hl ?_; first | exact L34 | exact L8))
                        go_ret
                        exact ⟨rfl, BX.out⟩
                · have e6 : (jk != 6) = true := by simpa using h6
                  have e7 : (jk != 7) = true := by simpa using h7
                  clear h6 h7
                  as_aux_lemma =>
                    go_wp2
                    go_ret
                    exact ⟨rfl, BX.out⟩
      | true =>
        as_aux_lemma =>
          have IA := Lib.hid (fun W => IsBench_c E W hE)
          rw [HG2.out rfl] at IA
          have LXA := X16.out.range
          go_wp2_with (refine wpList_loadB rfl _ rfl _ rfl E ?_ hE ?_; exact LXA)
          refine (IA.out _).mono ?_
          rintro e wq ⟨rfl, hbA⟩
          clear LXA IA
          replace X8 := Lib.hid (X8.out.below hbA)
          replace X9 := Lib.hid (X9.out.below hbA)
          replace X10 := Lib.hid (X10.out.below hbA)
          replace X16 := Lib.hid (X16.out.below hbA)
          replace H26 := Lib.hid (H26.out.below hbA)
          replace BX := Lib.hid (Below.chain BX.out hbA)
          clear hbA
          clear X16 HG2
          cases ok1 with
          | false =>
            as_aux_lemma =>
              go_wp2
              go_ret
              exact ⟨rfl, BX.out⟩
          | true =>
            as_aux_lemma =>
              obtain ⟨hg, hp, hYe⟩ := HF.out rfl
              obtain ⟨g1, g2, g3, g4, g5⟩ := BL.out hg hp
              rw [← hYe] at g1 g2 g3 g5
              obtain ⟨n, hn0⟩ : ∃ n, bg b 18 = n := ⟨_, rfl⟩
              have HN := Lib.hid hn0
              rw [hn0] at g3 g4 g5
              obtain ⟨n0, n1⟩ := g4
              have hc18 := Lib.hid g3
              have HL5 := Lib.hid g5
              have IY := Lib.hid (fun W => IsBench_c Y W hY)
              have BY := Lib.hid (fun W => BenchRow_c Y W hY)
              rw [g1] at IY BY
              clear hg hp hYe g1 g2 g3 g5 BL HF HDJ hn0
              have L10 := X10.out.range
              go_wp2_with (refine wpList_loadB rfl _ rfl _ rfl Y ?_ hY ?_; exact L10)
              refine (BY.out _).mono ?_
              rintro e wb ⟨uc, rfl, ho, hbB⟩
              have Hc := Lib.hid (Ints.of_own ho)
              clear ho L10 BY
              replace X8 := Lib.hid (X8.out.below hbB)
              replace X9 := Lib.hid (X9.out.below hbB)
              replace X10 := Lib.hid (X10.out.below hbB)
              replace H26 := Lib.hid (H26.out.below hbB)
              replace BX := Lib.hid (Below.chain BX.out hbB)
              clear hbB
              have L10 := X10.out.range
              go_wp2_with (refine wpList_loadB rfl _ rfl _ rfl Y ?_ hY ?_; exact L10)
              refine (IY.out _).mono ?_
              rintro e wc ⟨rfl, hbC⟩
              clear L10 IY
              replace X8 := Lib.hid (X8.out.below hbC)
              replace X9 := Lib.hid (X9.out.below hbC)
              replace X10 := Lib.hid (X10.out.below hbC)
              replace H26 := Lib.hid (H26.out.below hbC)
              replace Hc := Lib.hid (Hc.out.below hbC)
              replace BX := Lib.hid (Below.chain BX.out hbC)
              clear hbC
              have c10 := cell18 X10.out.range (j := 18) (by omega)
              have c8 := cell18 X8.out.range (j := 18) (by omega)
              rw [hc18.out] at c10
              rw [HN.out] at c8
              have p0 := X9.out.cell 0
              simp only [List.getElem?_toArray, List.getElem?_cons_zero] at p0
              by_cases h6 : jk = 6
              · subst h6
                as_aux_lemma =>
                  obtain ⟨hrw, hrow, HL5b⟩ := HL5.out (by omega)
                  have hrow2 : brL Y true = brvL true (brL b true) := hrow
                  rw [hrow2] at Hc
                  clear hrow hrow2
                  have TR := Lib.hid (fun W h => TurnRow_c u26 (brL b true) W h)
                  have MR := Lib.hid (fun W h => MirrorRow_c u26 (brL b true) W h)
                  rw [hrw] at TR MR
                  clear hrw
                  go_wp2_with fail
                  refine (TR.out _ H26.out).mono ?_
                  rintro e wt ⟨us, rfl, ho, hbD⟩
                  have Hs := Lib.hid (Ints.of_own ho)
                  clear ho p0 c10 c8
                  replace X8 := Lib.hid (X8.out.below hbD)
                  replace X9 := Lib.hid (X9.out.below hbD)
                  replace X10 := Lib.hid (X10.out.below hbD)
                  replace H26 := Lib.hid (H26.out.below hbD)
                  replace Hc := Lib.hid (Hc.out.below hbD)
                  replace BX := Lib.hid (Below.chain BX.out hbD)
                  clear hbD
                  have p0 := X9.out.cell 0
                  simp only [List.getElem?_toArray, List.getElem?_cons_zero] at p0
                  clear H26
                  go_wp2_with fail
                  refine (vIntsSame_c us uc _ _ Hs.out Hc.out).mono ?_
                  rintro e we ⟨rfl, hbE⟩
                  clear Hs Hc TR MR p0
                  replace X8 := Lib.hid (X8.out.below hbE)
                  replace X9 := Lib.hid (X9.out.below hbE)
                  replace X10 := Lib.hid (X10.out.below hbE)
                  replace BX := Lib.hid (Below.chain BX.out hbE)
                  clear hbE
                  have c10 := cell18 X10.out.range (j := 18) (by omega)
                  rw [hc18.out] at c10
                  have BN := Lib.hid HL5b
                  by_cases hn : n + 1 = 1000
                  · as_aux_lemma =>
                      go_wp2
                      go_ret
                      exact ⟨rfl, BX.out⟩
                  · as_aux_lemma =>
                      obtain ⟨H, hdj2, hH, hHb⟩ := BN.out hn
                      have DJ3 := Lib.hid (fun W => DoJob_c Y 6 ja jb W hY)
                      rw [hdj2] at DJ3
                      unfold aggI jobV at DJ3
                      have HHB := Lib.hid hHb
                      clear hdj2 hHb
                      have L10 := X10.out.range
                      have p0 := X9.out.cell 0
                      have p1 := X9.out.cell 1
                      have p2 := X9.out.cell 2
                      simp only [List.getElem?_toArray, List.getElem?_cons_zero, List.getElem?_cons_succ] at p0 p1 p2
                      go_wp2_with (refine wpList_loadB rfl _ rfl _ rfl Y ?_ hY ?_; exact L10)
                      refine (DJ3.out _).mono ?_
                      rintro e wf ⟨rfl, hbF⟩
                      clear L10 p0 p1 p2 c10 X10 X9 DJ3
                      replace X8 := Lib.hid (X8.out.below hbF)
                      replace BX := Lib.hid (Below.chain BX.out hbF)
                      clear hbF
                      have hne := X8.out.lt
                      have tb := (Bk.new wf 50 zBA).there (n := 19) (by decide)
                      have hx := below_cells (ints H) (wf.alloc (.cells zBA 50)) wf.heap.size 0 (below_one (w := wf) (.cells zBA 50)) (Nat.le_refl _)
                      have X34 : Bk ((wf.alloc (.cells zBA 50)).setCells wf.heap.size 0 (ints H)) wf.heap.size 50 (ints H).toArray := Bk.putB (b := zeroI) (Bk.new wf 50 zBA) zero_len hH
                      have X8a := X8.out.below hx
                      have c8 := cell18 X8a.range (j := 18) (by omega)
                      have f34 := X34.frozen 18
                      obtain ⟨u34, z34⟩ := there_some (X34.there (n := 19) (by rw [ints_size hH]; decide)) (j := 18) (by omega)
                      have R34 : Bk (((wf.alloc (.cells zBA 50)).setCells wf.heap.size 0 (ints H)).setCell ⟨wf.heap.size, 18, none⟩ (.int .i64 (bg b 18))) wf.heap.size 50 (ints b).toArray := by
                        have h2 := X34.setI 18 (bg b 18)
                        rw [HN.out] at h2 ⊢
                        rw [HHB.out] at h2
                        exact h2
                      have R8 := X8a.other (p := ⟨wf.heap.size, 18, none⟩) (by simp; omega) (.int .i64 (bg b 18))
                      have hz := Lib.hid (hx.setCell (p := ⟨wf.heap.size, 18, none⟩) (Nat.le_refl _) (.int .i64 (bg b 18)))
                      replace BX := Lib.hid (Below.chain BX.out hz.out)
                      have L34 := R34.range
                      have L8 := R8.range
                      have eqB := fun W => bench_equal hl W
                      clear X34 X8a R34 R8 hz hx X8
                      unfold zBA at *
                      go_wp2_with (first | (refine wpList_storeB rfl _ _ rfl _ H rfl rfl ?_ hH ?_; exact tb) | (refine wpList_loadB rfl _ rfl _ rfl b ?_ hl ?_; first | exact L34 | exact L8))
                      go_ret
                      exact ⟨rfl, BX.out⟩
              · by_cases h7 : jk = 7
                · subst h7
                  as_aux_lemma =>
                    obtain ⟨hrw, hrow, HL5b⟩ := HL5.out (by omega)
                    have hrow2 : brL Y true = brvL false (brL b true) := hrow
                    rw [hrow2] at Hc
                    clear hrow hrow2
                    have TR := Lib.hid (fun W h => TurnRow_c u26 (brL b true) W h)
                    have MR := Lib.hid (fun W h => MirrorRow_c u26 (brL b true) W h)
                    rw [hrw] at TR MR
                    clear hrw
                    go_wp2_with fail
                    refine (TR.out _ H26.out).mono ?_
                    rintro e wt ⟨us, rfl, ho, hbD⟩
                    have Hs := Lib.hid (Ints.of_own ho)
                    clear ho p0 c10 c8
                    replace X8 := Lib.hid (X8.out.below hbD)
                    replace X9 := Lib.hid (X9.out.below hbD)
                    replace X10 := Lib.hid (X10.out.below hbD)
                    replace H26 := Lib.hid (H26.out.below hbD)
                    replace Hc := Lib.hid (Hc.out.below hbD)
                    replace BX := Lib.hid (Below.chain BX.out hbD)
                    clear hbD
                    have p0 := X9.out.cell 0
                    simp only [List.getElem?_toArray, List.getElem?_cons_zero] at p0
                    go_wp2_with fail
                    refine (MR.out _ H26.out).mono ?_
                    rintro e wm ⟨us2, rfl, ho, hbD⟩
                    clear Hs p0
                    have Hs := Lib.hid (Ints.of_own ho)
                    clear ho
                    replace X8 := Lib.hid (X8.out.below hbD)
                    replace X9 := Lib.hid (X9.out.below hbD)
                    replace X10 := Lib.hid (X10.out.below hbD)
                    replace Hc := Lib.hid (Hc.out.below hbD)
                    replace BX := Lib.hid (Below.chain BX.out hbD)
                    clear hbD
                    have p0 := X9.out.cell 0
                    simp only [List.getElem?_toArray, List.getElem?_cons_zero] at p0
                    clear H26
                    go_wp2_with fail
                    refine (vIntsSame_c us2 uc _ _ Hs.out Hc.out).mono ?_
                    rintro e we ⟨rfl, hbE⟩
                    clear Hs Hc TR MR p0
                    replace X8 := Lib.hid (X8.out.below hbE)
                    replace X9 := Lib.hid (X9.out.below hbE)
                    replace X10 := Lib.hid (X10.out.below hbE)
                    replace BX := Lib.hid (Below.chain BX.out hbE)
                    clear hbE
                    have c10 := cell18 X10.out.range (j := 18) (by omega)
                    rw [hc18.out] at c10
                    have BN := Lib.hid HL5b
                    by_cases hn : n + 1 = 1000
                    · as_aux_lemma =>
                        go_wp2
                        go_ret
                        exact ⟨rfl, BX.out⟩
                    · as_aux_lemma =>
                        obtain ⟨H, hdj2, hH, hHb⟩ := BN.out hn
                        have DJ3 := Lib.hid (fun W => DoJob_c Y 7 ja jb W hY)
                        rw [hdj2] at DJ3
                        unfold aggI jobV at DJ3
                        have HHB := Lib.hid hHb
                        clear hdj2 hHb
                        have L10 := X10.out.range
                        have p0 := X9.out.cell 0
                        have p1 := X9.out.cell 1
                        have p2 := X9.out.cell 2
                        simp only [List.getElem?_toArray, List.getElem?_cons_zero, List.getElem?_cons_succ] at p0 p1 p2
                        go_wp2_with (refine wpList_loadB rfl _ rfl _ rfl Y ?_ hY ?_; exact L10)
                        refine (DJ3.out _).mono ?_
                        rintro e wf ⟨rfl, hbF⟩
                        clear L10 p0 p1 p2 c10 X10 X9 DJ3
                        replace X8 := Lib.hid (X8.out.below hbF)
                        replace BX := Lib.hid (Below.chain BX.out hbF)
                        clear hbF
                        have hne := X8.out.lt
                        have tb := (Bk.new wf 50 zBA).there (n := 19) (by decide)
                        have hx := below_cells (ints H) (wf.alloc (.cells zBA 50)) wf.heap.size 0 (below_one (w := wf) (.cells zBA 50)) (Nat.le_refl _)
                        have X34 : Bk ((wf.alloc (.cells zBA 50)).setCells wf.heap.size 0 (ints H)) wf.heap.size 50 (ints H).toArray := Bk.putB (b := zeroI) (Bk.new wf 50 zBA) zero_len hH
                        have X8a := X8.out.below hx
                        have c8 := cell18 X8a.range (j := 18) (by omega)
                        have f34 := X34.frozen 18
                        obtain ⟨u34, z34⟩ := there_some (X34.there (n := 19) (by rw [ints_size hH]; decide)) (j := 18) (by omega)
                        have R34 : Bk (((wf.alloc (.cells zBA 50)).setCells wf.heap.size 0 (ints H)).setCell ⟨wf.heap.size, 18, none⟩ (.int .i64 (bg b 18))) wf.heap.size 50 (ints b).toArray := by
                          have h2 := X34.setI 18 (bg b 18)
                          rw [HN.out] at h2 ⊢
                          rw [HHB.out] at h2
                          exact h2
                        have R8 := X8a.other (p := ⟨wf.heap.size, 18, none⟩) (by simp; omega) (.int .i64 (bg b 18))
                        have hz := Lib.hid (hx.setCell (p := ⟨wf.heap.size, 18, none⟩) (Nat.le_refl _) (.int .i64 (bg b 18)))
                        replace BX := Lib.hid (Below.chain BX.out hz.out)
                        have L34 := R34.range
                        have L8 := R8.range
                        have eqB := fun W => bench_equal hl W
                        clear X34 X8a R34 R8 hz hx X8
                        unfold zBA at *
                        go_wp2_with (first | (refine wpList_storeB rfl _ _ rfl _ H rfl rfl ?_ hH ?_; exact tb) | (refine wpList_loadB rfl _ rfl _ rfl b ?_ hl ?_; first | exact L34 | exact L8))
                        go_ret
                        exact ⟨rfl, BX.out⟩
                · have e6 : (jk != 6) = true := by simpa using h6
                  have e7 : (jk != 7) = true := by simpa using h7
                  clear h6 h7
                  as_aux_lemma =>
                    go_wp2
                    go_ret
                    exact ⟨rfl, BX.out⟩
end Go.Proofs.Ytfbnmkpkihfocaa
