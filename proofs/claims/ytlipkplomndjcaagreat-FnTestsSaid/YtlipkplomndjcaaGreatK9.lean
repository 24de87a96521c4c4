/- Texts of this claim, gathered: DrawU, Tsp, HelpFault, Vs, Vp, Vi. -/
import Derived.Test.YtlipkplomndjcaaGreatK8
import Derived.Deep.RegionHeld3
import Derived.Test.YtlipkplomndjcaaGreatProg
namespace Go.Proofs.YtlipkplomndjcaaGreat
open Go.RowKit
set_option linter.unusedVariables false
set_option linter.unusedSimpArgs false
set_option maxRecDepth 100000
theorem own_block_ne' {w : World} {lo g : Nat} {e : TypeId} {size n : Nat} {v : Value} {xs : List Value} (h : w.ownsRow lo e size v n xs) (hg : g < lo) : v.ownBlock ≠ some g := by
  rcases h.2 with ⟨rfl, _⟩ | ⟨k, cap, cur, rfl, hb, _⟩
  · simp [Value.ownBlock]
  · simp [Value.ownBlock]; omega
set_option maxHeartbeats 1000000 in
theorem state7_c (g m : Nat) (w : World) (h : CurAt w g m) (hm : m + 10 < 4611686018427387904) :
    Calls Tryz.prog 69 #[.pointer (some ⟨g, 0, none⟩)] w (DrawF w g (m + 10)) := by
  have hga := h.lt
  have B0 := Lib.hid (Bk.new w 35 #[.int .i64 0, .int .i64 0])
  have HC := Lib.hid ((CStep.refl h).alloc (.cells #[.int .i64 0, .int .i64 0] 35))
  clear h
  go_enter Tryz.func69, Tryz.ntmps69
  go_wp2_with fail
  refine (one_c 30 g m _ HC.out.cur (by omega)).mono ?_
  rintro e w1 ⟨b, rfl, hs⟩
  have HS := Lib.hid (HC.out.trans hs)
  have B1 := Lib.hid (B0.out.step hs (by omega))
  clear hs HC B0
  cases b with
  | true =>
    go_wp2_with fail
    refine (amongL_c [7, -1, 1] g _ _ _ rfl HS.out.cur (by omega) (by decide) (by decide)).mono ?_
    rintro e w2 ⟨x, rfl, _, hs⟩
    have HS2 := Lib.hid (HS.out.trans hs)
    have B2 := Lib.hid (B1.out.step hs (by omega))
    clear hs
    go_wp2_with fail
    refine (amongL_c [0, 3, -1, 1] g _ _ _ rfl HS2.out.cur (by omega) (by decide) (by decide)).mono ?_
    rintro e w3 ⟨y, rfl, _, hs⟩
    have HS3 := Lib.hid (HS2.out.trans hs)
    have B3 := Lib.hid (B2.out.step hs (by omega))
    obtain ⟨q0, q1, f0, f1⟩ := B3.out.two'
    clear hs
    go_wp2
    obtain ⟨z0, z1⟩ := two_res B3.out (.int .i64 x) (.int .i64 y)
    exact bodyPost_ret (v := .agg #[.int .i64 x, .int .i64 y]) (by simp [results, Tryz.results69, go_sem, z0, z1]) rfl ⟨x, y, rfl, ((HS3.out.store hga (p := ⟨w.heap.size, 0, none⟩) (Nat.le_refl _) _).store hga (p := ⟨w.heap.size, 1, none⟩) (Nat.le_refl _) _).mono (by omega)⟩
  | false =>
    go_wp2_with fail
    refine (l7All_c _).mono ?_
    rintro e w2 ⟨v, rfl, ho, hb⟩
    have HS2 := Lib.hid (HS.out.below hb)
    have B2 := Lib.hid (B1.out.below hb)
    have HO := Lib.hid ho
    have hgs := Lib.hid (show g < w1.heap.size from HS.out.cur.lt)
    obtain ⟨bb, cap, rfl, _, _, _, _⟩ := own_form ho (by decide)
    have hl15 : allSt.length = 15 := by decide
    clear ho hb
    go_wp2_with fail
    refine (pick_c 15 g _ _ HS2.out.cur (by omega)).mono ?_
    rintro e w3 ⟨x, rfl, hx, hs⟩
    have HS3 := Lib.hid (HS2.out.trans hs)
    have B3 := Lib.hid (B2.out.step hs (by omega))
    have HP := Lib.hid (Pairs.of_own (hs.row HO.out hgs.out))
    obtain ⟨q0, q1, f0, f1⟩ := B3.out.two'
    obtain ⟨k, rfl⟩ := Int.eq_ofNat_of_zero_le hx.1
    have hk : k < allSt.length := by have := hx.2 (by omega); rw [hl15]; omega
    have hk15 : k < 15 := by omega
    have hki : (k : Int) < 15 := by omega
    clear hs hx
    obtain ⟨s, hsx⟩ := elem_at hk
    obtain ⟨a2, c2, e2, _, _, HPp⟩ := HP.out.parts
    cases e2
    obtain ⟨b3, o3, e3, g0, g1⟩ := HPp.out k s hsx.out
    cases e3
    simp only [Nat.zero_add] at g0 g1
    clear HPp
    go_wp2
    obtain ⟨z0, z1⟩ := two_res B3.out (.int .i64 s.1) (.int .i64 s.2)
    exact bodyPost_ret (v := .agg #[.int .i64 s.1, .int .i64 s.2]) (by simp [results, Tryz.results69, go_sem, z0, z1]) rfl ⟨s.1, s.2, rfl, ((HS3.out.store hga (p := ⟨w.heap.size, 0, none⟩) (Nat.le_refl _) _).store hga (p := ⟨w.heap.size, 1, none⟩) (Nat.le_refl _) _).mono (by omega)⟩
theorem DrawIsState_c (v : Value) (xs : List Nat) (w : World) (h : Code w v xs) :
    Calls Tryz.prog 63 #[v] w fun e w' => ∃ d l : Int, e = .returned (.agg #[.int .i64 d, .int .i64 l]) ∧ Below w.heap.size w w' := by
  have HK := Lib.hid (cur_new (h.below (below_one (.cells #[.int .i64 0, .int .i64 0] 35))))
  have B0 := Lib.hid ((Bk.new w 35 #[.int .i64 0, .int .i64 0]).alloc (.cells #[v, .int .i64 0, .int .u64 0] 62))
  obtain ⟨a, c, rfl, _⟩ := h
  rw [World.size_alloc] at HK
  go_enter Tryz.func63, Tryz.ntmps63
  go_wp2_with fail
  refine (state7_c (w.heap.size + 1) 0 _ HK.out (by omega)).mono ?_
  rintro e w1 ⟨d, l, rfl, hs⟩
  have HS2 := Lib.hid hs
  have B2 := Lib.hid (B0.out.step hs (by omega))
  obtain ⟨q0, q1, f0, f1⟩ := B2.out.two'
  clear hs B0
  go_wp2
  obtain ⟨z0, z1⟩ := two_res B2.out (.int .i64 d) (.int .i64 l)
  have hb : Below w.heap.size w w1 := ((Below.refl _ _).alloc (Nat.le_refl _) _).trans (((Below.refl _ _).alloc (by simp) _).trans (HS2.out.low (by omega) (by simp; omega)))
  exact bodyPost_ret (v := .agg #[.int .i64 d, .int .i64 l]) (by simp [results, Tryz.results63, go_sem, z0, z1]) rfl ⟨d, l, rfl, two_below' hb (Nat.le_refl _) _ _⟩
theorem DrawFaultOfState_c (v : Value) (xs : List Nat) (w : World) (h : Code w v xs) :
    Calls Tryz.prog 20 #[v] w fun e w' => ∃ d l : Int, e = .returned (.agg #[.int .i64 d, .int .i64 l]) ∧ Below w.heap.size w w' := by
  have HK := Lib.hid (h.below (below_one (.cells #[.int .i64 0, .int .i64 0] 35)))
  have B0 := Lib.hid (Bk.new w 35 #[.int .i64 0, .int .i64 0])
  obtain ⟨a, c, rfl, _⟩ := h
  go_enter Tryz.func20, Tryz.ntmps20
  go_wp2_with fail
  refine (DrawIsState_c _ xs _ HK.out).mono ?_
  rintro e w1 ⟨d, l, rfl, hb⟩
  have B2 := Lib.hid (B0.out.below hb)
  obtain ⟨q0, q1, f0, f1⟩ := B2.out.two'
  have hb2 := Lib.hid (Below.chain (below_one _) hb)
  clear hb B0
  go_wp2
  obtain ⟨z0, z1⟩ := two_res B2.out (.int .i64 d) (.int .i64 l)
  exact bodyPost_ret (v := .agg #[.int .i64 d, .int .i64 l]) (by simp [results, Tryz.results20, go_sem, z0, z1]) rfl ⟨d, l, rfl, two_below' hb2.out (Nat.le_refl _) _ _⟩
theorem DrawShortestTest_c (v : Value) (xs : List Nat) (w : World) (h : Code w v xs) :
    Calls Tryz.prog 17 #[v] w fun e w' => ∃ (u : Value) (ys : List Int), e = .returned u ∧ ys.length ≤ 11 ∧ w'.ownsRow w.heap.size 3 1 u ys.length (ys.map (Value.int .i64)) ∧ Below w.heap.size w w' := by
  have HK := Lib.hid h
  obtain ⟨a, c, rfl, _⟩ := h
  go_enter Tryz.func17, Tryz.ntmps17
  go_wp2_with fail
  refine (DrawFoundStates_c _ xs _ HK.out).mono ?_
  rintro e w1 ⟨u, ys, rfl, hl, ho, hb⟩
  go_wp2
  go_ret
  exact ⟨u, ys, rfl, hl, ho, hb⟩
theorem DrawIsLeastTest_c (v : Value) (xs : List Nat) (w : World) (h : Code w v xs) :
    Calls Tryz.prog 13 #[v] w fun e w' => ∃ (u : Value) (ys : List Int), e = .returned u ∧ w'.ownsRow w.heap.size 3 1 u ys.length (ys.map (Value.int .i64)) ∧ Below w.heap.size w w' := by
  have HK := Lib.hid (cur_new h)
  obtain ⟨a, c, rfl, _⟩ := h
  go_enter Tryz.func13, Tryz.ntmps13
  go_wp2_with fail
  refine (test7_c w.heap.size 0 _ HK.out (by omega)).mono ?_
  rintro e w1 ⟨u, ys, rfl, hl, ho, hs⟩
  have HS := Lib.hid hs
  have HO := Lib.hid (own_lo ho (lo' := w.heap.size) (by simp))
  have hgs := Lib.hid (show w.heap.size < w1.heap.size from hs.cur.lt)
  have HN := Lib.hid (show u.ownBlock ≠ some w.heap.size from own_block_ne' ho (by simp))
  clear hs ho
  go_wp2_with fail
  refine (sShortestTest_c _ ys _ (Ints.of_own HO.out)).mono ?_
  rintro e w2 ⟨u2, rfl, ho2, hb⟩
  have HS2 := Lib.hid (HS.out.below hb)
  have HO2 := Lib.hid (own_keep HO.out hb)
  have HU2 := Lib.hid ho2
  clear hb ho2
  generalize shL ys = L at *
  rcases hB : shB ys with _ | _
  · rw [hB] at *
    go_wp2
    go_ret
    exact ⟨_, ys, rfl, HO2.out, draw_below HS2.out⟩
  · go_wp2_with fail
    refine (one_c 2 w.heap.size _ _ HS2.out.cur (by omega)).mono ?_
    rintro e w3 ⟨b, rfl, hs⟩
    have HS3 := Lib.hid (HS2.out.trans hs)
    have HU3 := Lib.hid (own_lo (hs.row HU2.out hgs.out) (lo' := w.heap.size) (by have := hgs.out; omega))
    have HO3 := Lib.hid (HO2.out.kept hs.gr (.inr HN.out))
    clear hs
    cases b with
    | true =>
      go_wp2
      go_ret
      exact ⟨_, L, rfl, HU3.out, draw_below HS3.out⟩
    | false =>
      go_wp2
      go_ret
      exact ⟨_, ys, rfl, HO3.out, draw_below HS3.out⟩
theorem sIsState_c (bar kind : Int) (w : World) : Calls Tryz.prog 26 #[.agg #[.int .i64 bar, .int .i64 kind]] w fun e w' => e = .returned (.bool (stateB bar kind)) ∧ Below w.heap.size w w' := by
  go_enter Tryz.func26, Tryz.ntmps26
  go_wp2_with fail
  refine (l7State_c bar kind _).mono ?_
  rintro e w1 ⟨rfl, hb1⟩
  go_wp2
  go_ret
  exact ⟨rfl, by (repeat (first | exact Below.refl _ _ | exact (Below.refl _ _).drew | assumption | exact below_one _ | refine Below.chain ?_ (by assumption) | refine Below.drew ?_ | refine Below.alc ?_ _ | refine below_drewN ?_ | (refine Below.setCell ?_ ?_ _) | exact Nat.le_refl _ | (simp; done) | (simp; omega)))⟩
def fsD (bar kind : Int) : Int := if stateB bar kind then stD bar kind else 0
def fsK (bar kind : Int) : Int := if stateB bar kind then stL bar kind else 0
def fsV (bar kind : Int) : Value := .tuple #[.agg #[.int .i64 (fsD bar kind), .int .i64 (fsK bar kind)], .bool (stateB bar kind)]
theorem FaultOfState_c (bar kind : Int) (w : World) : Calls Tryz.prog 21 #[.agg #[.int .i64 bar, .int .i64 kind]] w fun e w' => e = .returned (fsV bar kind) ∧ Below w.heap.size w w' := by
  have B1 := Lib.hid (Bk.new (w.alloc (.cells #[.int .i64 bar, .int .i64 kind] 35)) 38 #[.int .i64 0, .int .i64 0])
  rw [World.size_alloc] at B1
  have B0 := Lib.hid ((Bk.new w 35 #[.int .i64 bar, .int .i64 kind]).alloc (.cells #[.int .i64 0, .int .i64 0] 38))
  have hb0 : Hid (Below w.heap.size w ((w.alloc (.cells #[.int .i64 bar, .int .i64 kind] 35)).alloc (.cells #[.int .i64 0, .int .i64 0] 38))) := Below.alc (below_one _) _
  rcases hq : stateB bar kind with _ | _
  · have HF := Lib.hid (show fsV bar kind = .tuple #[.agg #[.int .i64 0, .int .i64 0], .bool false] by simp [fsV, fsD, fsK, hq])
    have HQ := Lib.hid hq; clear hq
    go_enter Tryz.func21, Tryz.ntmps21
    go_wp2_with fail
    refine (IsState_c bar kind _).mono ?_
    rintro e w1 ⟨rfl, hb1⟩
    rw [HQ.out]
    have C1 := Lib.hid (B1.out.below hb1)
    have hb := Lib.hid (hb0.out.trans (hb1.mono hb0.out.size))
    obtain ⟨q0, q1, f0, f1⟩ := C1.out.two'
    clear hb1
    go_wp2
    obtain ⟨z0, z1⟩ := two_res C1.out (.int .i64 0) (.int .i64 0)
    exact bodyPost_ret (v := .tuple #[.agg #[.int .i64 0, .int .i64 0], .bool false]) (by simp [results, Tryz.results21, go_sem, z0, z1]) rfl ⟨by rw [HF.out], two_below' hb.out (by omega) _ _⟩
  · have HF := Lib.hid (show fsV bar kind = .tuple #[.agg #[.int .i64 (stD bar kind), .int .i64 (stL bar kind)], .bool true] by simp [fsV, fsD, fsK, hq])
    have HQ := Lib.hid hq; clear hq
    go_enter Tryz.func21, Tryz.ntmps21
    go_wp2_with fail
    refine (IsState_c bar kind _).mono ?_
    rintro e w1 ⟨rfl, hb1⟩
    rw [HQ.out]
    have C1 := Lib.hid (B1.out.below hb1)
    have C0 := Lib.hid (B0.out.below hb1)
    have hb := Lib.hid (hb0.out.trans (hb1.mono hb0.out.size))
    have p0 : w1.cell? ⟨w.heap.size, 0, none⟩ = some (.int .i64 bar) := C0.out.cell 0
    have p1 : w1.cell? ⟨w.heap.size, 1, none⟩ = some (.int .i64 kind) := C0.out.cell 1
    clear hb1
    go_wp2_with fail
    refine (Sfault_c bar kind HQ.out _).mono ?_
    rintro e w2 ⟨rfl, hb2⟩
    unfold faultV
    have D1 := Lib.hid (C1.out.below hb2)
    have hbb := Lib.hid (Below.chain hb.out hb2)
    obtain ⟨q0, q1, f0, f1⟩ := D1.out.two'
    clear hb2
    go_wp2
    obtain ⟨z0, z1⟩ := two_res D1.out (.int .i64 (stD bar kind)) (.int .i64 (stL bar kind))
    exact bodyPost_ret (v := .tuple #[.agg #[.int .i64 (stD bar kind), .int .i64 (stL bar kind)], .bool true]) (by simp [results, Tryz.results21, go_sem, z0, z1]) rfl ⟨by rw [HF.out], two_below' hbb.out (by omega) _ _⟩
theorem sFaultOfState_c (bar kind : Int) (w : World) : Calls Tryz.prog 22 #[.agg #[.int .i64 bar, .int .i64 kind]] w fun e w' => e = .returned (fsV bar kind) ∧ Below w.heap.size w w' := by
  have B1 := Lib.hid (Bk.new (w.alloc (.cells #[.int .i64 bar, .int .i64 kind] 35)) 38 #[.int .i64 0, .int .i64 0])
  rw [World.size_alloc] at B1
  have B0 := Lib.hid ((Bk.new w 35 #[.int .i64 bar, .int .i64 kind]).alloc (.cells #[.int .i64 0, .int .i64 0] 38))
  have hb0 : Hid (Below w.heap.size w ((w.alloc (.cells #[.int .i64 bar, .int .i64 kind] 35)).alloc (.cells #[.int .i64 0, .int .i64 0] 38))) := Below.alc (below_one _) _
  rcases hq : stateB bar kind with _ | _
  · have HF := Lib.hid (show fsV bar kind = .tuple #[.agg #[.int .i64 0, .int .i64 0], .bool false] by simp [fsV, fsD, fsK, hq])
    have HQ := Lib.hid hq; clear hq
    go_enter Tryz.func22, Tryz.ntmps22
    go_wp2_with fail
    refine (l7State_c bar kind _).mono ?_
    rintro e w1 ⟨rfl, hb1⟩
    rw [HQ.out]
    have C1 := Lib.hid (B1.out.below hb1)
    have hb := Lib.hid (hb0.out.trans (hb1.mono hb0.out.size))
    obtain ⟨q0, q1, f0, f1⟩ := C1.out.two'
    clear hb1
    go_wp2
    obtain ⟨z0, z1⟩ := two_res C1.out (.int .i64 0) (.int .i64 0)
    exact bodyPost_ret (v := .tuple #[.agg #[.int .i64 0, .int .i64 0], .bool false]) (by simp [results, Tryz.results22, go_sem, z0, z1]) rfl ⟨by rw [HF.out], two_below' hb.out (by omega) _ _⟩
  · have HF := Lib.hid (show fsV bar kind = .tuple #[.agg #[.int .i64 (stD bar kind), .int .i64 (stL bar kind)], .bool true] by simp [fsV, fsD, fsK, hq])
    have HQ := Lib.hid hq; clear hq
    go_enter Tryz.func22, Tryz.ntmps22
    go_wp2_with fail
    refine (l7State_c bar kind _).mono ?_
    rintro e w1 ⟨rfl, hb1⟩
    rw [HQ.out]
    have C1 := Lib.hid (B1.out.below hb1)
    have C0 := Lib.hid (B0.out.below hb1)
    have hb := Lib.hid (hb0.out.trans (hb1.mono hb0.out.size))
    have p0 : w1.cell? ⟨w.heap.size, 0, none⟩ = some (.int .i64 bar) := C0.out.cell 0
    have p1 : w1.cell? ⟨w.heap.size, 1, none⟩ = some (.int .i64 kind) := C0.out.cell 1
    clear hb1
    go_wp2_with fail
    refine (l7Fault_c bar kind HQ.out _).mono ?_
    rintro e w2 ⟨rfl, hb2⟩
    unfold faultV
    have D1 := Lib.hid (C1.out.below hb2)
    have hbb := Lib.hid (Below.chain hb.out hb2)
    obtain ⟨q0, q1, f0, f1⟩ := D1.out.two'
    clear hb2
    go_wp2
    obtain ⟨z0, z1⟩ := two_res D1.out (.int .i64 (stD bar kind)) (.int .i64 (stL bar kind))
    exact bodyPost_ret (v := .tuple #[.agg #[.int .i64 (stD bar kind), .int .i64 (stL bar kind)], .bool true]) (by simp [results, Tryz.results22, go_sem, z0, z1]) rfl ⟨by rw [HF.out], two_below' hbb.out (by omega) _ _⟩
end Go.Proofs.YtlipkplomndjcaaGreat
namespace Go.Proofs.YtlipkplomndjcaaGreat
set_option linter.unusedVariables false
theorem allSt_state : ∀ s ∈ allSt, stateB s.1 s.2 = true := by decide
theorem found_at {xs : List Int} {s : Int × Int} (h : s ∈ foundSt xs) : stateB s.1 s.2 = true ∧ 0 ≤ placeOf s.1 s.2 xs := by
  unfold foundSt at h
  rw [List.mem_filter] at h
  exact ⟨allSt_state s h.1, by simpa using h.2⟩
theorem hidden_at {xs : List Int} {s : Int × Int} (h : s ∈ hiddenSt xs) : placeOf s.1 s.2 xs < 0 := by
  unfold hiddenSt at h
  rw [List.mem_filter] at h
  have := h.2
  simp only [Bool.and_eq_true, decide_eq_true_eq] at this
  exact this.2
theorem firstAt_lt {α : Type} (p : α → Bool) (xs : List α) : firstAt p xs < (xs.length : Int) ∨ xs = [] := by
  unfold firstAt
  cases h : xs.findIdx? p with
  | none =>
    cases xs with
    | nil => exact .inr rfl
    | cons a l => left; simp; omega
  | some i =>
    left
    have := (List.findIdx?_eq_some_iff_getElem.1 h).1
    simp; exact this
theorem place_lt {b k : Int} {xs : List Int} (h : 0 ≤ placeOf b k xs) : placeOf b k xs < (xs.length : Int) := by
  rcases firstAt_lt (finds b k) xs with h1 | h1
  · exact h1
  · subst h1
    simp [placeOf, firstAt] at h
theorem least_full {xs : List Int} (h : leastL (setS xs) = true) : fullB xs = true := by
  unfold leastL at h
  rw [Bool.and_eq_true] at h
  exact full_mono (fun x hx => (setS_mem xs x).1 hx) h.2
theorem found_ff {xs : List Int} {s : Int × Int} (ht : testB xs = true) (h : s ∈ foundSt xs) : firstFindingV xs s.1 s.2 = .tuple #[.int .i64 (placeOf s.1 s.2 xs), .bool true] ∧ 0 ≤ placeOf s.1 s.2 xs ∧ placeOf s.1 s.2 xs < (xs.length : Int) := by
  have := found_at h
  refine ⟨?_, this.2, place_lt this.2⟩
  have hq : ffOk xs s.1 s.2 = true := by simp [ffOk, ht, this.1, this.2]
  simp [firstFindingV, ffN, hq]
theorem hidden_ff {xs : List Int} {s : Int × Int} (h : s ∈ hiddenSt xs) : firstFindingV xs s.1 s.2 = .tuple #[.int .i64 0, .bool false] := by
  have := hidden_at h
  have hq : ffOk xs s.1 s.2 = false := by simp [ffOk]; omega
  simp [firstFindingV, ffN, hq]
theorem test_asc {l : List Int} (h1 : setS l = l) (h2 : ∀ y ∈ l, digitB y = true) : testB l = true := by
  have h3 : l.Pairwise (· < ·) := by rw [← h1]; exact setS_lt l
  have := (sub_ten h3 h2).length_le
  unfold testB
  rw [Bool.and_eq_true, List.all_eq_true]
  exact ⟨decide_eq_true this, h2⟩
theorem short_facts {v : List Int} (h : shB v = true) : testB (shL v) = true ∧ fullB (shL v) = true ∧ leastL (setS (shL v)) = true ∧ ∀ x ∈ shL v, x ∈ v := by
  unfold shB at h
  rw [Bool.and_eq_true, Option.isSome_iff_exists] at h
  obtain ⟨ht, b, hb⟩ := h
  have hL : shL v = b := by simp [shL, ht, hb]
  obtain ⟨h1, h2, h3, h4⟩ := short_some hb
  rw [hL]
  refine ⟨test_asc h3 (fun y hy => ?_), h1, by rw [h3]; exact h2, h4⟩
  unfold testB at ht
  rw [Bool.and_eq_true, List.all_eq_true] at ht
  exact ht.2 y (h4 y hy)
theorem short_not {v : List Int} (h : shB v = false) : (testB v && fullB v) = false := by
  unfold shB at h
  cases ht : testB v
  · rfl
  · rw [ht] at h
    simp only [Bool.true_and, Option.isSome_eq_false_iff, Option.isNone_iff_eq_none] at h
    rw [short_none h]; rfl
theorem toldSt_yes {xs : List Int} {l : List (Int × Int)} (h : testB xs = true) : toldSt xs l = l := by simp [toldSt, h]
theorem fs_fault (b k : Int) : faultB (fsD b k) (fsK b k) = true := by
  unfold fsD fsK
  cases h : stateB b k
  · rw [if_neg (by simp), if_neg (by simp)]; decide
  · simp only [if_true]
    rcases stateB_cases h with ⟨rfl, rfl⟩ | ⟨rfl, h0, h1⟩ | ⟨rfl, h0, h1⟩
    · decide
    · rcases bar_cases h0 h1 with rfl | rfl | rfl | rfl | rfl | rfl | rfl <;> decide
    · rcases bar_cases h0 h1 with rfl | rfl | rfl | rfl | rfl | rfl | rfl <;> decide
end Go.Proofs.YtlipkplomndjcaaGreat
namespace Go.Proofs.YtlipkplomndjcaaGreat
open Go.RowKit
set_option linter.unusedVariables false
set_option maxRecDepth 100000

end Go.Proofs.YtlipkplomndjcaaGreat
namespace Go.Proofs.YtlipkplomndjcaaGreat
open Go.RowKit
set_option linter.unusedVariables false
set_option maxRecDepth 100000
theorem vInts_c (v1 v2 : Value) (xs ys : List Int) (w : World) (h1 : Ints w v1 xs) (h2 : Ints w v2 ys) :
    Calls Tryz.prog 24 #[v1, v2] w fun e w' => e = .returned (.bool (decide (xs = ys))) ∧ Below w.heap.size w w' := by
  have hm1 := h1.le; have hm2 := h2.le
  obtain ⟨a1, c1, rfl, _, _, H1⟩ := h1.parts
  obtain ⟨a2, c2, rfl, _, _, H2⟩ := h2.parts
  by_cases hl : xs.length = ys.length
  · have hlb : ((xs.length : Int) != (ys.length : Int)) = false := by simp [hl]
    have HL := Lib.hid hl; clear hl
    go_enter Tryz.func24, Tryz.ntmps24
    go_wp2
    go_loopw [5] (fun i wr => ∃ k : Nat, k ≤ xs.length ∧ i = .int .i64 k ∧ Hid (∀ j, j < k → xs[j]? = ys[j]?) ∧ Hid (∃ n, wr = w.drewN n)) (fun i _ => xs.length - (intOf i).toNat)
    case atStart => exact ⟨0, by omega, rfl, fun j hj => by omega, ⟨0, rfl⟩⟩
    case round =>
      obtain ⟨k, hk, rfl, hsame, hw⟩ := hrel
      by_cases hlt : k < xs.length
      · have hlt2 : k < ys.length := by rw [← HL.out]; exact hlt
        obtain ⟨x, hx⟩ := elem_at hlt
        obtain ⟨y, hy⟩ := elem_at hlt2
        obtain ⟨b1, o1, rfl, g1⟩ := H1.out k x hx.out
        obtain ⟨b2, o2, rfl, g2⟩ := H2.out k y hy.out
        obtain ⟨n, rfl⟩ := hw.out
        clear h1 h2
        go_wp2
        go_quiet (fail)
        go_wp2
        · rename_i ht
          go_ret
          refine ⟨bool_ret ?_, below_drewN (below_drewN (Below.refl _ _))⟩
          symm; apply decide_eq_false; rintro rfl
          have := hx.out.symm.trans hy.out; simp at this ht; exact ht this
        · rename_i ht
          exact ⟨⟨k+1, by omega, by go_num, fun j hj => by
            by_cases hj2 : j < k
            · exact hsame.out j hj2
            · obtain rfl : j = k := by omega
              rw [hx.out, hy.out]; simp at ht; rw [ht], ⟨_, rfl⟩⟩, by simp [intOf]; omega⟩
      · obtain ⟨n, rfl⟩ := hw.out
        go_wp2
        go_ret
        refine ⟨bool_ret ?_, below_drewN (Below.refl _ _)⟩
        symm; apply decide_eq_true
        exact list_eq_of HL.out (by omega) hsame.out
  · have hlb : ((xs.length : Int) != (ys.length : Int)) = true := by simp; omega
    go_enter Tryz.func24, Tryz.ntmps24
    go_wp2
    go_ret
    refine ⟨bool_ret ?_, Below.refl _ _⟩
    symm; apply decide_eq_false; rintro rfl; exact hl rfl

theorem vHas_c (v : Value) (xs : List Int) (x : Int) (w : World) (h : Ints w v xs) :
    Calls Tryz.prog 29 #[v, .int .i64 x] w fun e w' => e = .returned (.bool (decide (x ∈ xs))) ∧ w = w' := by
  have hm1 := h.le
  obtain ⟨a1, c1, rfl, _, _, H1⟩ := h.parts
  clear h
  go_enter Tryz.func29, Tryz.ntmps29
  go_wp2
  go_loopw [5] (fun i wr => ∃ k : Nat, k ≤ xs.length ∧ i = .int .i64 k ∧ Hid (∀ (j : Nat) (y : Int), j < k → xs[j]? = some y → y ≠ x) ∧ w = wr) (fun i _ => xs.length - (intOf i).toNat)
  case atStart => exact ⟨0, by omega, rfl, fun j y hj => by omega, rfl⟩
  case round =>
    obtain ⟨k, hk, rfl, hno, rfl⟩ := hrel
    by_cases hlt : k < xs.length
    · obtain ⟨y, hy⟩ := elem_at hlt
      obtain ⟨b1, o1, rfl, g1⟩ := H1.out k y hy.out
      have hd : decide ((k : Int) < (xs.length : Int)) = true := by simp; omega
      by_cases he : y = x
      · subst he
        have hmem : decide (y ∈ xs) = true := decide_eq_true (List.mem_of_getElem? hy.out)
        have HM := Lib.hid hmem
        clear hmem
        go_wp2
        go_ret
        exact ⟨bool_ret HM.out.symm, rfl⟩
      · have heb : (y == x) = false := by simpa using he
        have HE := Lib.hid he
        clear he
        go_wp2
        go_roundw
        case rel => exact ⟨k + 1, by omega, by go_num, fun j z hj hz => by
          by_cases hj2 : j < k
          · exact hno.out j z hj2 hz
          · obtain rfl : j = k := by omega
            rw [hy.out] at hz; cases hz; exact HE.out, trivial⟩
        case measure => simp [intOf]; omega
    · have hd : decide ((k : Int) < (xs.length : Int)) = false := by simp; omega
      go_wp2
      go_ret
      refine ⟨bool_ret ?_, rfl⟩
      symm; apply decide_eq_false
      intro hm
      obtain ⟨j, hj⟩ := List.mem_iff_getElem?.1 hm
      have hjl := (List.getElem?_eq_some_iff.1 hj).1
      exact hno.out j x (by omega) hj rfl
end Go.Proofs.YtlipkplomndjcaaGreat
namespace Go.Proofs.YtlipkplomndjcaaGreat
open Go.RowKit
set_option linter.unusedVariables false
set_option linter.unusedSimpArgs false
set_option maxRecDepth 100000
theorem vStatesSame_c (v1 v2 : Value) (xs : List (Int × Int)) (w : World) (h1 : Pairs w v1 xs) (h2 : Pairs w v2 xs) :
    Calls Tryz.prog 23 #[v1, v2] w fun e w' => e = .returned (.bool true) ∧ Below w.heap.size w w' := by
  have hm1 := h1.le
  obtain ⟨a1, c1, rfl, _, _, H1⟩ := h1.parts
  obtain ⟨a2, c2, rfl, _, _, H2⟩ := h2.parts
  have hlb : ((xs.length : Int) != (xs.length : Int)) = false := by simp
  go_enter Tryz.func23, Tryz.ntmps23
  go_wp2
  go_loopw [5] (fun i wr => ∃ k : Nat, k ≤ xs.length ∧ i = .int .i64 k ∧ Below w.heap.size w wr) (fun i _ => xs.length - (intOf i).toNat)
  case atStart => exact ⟨0, by omega, rfl, Below.refl _ _⟩
  case round =>
    obtain ⟨k, hk, rfl, hb⟩ := hrel
    by_cases hlt : k < xs.length
    · have hd : decide ((k : Int) < (xs.length : Int)) = true := by simp; omega
      obtain ⟨⟨x, x'⟩, hx⟩ := elem_at hlt
      obtain ⟨b1, o1, rfl, f1, f1'⟩ := H1.out k _ hx.out
      obtain ⟨b2, o2, rfl, f2, f2'⟩ := H2.out k _ hx.out
      have g1 := cell_later hb f1
      have g1' := cell_later hb f1'
      have g2 := cell_later hb f2
      have g2' := cell_later hb f2'
      clear h1 h2 f1 f1' f2 f2'
      go_wp2_with fail
      go_region
      go_wp2
      go_roundw
      case rel => exact ⟨k + 1, by omega, by go_num, hb.drew⟩
      case measure => simp [intOf]; omega
    · have hd : decide ((k : Int) < (xs.length : Int)) = false := by simp; omega
      go_wp2
      go_ret
      exact ⟨rfl, hb⟩
end Go.Proofs.YtlipkplomndjcaaGreat
namespace Go.Proofs.YtlipkplomndjcaaGreat
open Go.RowKit
theorem vIntsSame_c (v1 v2 : Value) (xs : List Int) (w : World) (h1 : Ints w v1 xs) (h2 : Ints w v2 xs) :
    Calls Tryz.prog 24 #[v1, v2] w fun e w' => e = .returned (.bool true) ∧ Below w.heap.size w w' :=
  (vInts_c v1 v2 xs xs w h1 h2).mono fun e w' h => ⟨by rw [h.1, decide_eq_true rfl], h.2⟩
end Go.Proofs.YtlipkplomndjcaaGreat
